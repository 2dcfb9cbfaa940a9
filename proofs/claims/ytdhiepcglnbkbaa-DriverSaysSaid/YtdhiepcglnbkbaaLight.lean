
/- LightReq, LightReqs: not too much? -/
import Derived.Test.YtdhiepcglnbkbaaMem
import Derived.Test.YtdhiepcglnbkbaaQuiet
namespace Go.Proofs.Ytdhiepcglnbkbaa
open Go.RowKit

theorem all_take_succ {α : Type} (p : α → Bool) (l : List α) (k : Nat) (x : α) (h : l[k]? = some x) : (l.take (k + 1)).all p = ((l.take k).all p && p x) := by
  rw [List.take_add_one, h]; simp
theorem all_not {α : Type} (p : α → Bool) (l : List α) (k : Nat) (x : α) (h : l[k]? = some x) (hp : p x = false) : l.all p = false := by
  rw [List.all_eq_false]
  exact ⟨x, List.mem_of_getElem? h, by simp [hp]⟩
theorem all_end {α : Type} (p : α → Bool) (l : List α) (k : Nat) (hk : l.length ≤ k) (h : (l.take k).all p = true) : l.all p = true := by
  rwa [List.take_of_length_le hk] at h

set_option maxRecDepth 100000 in
theorem lightreq_any (S : Nat → Prop) (r : Rq) (v : Value) (w : World) (h : ReqAt S w v r) :
    Calls Try.prog 52 #[v] w (Ret (.bool (lightReq r)) w) := by
  obtain ⟨Ad, cd, At, ct, rfl, hd, ht, dm, tm, _, _, _⟩ := h.opened
  have Hd := Lib.hid hd
  clear hd ht h
  by_cases g1 : r.data.length ≤ 8
  · by_cases g2 : r.tags.length ≤ 8
    · go_enter Try.func52, Try.ntmps52
      go_wp2
      go_loop [3] (fun i => ∃ k : Nat, k ≤ r.data.length ∧ i = .int .i64 k ∧ Hid ((r.data.take k).all (fun s => decide (s.size ≤ 10)) = true)) (fun i => r.data.length - (intOf i).toNat)
      case atStart => exact ⟨0, by omega, rfl, rfl⟩
      case round =>
        obtain ⟨k, hk, rfl, hall⟩ := hrel
        by_cases hlt : k < r.data.length
        · obtain ⟨b, off, rfl, _, hb, hc⟩ := Hd.out.at_ (by omega)
          have hx : r.data[k]? = some r.data[k] := List.getElem?_eq_getElem hlt
          obtain ⟨hcell, hsz⟩ := hc k _ hx
          unfold maxLen at hsz
          clear hc
          have Hx := Lib.hid hx
          clear hx
          generalize r.data[k] = s at hcell hsz Hx
          by_cases hs : s.size ≤ 10
          · go_wp2
            go_round
            case rel => exact ⟨k + 1, by omega, by go_num, by show _ = true; rw [all_take_succ _ _ _ _ Hx.out, hall.out]; simpa using hs⟩
            case measure => simp [intOf]; omega
          · go_wp2
            go_ret
            refine ⟨?_, (Below.refl _ _).alloc (Nat.le_refl _) _⟩
            have e : lightReq r = false := by unfold lightReq; rw [all_not _ _ _ _ Hx.out (by simpa using hs)]; simp
            rw [e]; rfl
        · go_wp2
          go_ret
          refine ⟨?_, (Below.refl _ _).alloc (Nat.le_refl _) _⟩
          have e : lightReq r = true := by unfold lightReq; rw [all_end _ _ _ (by omega) hall.out]; simp [g1, g2]
          rw [e]; rfl
    · have e : lightReq r = false := by unfold lightReq; simp [g2]
      rw [e]
      go_enter Try.func52, Try.ntmps52
      go_wp2
      go_ret
      exact ⟨rfl, (Below.refl _ _).alloc (Nat.le_refl _) _⟩
  · have e : lightReq r = false := by unfold lightReq; simp [g1]
    rw [e]
    go_enter Try.func52, Try.ntmps52
    go_wp2
    go_ret
    exact ⟨rfl, (Below.refl _ _).alloc (Nat.le_refl _) _⟩

end Go.Proofs.Ytdhiepcglnbkbaa
