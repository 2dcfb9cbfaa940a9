
/- The reference's GetBuf; Dirty, DirtyBufs. -/
import Derived.Test.YtdhiepcglnbkbaaBufGet
namespace Go.Proofs.Ytdhiepcglnbkbaa
set_option linter.unusedSimpArgs false
set_option linter.unusedVariables false
open Go.RowKit

set_option maxRecDepth 100000 in
set_option maxHeartbeats 2000000 in
theorem rget_any (S : Nat → Prop) (l : List Bf) (v : Value) (p : Int) (w : World) (h : BufsAt S w v l) (hr : Rises l) (hn : l.length ≤ 65536) :
    Calls Try.prog 40 #[v, .int .i64 p] w (Ret (.tuple #[bfV (getB l p).1, .bool (getB l p).2]) w) := by
  obtain ⟨A, cap, rfl, h1, h2⟩ := h.form
  unfold maxLen at h2
  have hz := zero_buf
  have H := Lib.hid h
  have HR := Lib.hid hr
  clear h hr
  obtain ⟨⟨g, G⟩, hG⟩ : ∃ x, getB l p = x := ⟨_, rfl⟩
  rw [hG]
  have HG := Lib.hid hG
  clear hG
  go_enter Try.func40, Try.ntmps40
  go_wp2_with fail
  have L := Lib.hid ((Lay.refl w).alloc' w.heap.size #[.int .i64 0, .string ⟨#[]⟩, .bool false, .int .i64 0] 72 rfl)
  generalize World.alloc _ _ = W at L ⊢
  go_loopw [6] (fun i wr => ∃ k : Nat, k ≤ l.length ∧ i = .int .i64 k ∧ Hid (Lay w wr [(w.heap.size, 72, #[.int .i64 0, .string ⟨#[]⟩, .bool false, .int .i64 0])]) ∧ Hid (∀ j b, j < k → l[j]? = some b → b.pos ≠ p)) (fun i _ => l.length - (intOf i).toNat)
  case atStart => exact ⟨0, by omega, rfl, L, (fun j b hj => by omega : ∀ j b, j < 0 → l[j]? = some b → b.pos ≠ p)⟩
  case round =>
    obtain ⟨k, hk, rfl, HL, hno⟩ := hrel
    obtain ⟨q0, q1, q2, q3⟩ := HL.out.c4 0 rfl
    have hfr := HL.out.frozen 0 rfl
    by_cases hlt : k < l.length
    · have hx : l[k]? = some l[k] := List.getElem?_eq_getElem hlt
      have hi1 : (k : Int) < (l.length : Int) := by omega
      obtain ⟨b, off, rfl, _, hbl, hc⟩ := (H.out.below HL.out.below).at_ (by omega)
      obtain ⟨hok, k0, k1, k2, k3⟩ := hc _ _ hx
      have Hx := Lib.hid hx
      clear hx hc
      generalize l[k] = x at *
      by_cases hp : x.pos = p
      · have hG := HG.out
        rw [getB_of HR.out Hx.out hp] at hG
        obtain ⟨e1, e2⟩ := Prod.mk.inj hG
        subst e1 e2
        clear hG
        subst hp
        go_wp2_with fail
        have L2 := HL.out.put4 0 rfl (.int .i64 x.pos) (.string x.data) (.bool x.dirty) (.int .i64 x.used)
        generalize World.setCell _ _ _ = W2 at L2 ⊢
        obtain ⟨q0, q1, q2, q3⟩ := L2.c4 0 rfl
        refine bodyPost_ret (v := .tuple #[bfV x, .bool true]) (by simp [results, Try.results40, go_sem, q0, q1, q2, q3]) rfl ?_
        exact ⟨rfl, L2.below⟩
      · go_wp2_with fail
        go_roundw
        case rel => exact ⟨k + 1, by omega, by go_num, HL, (fun j b hj hb => by
          rcases Nat.eq_or_lt_of_le (Nat.le_of_lt_succ hj) with e | e
          · subst e; rw [Hx.out] at hb; cases hb; exact hp
          · exact hno.out j b e hb : ∀ j b, j < k + 1 → l[j]? = some b → b.pos ≠ p)⟩
        case measure => simp [intOf]; omega
    · have hG := HG.out
      rw [getB_no (isB_false.2 (fun b hb => by
        obtain ⟨j, hj⟩ := List.mem_iff_getElem?.1 hb
        exact hno.out j b (by have := (List.getElem?_eq_some_iff.1 hj).1; omega) hj))] at hG
      cases hG
      have hi1 : decide ((k : Int) < (l.length : Int)) = false := by simp; omega
      go_wp2_with fail
      have L2 := HL.out.put4 0 rfl (.int .i64 0) (.string ⟨#[]⟩) (.bool false) (.int .i64 0)
      generalize World.setCell _ _ _ = W2 at L2 ⊢
      obtain ⟨q0, q1, q2, q3⟩ := L2.c4 0 rfl
      refine bodyPost_ret (v := .tuple #[bfV zeroBf, .bool false]) (by simp [results, Try.results40, go_sem, q0, q1, q2, q3, zeroBf]) rfl ?_
      exact ⟨rfl, L2.below⟩
theorem dirtyB_succ {l : List Bf} {k : Nat} {x : Bf} (h : l[k]? = some x) : dirtyB (l.take (k + 1)) = dirtyB (l.take k) + if x.dirty then 1 else 0 := by
  unfold dirtyB
  rw [List.take_add_one, h, List.countP_append]
  simp [List.countP_cons]
set_option maxRecDepth 100000 in
set_option maxHeartbeats 2000000 in
theorem dirty_any (S : Nat → Prop) (l : List Bf) (v : Value) (w : World) (h : BufsAt S w v l) (hn : l.length ≤ 65536) :
    Calls Try.prog 44 #[v] w (Ret (.int .i64 (dirtyB l : Nat)) w) := by
  obtain ⟨A, cap, rfl, h1, h2⟩ := h.form
  unfold maxLen at h2
  have hz := zero_buf
  have H := Lib.hid h
  clear h
  go_enter Try.func44, Try.ntmps44
  go_wp2_with fail
  go_loopw [3, 8] (fun s i wr => ∃ k : Nat, k ≤ l.length ∧ i = .int .i64 k ∧ s = .int .i64 (dirtyB (l.take k) : Nat) ∧ Below w.heap.size w wr) (fun _ i _ => l.length - (intOf i).toNat)
  case atStart => exact ⟨0, by omega, rfl, rfl, Below.refl _ _⟩
  case round =>
    obtain ⟨k, hk, rfl, rfl, hb⟩ := hrel
    by_cases hlt : k < l.length
    · have hx : l[k]? = some l[k] := List.getElem?_eq_getElem hlt
      have hi1 : (k : Int) < (l.length : Int) := by omega
      have hd : dirtyB (l.take k) ≤ k := by unfold dirtyB; exact Nat.le_trans List.countP_le_length (by simp; omega)
      obtain ⟨b, off, rfl, _, hbl, hc⟩ := (H.out.below hb).at_ (by omega)
      obtain ⟨hok, k0, k1, k2, k3⟩ := hc _ _ hx
      have Hx := Lib.hid hx
      clear hx hc
      generalize l[k] = x at *
      have HS := Lib.hid (dirtyB_succ Hx.out)
      generalize dirtyB (l.take k) = D at *
      cases hxd : x.dirty with
      | true =>
        have hS := HS.out
        rw [hxd, if_pos rfl] at hS
        rw [hxd] at k2
        go_wp2_with fail
        go_roundw
        case rel => exact ⟨k + 1, by omega, by go_num, by rw [hS]; go_num, hb.alloc hb.size _⟩
        case measure => simp [intOf]; omega
      | false =>
        have hS := HS.out
        rw [hxd, if_neg (by simp)] at hS
        rw [hxd] at k2
        go_wp2_with fail
        go_roundw
        case rel => exact ⟨k + 1, by omega, by go_num, by rw [hS]; go_num, hb.alloc hb.size _⟩
        case measure => simp [intOf]; omega
    · have e : l.take k = l := List.take_of_length_le (by omega)
      rw [e]
      have hi1 : decide ((k : Int) < (l.length : Int)) = false := by simp; omega
      go_wp2
      go_ret
      exact ⟨rfl, hb⟩
set_option maxRecDepth 100000 in
set_option maxHeartbeats 2000000 in
theorem rdirty_any (S : Nat → Prop) (l : List Bf) (v : Value) (w : World) (h : BufsAt S w v l) (hn : l.length ≤ 65536) :
    Calls Try.prog 45 #[v] w (Ret (.int .i64 (dirtyB l : Nat)) w) := by
  obtain ⟨A, cap, rfl, h1, h2⟩ := h.form
  unfold maxLen at h2
  have H := Lib.hid h
  clear h
  go_enter Try.func45, Try.ntmps45
  go_wp2_with fail
  go_loopw [3, 4] (fun s i wr => ∃ k : Nat, k ≤ l.length ∧ i = .int .i64 k ∧ s = .int .i64 (dirtyB (l.take k) : Nat) ∧ Below w.heap.size w wr) (fun _ i _ => l.length - (intOf i).toNat)
  case atStart => exact ⟨0, by omega, rfl, rfl, Below.refl _ _⟩
  case round =>
    obtain ⟨k, hk, rfl, rfl, hb⟩ := hrel
    by_cases hlt : k < l.length
    · have hx : l[k]? = some l[k] := List.getElem?_eq_getElem hlt
      have hi1 : (k : Int) < (l.length : Int) := by omega
      have hd : dirtyB (l.take k) ≤ k := by unfold dirtyB; exact Nat.le_trans List.countP_le_length (by simp; omega)
      obtain ⟨b, off, rfl, _, hbl, hc⟩ := (H.out.below hb).at_ (by omega)
      obtain ⟨hok, k0, k1, k2, k3⟩ := hc _ _ hx
      have Hx := Lib.hid hx
      clear hx hc
      generalize l[k] = x at *
      have HS := Lib.hid (dirtyB_succ Hx.out)
      generalize dirtyB (l.take k) = D at *
      cases hxd : x.dirty with
      | true =>
        have hS := HS.out
        rw [hxd, if_pos rfl] at hS
        rw [hxd] at k2
        go_wp2_with fail
        go_roundw
        case rel => exact ⟨k + 1, by omega, by go_num, by rw [hS]; go_num, hb⟩
        case measure => simp [intOf]; omega
      | false =>
        have hS := HS.out
        rw [hxd, if_neg (by simp)] at hS
        rw [hxd] at k2
        go_wp2_with fail
        go_roundw
        case rel => exact ⟨k + 1, by omega, by go_num, by rw [hS]; go_num, hb⟩
        case measure => simp [intOf]; omega
    · have e : l.take k = l := List.take_of_length_le (by omega)
      rw [e]
      have hi1 : decide ((k : Int) < (l.length : Int)) = false := by simp; omega
      go_wp2
      go_ret
      exact ⟨rfl, hb⟩
end Go.Proofs.Ytdhiepcglnbkbaa
