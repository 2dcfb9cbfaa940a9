
/- The law DriverSays: what is closed. -/
import Derived.Test.YtdhiepcglnbkbaaTwoV
import Derived.Test.YtdhiepcglnbkbaaLawTries
namespace Go.Proofs.Ytdhiepcglnbkbaa
set_option linter.unusedSimpArgs false
set_option linter.unusedVariables false
open Go.RowKit

theorem Dr.add {TD TP TV : TypeId} {W0 w : World} {S F : Nat → Prop} {bv bd bt n : Nat} {v : Drv} {l : List (Nat × TypeId × Array Value)} (h : Dr TD TP TV W0 w S F bv bd bt n v l) (b : Nat) (hb : b < w.heap.size) (h1 : ¬ F b) (h2 : b ≠ bv) (h3 : b ≠ bt) (h4 : ∀ x ∈ l, x.1 ≠ b) : Dr TD TP TV W0 w (fun k => S k ∨ k = b) F bv bd bt n v l := by
  obtain ⟨f, hm, hf⟩ := h.p.map
  refine ⟨h.lay, ⟨h.p.row, ⟨f, hm, hf⟩, h.p.dev.more (fun k hk => .inl hk), h.p.nv, h.p.nt, fun k hk => hk.elim (h.p.sv k) (fun e => e ▸ ⟨h2, h3⟩)⟩, h.fl, h.vl, h.tl, fun k hk => hk.elim (h.sl k) (fun e => e ▸ hb), fun k hk => hk.elim (h.sf k) (fun e => e ▸ h1), fun k hk => .inl (h.s0 k hk), h.ok, h.tr, fun x hx => ⟨(h.nf x hx).1, fun hs => hs.elim (h.nf x hx).2.1 (h4 x hx), (h.nf x hx).2.2⟩⟩
def litD : Rq := ⟨false, 3, 1, [], [1], 0⟩
theorem litD_ok : reqF litD = 0 := by decide
theorem rc_litD {S : Nat → Prop} {w : World} {b2 : Nat} (h2 : w.heap[b2]? = some (.cells #[.int .i64 1] 3 (0, 0))) (s2 : S b2) :
    RcOk S w ⟨litD, .slice none 0 0, .slice (some ⟨b2, 0, none⟩) 1 1⟩ := by
  refine ⟨strs_nil _ _, ⟨⟨_, 1, rfl, Nat.le_refl _, by simp [maxLen], rfl, fun _ => ⟨b2, 0, rfl, s2, fun j u hu => ?_⟩⟩, by simp [litD]⟩, by unfold i64; simp [litD], by unfold i64; simp [litD], by unfold i64; simp [litD]⟩
  rw [cell_of_row _ _ _ _ _ _ h2]; simpa [litD] using hu

set_option maxRecDepth 100000 in
set_option maxHeartbeats 2000000 in
theorem drivers_any (w : World) : Calls Try.prog 30 #[] w (Ret (.bool true) w) := by
  go_enter Try.func30, Try.ntmps30
  go_wp2_with fail
  refine (devnew_any _).mono ?_
  rintro e w2 ⟨rfl, hd2, hb2, hs2⟩
  go_wp2_with fail
  refine (drvnew_any (fun k => k < w.heap.size) (fun k => k = w.heap.size) w2 _ _ (hd2 _) (fun k hk => by omega) (fun k hk => by omega)).mono ?_
  rintro e w3 ⟨rfl, hp3, hb3, hs3⟩
  have hO := Dr.begin (Lay.refl w) (hd2 _) hb2 hs2 hp3 hb3 hs3
  obtain ⟨bv, hbv⟩ : ∃ x, w2.heap.size + 1 = x := ⟨_, rfl⟩
  obtain ⟨bd, hbd⟩ : ∃ x, w.heap.size = x := ⟨_, rfl⟩
  obtain ⟨bt, hbt⟩ : ∃ x, w2.heap.size = x := ⟨_, rfl⟩
  rw [hbv, hbt] at hO
  rw [hbv]
  have HO3 := Lib.hid hO
  clear hO hd2 hb2 hs2 hp3 hb3 hs3
  go_wp2_with fail
  have hz4 : (w3.alloc (Obj.cells #[Value.int IntKind.i64 1] 3)).heap.size = w3.heap.size + 1 := by simp
  have hb4 : Below w3.heap.size w3 (w3.alloc (Obj.cells #[Value.int IntKind.i64 1] 3)) := (Below.refl _ _).alloc (Nat.le_refl _) _
  have hr4 : (w3.alloc (Obj.cells #[Value.int IntKind.i64 1] 3)).heap[w3.heap.size]? = _ := heap_alloc_new _ _
  generalize World.alloc _ _ = w4 at hz4 hb4 hr4 ⊢
  have h3v := HO3.out.p.vlt
  have h3t := HO3.out.p.tlt
  have hO4 := (HO3.out.step hb4).add w3.heap.size (by omega) (fun hf => by have := (HO3.out.fl _ hf).2; omega) (by omega) (by omega) (by simp)
  have hrc := rc_litD (S := fun k => k < w.heap.size ∨ k = w3.heap.size) hr4 (.inr rfl)
  refine (drvstart_any _ _ _ bv _ bt _ _ litD _ hO4.p hrc.req hO4.flt hO4.sf hO4.sl (by simp [Dv.new])).mono ?_
  have hst : Dv.new.start litD = ({ Dv.new with l := [litD] }, 0) := rfl
  have hok1 := hO4.ok.start litD_ok
  rw [hst] at hok1 ⊢
  rintro e w7 ⟨rfl, hp7, hc7⟩
  have HO7 := Lib.hid (hO4.started hp7 hc7 hok1 rfl)
  clear hp7 hc7 hok1 hst hO4 hrc hr4 hb4 HO3
  go_wp2_with fail
  have he := drvEndAt_again ⟨{ Dv.new with l := [litD] }, fun _ => 0⟩ 0 litD rfl (by simp) (by simp)
  rw [again_d rfl] at he
  have hF := drvend_any _ _ w7 bv _ bt _ _ 0 true HO7.out.p HO7.out.ok (by simp [Dv.new]) (by omega) HO7.out.tri HO7.out.flt HO7.out.sf HO7.out.sl
  have hok1 := Drv.endAt_ok HO7.out.ok HO7.out.tr 0 true
  rw [show ({ d := { Dv.new with l := [litD] }, tries := fun _ => 0 } : Drv).endAt 0 true = _ from he] at hF hok1
  have HF := Lib.hid hF
  have Hok1 := Lib.hid hok1
  clear hF hok1 he
  refine HF.out.mono ?_
  rintro e w8 ⟨x8, F8, S8, rfl, hrs, hp8, hc8, hF8, hSS8, hS8, hSF8⟩
  have HO8 := Lib.hid (HO7.out.did hp8 hc8 hF8 hSS8 hS8 hSF8 Hok1.out.1 Hok1.out.2.1)
  obtain ⟨Bd, bd5, Bt, bt5, Bo, bo5, rfl⟩ := hrs.opened
  clear hrs hp8 hc8 hF8 hSS8 hS8 hSF8 HF HO7 Hok1
  go_wp2_with fail
  generalize hW9 : World.alloc _ _ = w9
  have hb9 : Below w8.heap.size w8 w9 := hW9 ▸ (Below.refl _ _).alloc (Nat.le_refl _) _
  have HO9 := Lib.hid (HO8.out.step hb9)
  clear hb9 hW9 HO8
  refine (same_any 0 0 _).mono ?_
  rintro e wa ⟨rfl, rfl⟩
  go_wp2_with (go_at_call 17; refine (same_any 0 0 _).mono ?_; rintro e wb ⟨rfl, rfl⟩)
  refine (drvroom_any _ _ _ bv _ bt _ _ HO9.out.p HO9.out.ok.two).mono ?_
  rintro e wc ⟨rfl, hbc⟩
  have hb := Lib.hid (HO9.out.step hbc).lay.below
  go_wp2_with fail
  go_ret
  exact ⟨rfl, hb.out⟩
end Go.Proofs.Ytdhiepcglnbkbaa
