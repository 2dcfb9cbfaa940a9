
/- The law ScriptSays: its walk. -/
import Derived.Test.YtecnpdkoodfemaaDoorPRef
import Derived.Test.YtecnpdkoodfemaaDoorRText2
import Derived.Test.YtecnpdkoodfemaaDoorSame
namespace Go.Proofs.YtecnpdkoodfemaaDoor
set_option linter.unusedSimpArgs false
set_option linter.unusedVariables false
open Go.RowKit

def writeZ : Stp := ⟨⟨#[119, 114, 105, 116, 101]⟩, 1, 3, ⟨#[120]⟩⟩
theorem write_form : formK writeZ.word = some 3 := by unfold formK; rw [ByteArray.toList_eq]; rfl
theorem write_check : checkM writeZ = 0 := by
  unfold checkM
  rw [write_form]
  have e : partsB 3 writeZ = false := rfl
  have e1 : boundB writeZ = false := by decide
  have e2 : blankB writeZ.data = false := rfl
  have e3 : (writeZ.data.toList == [45]) = false := by rw [ByteArray.toList_eq]; rfl
  simp only [e, e1, e2, e3]
  rfl
def writeText : ByteArray := ⟨#[119, 114, 105, 116, 101, 32, 49, 32, 51, 32, 120]⟩
theorem write_text : textM writeZ = writeText := by
  unfold textM
  rw [if_pos write_check, write_form]
  have e1 : itoaB 1 = ⟨#[49]⟩ := by unfold itoaB; simp [Lib.itoa, Lib.decDigits]
  have e3 : itoaB 3 = ⟨#[51]⟩ := by unfold itoaB; simp [Lib.itoa, Lib.decDigits]
  have ed : dataM writeZ = ⟨#[120]⟩ := by unfold dataM; rw [ByteArray.toList_eq]; rfl
  show textJ 3 writeZ = _
  unfold textJ wordsM partsL
  rw [ed]
  show (⟨(Lib.join (([writeZ.word, itoaB 1, itoaB 3, ⟨#[120]⟩] : List ByteArray).map (·.data.toList)) [32]).toArray⟩ : ByteArray) = _
  rw [e1, e3]
  rfl
set_option maxRecDepth 100000 in
theorem scripts_any (w : World) (hE : Env w) : Calls Tryd.prog 9 #[] w (Ret (.bool true) w) := by
  have HE := Lib.hid hE
  clear hE
  go_enter Tryd.func9, Tryd.ntmps9
  go_wp2_with fail
  refine (text_any writeZ w (by decide) (by decide) (by decide) (by decide) (by decide) (by decide) HE.out).mono ?_
  rintro e w1 ⟨rfl, hb1⟩
  rw [write_check, write_text]
  unfold writeText
  go_wp2_with (go_at_call 6; refine (same_any 0 0 _).mono ?_; rintro e w2 ⟨rfl, rfl⟩)
  go_ret
  exact ⟨rfl, hb1⟩
theorem Lay.rg4 {w wr : World} {l : List (Nat × TypeId × Array Value)} (h : Lay w wr l) (i : Nat) {b : Nat} {T : TypeId} {c0 c1 c2 c3 : Value} (hi : l[i]? = some (b, T, #[c0, c1, c2, c3])) :
    (∀ dq osq, (Sort.grow (redrawn wr dq) osq).cell? ⟨b, 0, none⟩ = some c0) ∧ (∀ dq osq, (Sort.grow (redrawn wr dq) osq).cell? ⟨b, 1, none⟩ = some c1) ∧ (∀ dq osq, (Sort.grow (redrawn wr dq) osq).cell? ⟨b, 2, none⟩ = some c2) ∧ (∀ dq osq, (Sort.grow (redrawn wr dq) osq).cell? ⟨b, 3, none⟩ = some c3) := by
  obtain ⟨a0, a1, a2, a3⟩ := h.c4 i hi
  exact ⟨fun dq osq => cell_regrown a0 dq osq, fun dq osq => cell_regrown a1 dq osq, fun dq osq => cell_regrown a2 dq osq, fun dq osq => cell_regrown a3 dq osq⟩
set_option maxRecDepth 100000 in
set_option maxHeartbeats 4000000 in
theorem script_walk (z : Stp) (t : ByteArray) (w : World) (a0 : -9223372036854775808 ≤ z.a) (a1 : z.a ≤ 9223372036854775807) (b0 : -9223372036854775808 ≤ z.b) (b1 : z.b ≤ 9223372036854775807) (hE : Env w) :
    Calls Tryd.prog 4 #[stpV z, .string t] w (Ret (.bool true) w) := by
  have HE := Lib.hid hE
  clear hE
  go_enter Tryd.func4, Tryd.ntmps4
  go_wp2_with fail
  have L1 := (Lay.refl w).alloc' w.heap.size #[.string z.word, .int .i64 z.a, .int .i64 z.b, .string z.data] 32 rfl
  generalize World.alloc _ _ = W1 at L1 ⊢
  generalize w.heap.size = sb at L1 ⊢
  refine (scripts_any W1 (HE.out.below L1.below)).mono ?_
  rintro e W2 ⟨rfl, hb2⟩
  have L2 := Lib.hid (L1.step hb2)
  clear L1 hb2
  obtain ⟨c0, c1, c2, c3⟩ := L2.out.c4 0 rfl
  by_cases hw : z.word.size ≤ 20
  rotate_left
  · have d1 : decide ((20 : Int) < (z.word.size : Int)) = true := decide_eq_true (by omega)
    go_wp2
    go_ret
    exact ⟨rfl, L2.out.below⟩
  have d1 : decide ((20 : Int) < (z.word.size : Int)) = false := decide_eq_false (by omega)
  by_cases hd : z.data.size ≤ 20
  rotate_left
  · have d2 : decide ((20 : Int) < (z.data.size : Int)) = true := decide_eq_true (by omega)
    go_wp2
    go_ret
    exact ⟨rfl, L2.out.below⟩
  have d2 : decide ((20 : Int) < (z.data.size : Int)) = false := decide_eq_false (by omega)
  by_cases ht : t.size ≤ 60
  rotate_left
  · have d3 : decide ((60 : Int) < (t.size : Int)) = true := decide_eq_true (by omega)
    go_wp2
    go_ret
    exact ⟨rfl, L2.out.below⟩
  have d3 : decide ((60 : Int) < (t.size : Int)) = false := decide_eq_false (by omega)
  have L3 := Lib.hid (L2.out.alloc' W2.heap.size #[.string z.word, .int .i64 z.a, .int .i64 z.b, .string z.data] 33 rfl)
  obtain ⟨e0, e1, e2, e3⟩ := L3.out.c4 1 rfl
  go_wp2_with fail
  generalize World.alloc _ _ = W3 at L3 e0 e1 e2 e3 ⊢
  generalize W2.heap.size = mb at L3 ⊢
  refine (text_any z W3 (by omega) (by omega) a0 a1 b0 b1 (HE.out.below L3.out.below)).mono ?_
  rintro e W4 ⟨rfl, hb4⟩
  have L4 := Lib.hid (L3.out.step hb4)
  clear hb4 c0 c1 c2 c3 e0 e1 e2 e3
  obtain ⟨c0, c1, c2, c3⟩ := L4.out.c4 0 rfl
  go_wp2_with fail
  refine (rtext_any z W4 (by omega) (by omega) a1 b1 (fun hc => by
    obtain ⟨k, _, _, _, hb, _⟩ := checkM_ok hc
    have := bound_ok hb
    exact ⟨this.1, this.2.2.1⟩)).mono ?_
  rintro e W5 ⟨rfl, hb5⟩
  have L5 := Lib.hid (L4.out.step hb5)
  clear hb5 c0 c1 c2 c3
  go_wp2_with fail
  refine (parse_any t W5 (by omega) (HE.out.below L5.out.below)).mono ?_
  rintro e W6 ⟨rfl, hb6⟩
  have L6 := Lib.hid (L5.out.step hb6)
  clear hb6
  have hPP : rparseM t = parseM t := (parse_same (splitM t)).symm
  have HC := Lib.hid (fun w => check_any z w (by unfold maxLen; omega))
  have HF := Lib.hid (fun w => rfault_any z w (by unfold maxLen; omega) (by unfold maxLen; omega))
  have HP := Lib.hid hPP
  clear hPP
  have HR := Lib.hid (fun w => rparse_any t w (by omega))
  obtain ⟨P, hP⟩ : ∃ P, parseM t = P := ⟨_, rfl⟩
  obtain ⟨n, y, hn⟩ : ∃ (n : Nat) (y : Stp), parseV P = .tuple #[stpV y, errV n] ∧ rparseV P = .tuple #[stpV y, .int .i64 (n : Int)] := by
    cases P with
    | none => exact ⟨4, zeroZ, rfl, rfl⟩
    | some y => exact ⟨0, y, rfl, rfl⟩
  rw [hP, hn.1]
  have HP2 := Lib.hid hP
  have HN := Lib.hid hn
  clear hP hn
  have L7 := Lib.hid (L6.out.alloc' W6.heap.size #[.string y.word, .int .i64 y.a, .int .i64 y.b, .string y.data] 32 rfl)
  go_wp2_with fail
  generalize World.alloc _ _ = W7 at L7 ⊢
  generalize W6.heap.size = xb at L7 ⊢
  refine (HR.out W7).mono ?_
  rintro e W8 ⟨rfl, hb8⟩
  rw [HP.out, HP2.out, HN.out.2]
  have L8 := Lib.hid (L7.out.step hb8)
  clear hb8
  have L9 := Lib.hid (L8.out.alloc' W8.heap.size #[.string y.word, .int .i64 y.a, .int .i64 y.b, .string y.data] 33 rfl)
  go_wp2_with fail
  generalize World.alloc _ _ = W9 at L9 ⊢
  generalize W8.heap.size = yb at L9 ⊢
  obtain ⟨g0, g1, g2, g3⟩ := L9.out.rg4 0 rfl
  obtain ⟨h0, h1, h2, h3⟩ := L9.out.rg4 1 rfl
  obtain ⟨i0, i1, i2, i3⟩ := L9.out.rg4 2 rfl
  obtain ⟨j0, j1, j2, j3⟩ := L9.out.rg4 3 rfl
  generalize textM z = tx at *
  generalize checkM z = cm at *
  refine wp_region_quiet_below mixed (by kernel_rfl) ?_
  repeat (first | go_big_quiet_step (first
    | (go_at_call 14; exact Calls.rg (HC.out _))
    | (go_at_call 15; exact Calls.rg (HF.out _))
    | (go_at_call 6; exact Calls.rgSame (same_any _ _ _))) | quiet_step (first
    | (go_at_call 14; exact Calls.rg (HC.out _))
    | (go_at_call 15; exact Calls.rg (HF.out _))
    | (go_at_call 6; exact Calls.rgSame (same_any _ _ _))))
  refine wpQuiet_nil ?_
  intro _ hw'
  obtain ⟨⟨dq, osq⟩, hw''⟩ := hw'
  subst hw''
  have LA := L9.out.step (below_regrown W9 dq osq)
  generalize Sort.grow (redrawn W9 dq) osq = WA at LA ⊢
  go_wp2
  go_ret
  exact ⟨rfl, LA.below⟩
end Go.Proofs.YtecnpdkoodfemaaDoor
