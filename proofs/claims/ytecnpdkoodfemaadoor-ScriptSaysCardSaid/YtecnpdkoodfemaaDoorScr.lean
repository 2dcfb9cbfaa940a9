
/- script.number, script.Text. -/
import Derived.Test.YtecnpdkoodfemaaDoorCheckS
import Derived.Test.YtecnpdkoodfemaaDoorEnv
import Derived.Test.YtecnpdkoodfemaaDoorOwn
import Derived.Test.YtecnpdkoodfemaaDoorMem
namespace Go.Proofs.YtecnpdkoodfemaaDoor
set_option linter.unusedSimpArgs false
set_option linter.unusedVariables false
open Go.RowKit

def numM (s : ByteArray) : Int := match atoiM s with
  | some v => if (itoaB v).toList == s.toList then v else -1
  | none => -1
set_option maxRecDepth 100000 in
theorem scrnum_any (s : ByteArray) (w : World) (hs : s.size ≤ 281474976710656) (hE : Env w) : Calls Tryd.prog 23 #[.string s] w (Ret (.int .i64 (numM s)) w) := by
  have HE := Lib.hid hE
  clear hE
  cases h : atoiM s with
  | none =>
    have e : numM s = -1 := by unfold numM; rw [h]
    rw [e]
    clear e
    go_enter Tryd.func23, Tryd.ntmps23
    go_wp2_with fail
    refine (atoi_any s w hs HE.out).mono ?_
    rintro e w1 ⟨hb1, n, x, rfl, hx⟩
    rw [h] at hx
    obtain ⟨t, p, rfl⟩ := hx
    go_wp2
    go_ret
    exact ⟨rfl, hb1⟩
  | some v =>
    obtain ⟨b0, b1⟩ := atoiM_bounds h
    rcases Bool.eq_false_or_eq_true ((itoaB v).toList == s.toList) with hq | hq
    · have e : numM s = v := by unfold numM; rw [h]; simp [hq]
      rw [e]
      clear e
      have hq' : (!((itoaB v).toList == s.toList)) = false := by rw [hq]; rfl
      go_enter Tryd.func23, Tryd.ntmps23
      go_wp2_with fail
      refine (atoi_any s w hs HE.out).mono ?_
      rintro e w1 ⟨hb1, n, x, rfl, hx⟩
      rw [h] at hx
      obtain ⟨rfl, rfl⟩ := hx
      go_wp2_with (go_at_call 17; refine (itoa_any _ _ b0 b1 (HE.out.below hb1)).mono ?_; rintro e w2 ⟨rfl, hb2⟩)
      go_ret
      exact ⟨rfl, hb1.trans (hb2.mono hb1.size)⟩
    · have e : numM s = -1 := by unfold numM; rw [h]; simp [hq]
      rw [e]
      clear e
      have hq' : (!((itoaB v).toList == s.toList)) = true := by rw [hq]; rfl
      go_enter Tryd.func23, Tryd.ntmps23
      go_wp2_with fail
      refine (atoi_any s w hs HE.out).mono ?_
      rintro e w1 ⟨hb1, n, x, rfl, hx⟩
      rw [h] at hx
      obtain ⟨rfl, rfl⟩ := hx
      go_wp2_with (go_at_call 17; refine (itoa_any _ _ b0 b1 (HE.out.below hb1)).mono ?_; rintro e w2 ⟨rfl, hb2⟩)
      go_ret
      exact ⟨rfl, hb1.trans (hb2.mono hb1.size)⟩
end Go.Proofs.YtecnpdkoodfemaaDoor
