
/- The law TopText: its walk. -/
import Derived.Test.YtecnpdkoodfemaaDoorPText
import Derived.Test.YtecnpdkoodfemaaDoorNumber
namespace Go.Proofs.YtecnpdkoodfemaaDoor
set_option linter.unusedSimpArgs false
set_option linter.unusedVariables false
open Go.RowKit

def tickZ : Stp := ⟨⟨#[116, 105, 99, 107]⟩, 0, 0, ⟨#[]⟩⟩
theorem tick_check : checkM tickZ = 0 := by
  have : formK tickZ.word = some 0 := by unfold formK; rw [ByteArray.toList_eq]; rfl
  unfold checkM
  rw [this]
  have e : partsB 0 tickZ = false := by unfold partsB; rw [ByteArray.toList_eq]; rfl
  simp only [e]
  have e2 : blankB tickZ.data = false := rfl
  have e3 : (tickZ.data.toList == [45]) = false := by rw [ByteArray.toList_eq]; rfl
  rw [e2, e3]
  rfl
theorem tick_text : textM tickZ = ⟨#[116, 105, 99, 107]⟩ := by
  have : formK tickZ.word = some 0 := by unfold formK; rw [ByteArray.toList_eq]; rfl
  unfold textM
  rw [if_pos tick_check, this]
  rfl
set_option maxRecDepth 100000 in
set_option maxHeartbeats 4000000 in
theorem toptext_walk (z : Stp) (w : World) (a0 : -9223372036854775808 ≤ z.a) (a1 : z.a ≤ 9223372036854775807) (b0 : -9223372036854775808 ≤ z.b) (b1 : z.b ≤ 9223372036854775807) (hE : Env w) :
    Calls Tryd.prog 5 #[stpV z] w (Ret (.bool true) w) := by
  have HE := Lib.hid hE
  clear hE
  go_enter Tryd.func5, Tryd.ntmps5
  go_wp2_with fail
  have B := StpBox.new 32 z w
  generalize World.alloc _ _ = W at B ⊢
  generalize w.heap.size = bb at B ⊢
  refine (text_any tickZ W (by decide) (by decide) (by decide) (by decide) (by decide) (by decide) (HE.out.below B.bel)).mono ?_
  rintro e w1 ⟨rfl, hb1⟩
  rw [tick_check, tick_text, errV_zero]
  have B1 := B.step hb1
  obtain ⟨c0, c1, c2, c3⟩ := B1.c
  have HB1 := Lib.hid B1
  clear B B1 hb1
  by_cases hw : z.word.size ≤ 20
  · have d1 : decide ((20 : Int) < (z.word.size : Int)) = false := decide_eq_false (by omega)
    by_cases hd : z.data.size ≤ 20
    · have d2 : decide ((20 : Int) < (z.data.size : Int)) = false := decide_eq_false (by omega)
      have HZ : Hid (textM z = if checkM z = 0 then textJ ((formK z.word).getD 0) z else ⟨#[]⟩) := rfl
      go_wp2_with fail
      refine (text_any z w1 (by omega) (by omega) a0 a1 b0 b1 (HE.out.below HB1.out.bel)).mono ?_
      rintro e w2 ⟨rfl, hb2⟩
      have HB2 := Lib.hid (HB1.out.step hb2)
      clear hb2 c0 c1 c2 c3
      obtain ⟨c0, c1, c2, c3⟩ := HB2.out.c
      by_cases hc : checkM z = 0
      · rw [hc, errV_zero]
        have hts : (textM z).size ≤ 1000 := by
          obtain ⟨k, hk, hk3, _⟩ := checkM_ok hc
          rw [HZ.out, if_pos hc, hk]
          exact textJ_len k z hk3 (by omega) (by omega) a0 a1 b0 b1
        have HP := Lib.hid (text_back hc)
        generalize textM z = t at *
        go_wp2_with fail
        refine (parse_any t w2 hts (HE.out.below HB2.out.bel)).mono ?_
        rintro e w3 ⟨rfl, hb3⟩
        rw [HP.out, show parseV (some z) = .tuple #[stpV z, .nilIface] from rfl]
        have HB3 := Lib.hid (HB2.out.step hb3)
        have HB4 := Lib.hid (HB3.out.step ((Below.refl _ _).alloc (Nat.le_refl _) (Obj.cells #[.string z.word, .int .i64 z.a, .int .i64 z.b, .string z.data] 32)))
        clear hb3 c0 c1 c2 c3
        obtain ⟨c0, c1, c2, c3⟩ := HB4.out.c
        go_wp2
        go_ret
        exact ⟨rfl, HB4.out.bel⟩
      · have hn : (checkM z == 0) = false := beq_eq_false_iff_ne.2 hc
        have ht : textM z = ⟨#[]⟩ := by rw [HZ.out, if_neg hc]
        rw [ht]
        generalize hcm : checkM z = cm at *
        have HC := Lib.hid hcm
        clear hcm
        go_wp2_with fail
        refine (check_any z w2 (by unfold maxLen; omega)).mono ?_
        rintro e w3 ⟨rfl, hb3⟩
        rw [HC.out]
        have HB3 := Lib.hid (HB2.out.step hb3)
        clear hb3
        have heq : ((cm : Int) == (cm : Int)) = true := by simp
        go_wp2_with (go_at_call 16; refine (number_any _ _).mono ?_; rintro e w4 ⟨rfl, rfl⟩)
        go_ret
        exact ⟨rfl, HB3.out.bel⟩
    · have d2 : decide ((20 : Int) < (z.data.size : Int)) = true := decide_eq_true (by omega)
      go_wp2
      go_ret
      exact ⟨rfl, HB1.out.bel⟩
  · have d1 : decide ((20 : Int) < (z.word.size : Int)) = true := decide_eq_true (by omega)
    go_wp2
    go_ret
    exact ⟨rfl, HB1.out.bel⟩
end Go.Proofs.YtecnpdkoodfemaaDoor
