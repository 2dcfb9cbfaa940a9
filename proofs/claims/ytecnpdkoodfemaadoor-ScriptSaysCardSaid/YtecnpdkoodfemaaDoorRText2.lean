
/- The reference's StepText. -/
import Derived.Test.YtecnpdkoodfemaaDoorRFault
import Derived.Test.YtecnpdkoodfemaaDoorScrText
import Derived.Test.YtecnpdkoodfemaaDoorDec
namespace Go.Proofs.YtecnpdkoodfemaaDoor
set_option linter.unusedSimpArgs false
set_option linter.unusedVariables false
open Go.RowKit

theorem decN_dec : ∀ n : Nat, decN n = ⟨(Lib.decDigits n).toArray⟩ := by
  intro n
  induction n using Nat.strongRecOn with
  | _ n ih =>
    by_cases h : n < 10
    · rw [decN_small h, Lib.decDigits, dif_pos h]; rfl
    · rw [decN_big h, Lib.decDigits, dif_neg h, ih (n / 10) (by omega)]
      apply Go.WideShapes.bytes_inj
      show (ByteArray.data (_ ++ _)).toList = _
      rw [ByteArray.data_append]
      simp [digit]
theorem decI_itoa (n : Int) (h : 0 ≤ n) : decI n = itoaB n := by
  obtain ⟨m, rfl⟩ : ∃ m : Nat, n = m := ⟨n.toNat, by omega⟩
  have e : decI (m : Int) = decN m := by
    unfold decI
    rw [if_neg (by omega), if_neg (by omega)]
    simp
  have e2 : Lib.itoa (m : Int) = Lib.decDigits m := by
    unfold Lib.itoa
    rw [if_neg (by omega)]
    simp
  rw [e, decN_dec]
  unfold itoaB
  rw [e2]
theorem rdec_any (n : Int) (w : World) (h0 : 0 ≤ n) (h1 : n ≤ 9223372036854775807) : Calls Tryd.prog 21 #[.int .i64 n] w (Ret (.string (itoaB n)) w) := by
  rw [← decI_itoa n h0]
  exact dec_any n w (by omega) h1
theorem b_ext {a b : ByteArray} (h : a.data.toList = b.data.toList) : a = b := Go.WideShapes.bytes_inj h
abbrev sp1 : ByteArray := ⟨#[32]⟩
theorem textJ0 (z : Stp) : textJ 0 z = z.word := by
  apply b_ext
  unfold textJ wordsM partsL
  simp [Lib.join, List.intercalate]
theorem textJ1 (z : Stp) : textJ 1 z = (z.word ++ sp1) ++ itoaB z.a := by
  apply b_ext
  unfold textJ wordsM partsL
  rw [ByteArray.data_append, ByteArray.data_append]
  simp [Lib.join, List.intercalate]
theorem textJ2 (z : Stp) : textJ 2 z = (((z.word ++ sp1) ++ itoaB z.a) ++ sp1) ++ itoaB z.b := by
  apply b_ext
  unfold textJ wordsM partsL
  repeat rw [ByteArray.data_append]
  simp [Lib.join, List.intercalate]
theorem textJ3 (z : Stp) (h : z.data.toList.isEmpty = false) : textJ 3 z = (((((z.word ++ sp1) ++ itoaB z.a) ++ sp1) ++ itoaB z.b) ++ sp1) ++ z.data := by
  apply b_ext
  unfold textJ wordsM partsL dataM
  rw [h]
  repeat rw [ByteArray.data_append]
  simp [Lib.join, List.intercalate]
theorem textJ3e (z : Stp) (h : z.data.toList.isEmpty = true) : textJ 3 z = ((((z.word ++ sp1) ++ itoaB z.a) ++ sp1) ++ itoaB z.b) ++ ⟨#[32, 45]⟩ := by
  apply b_ext
  unfold textJ wordsM partsL dataM
  rw [h]
  repeat rw [ByteArray.data_append]
  simp [Lib.join, List.intercalate, hyphen]
set_option maxRecDepth 100000 in
set_option maxHeartbeats 4000000 in
theorem rtext_any (z : Stp) (w : World) (hw : z.word.size ≤ 100) (hd : z.data.size ≤ 100) (a1 : z.a ≤ 9223372036854775807) (b1 : z.b ≤ 9223372036854775807) (hpos : checkM z = 0 → 0 ≤ z.a ∧ 0 ≤ z.b) :
    Calls Tryd.prog 11 #[stpV z] w (Ret (.tuple #[.string (textM z), .int .i64 (checkM z)]) w) := by
  have hmax : z.word.size ≤ maxLen := by unfold maxLen; omega
  have hmaxd : z.data.size ≤ maxLen := by unfold maxLen; omega
  by_cases hc : checkM z = 0
  · have hT : textM z = textJ ((formK z.word).getD 0) z := by unfold textM; rw [if_pos hc]
    obtain ⟨k, hk⟩ : ∃ k, formK z.word = some k := by
      cases hk : formK z.word with
      | none => unfold checkM at hc; rw [hk] at hc; cases hc
      | some k => exact ⟨k, rfl⟩
    have hk3 := formK_le hk
    have hF := formT_some hk
    rw [hT, hk, hc]
    show Calls _ _ _ _ (Ret (.tuple #[.string (textJ k z), .int .i64 0]) w)
    obtain ⟨p0, p1⟩ := hpos hc
    have HA := Lib.hid (fun w => rdec_any z.a w p0 a1)
    have HBb := Lib.hid (fun w => rdec_any z.b w p1 b1)
    have ha := itoaB_size z.a (by omega) a1
    have hb := itoaB_size z.b (by omega) b1
    have J0 := Lib.hid (textJ0 z)
    have J1 := Lib.hid (textJ1 z)
    have J2 := Lib.hid (textJ2 z)
    have J3 := Lib.hid (textJ3 z)
    have J4 := Lib.hid (textJ3e z)
    generalize itoaB z.a = da at *
    generalize itoaB z.b = db at *
    clear hT hk p0 p1 a1 b1 hpos
    have z1 : ¬ (9223372036854775807 < z.word.size + 1) := by omega
    have z2 : ¬ (9223372036854775807 < z.word.size + 1 + da.size) := by omega
    have z3 : ¬ (9223372036854775807 < z.word.size + 1 + da.size + 1) := by omega
    have z4 : ¬ (9223372036854775807 < z.word.size + 1 + da.size + 1 + db.size) := by omega
    have z5 : ¬ (9223372036854775807 < z.word.size + 1 + da.size + 1 + db.size + 1) := by omega
    have z6 : ¬ (9223372036854775807 < z.word.size + 1 + da.size + 1 + db.size + 1 + z.data.size) := by omega
    have z7 : ¬ (9223372036854775807 < z.word.size + 1 + da.size + 1 + db.size + 2) := by omega
    go_enter Tryd.func11, Tryd.ntmps11
    go_wp2_with fail
    have B := StpBox.new 33 z w
    generalize World.alloc _ _ = W at B ⊢
    generalize w.heap.size = bb at B ⊢
    obtain ⟨c0, c1, c2, c3⟩ := B.c
    have HB := Lib.hid B
    clear B
    go_wp2_with fail
    refine (rfault_any z W hmax hmaxd).mono ?_
    rintro e w1 ⟨rfl, hb1⟩
    rw [hc]
    have HB1 := Lib.hid (HB.out.step hb1)
    clear hb1 c0 c1 c2 c3
    obtain ⟨c0, c1, c2, c3⟩ := HB1.out.c
    go_wp2_with fail
    refine (rform_any z.word w1).mono ?_
    rintro e w2 ⟨rfl, rfl⟩
    match k, hk3, hF with
    | 0, _, hF =>
      change formT z.word = .tuple #[.string ⟨#[]⟩, .bool true] at hF
      rw [hF]
      go_wp2
      go_ret2
      exact ⟨by rw [J0.out]; rfl, HB1.out.bel⟩
    | 1, _, hF =>
      change formT z.word = .tuple #[.string ⟨#[97]⟩, .bool true] at hF
      rw [hF]
      go_wp2_with fail
      refine (HA.out w1).mono ?_
      rintro e w3 ⟨rfl, hb3⟩
      go_wp2
      go_ret2
      exact ⟨by rw [J1.out]; rfl, (HB1.out.step hb3).bel⟩
    | 2, _, hF =>
      change formT z.word = .tuple #[.string ⟨#[97, 98]⟩, .bool true] at hF
      rw [hF]
      go_wp2_with fail
      refine (HA.out w1).mono ?_
      rintro e w3 ⟨rfl, hb3⟩
      have HB3 := Lib.hid (HB1.out.step hb3)
      clear hb3 c0 c1 c2 c3
      obtain ⟨c0, c1, c2, c3⟩ := HB3.out.c
      go_wp2_with fail
      refine (HBb.out w3).mono ?_
      rintro e w4 ⟨rfl, hb4⟩
      go_wp2
      go_ret2
      exact ⟨by rw [J2.out]; rfl, (HB3.out.step hb4).bel⟩
    | 3, _, hF =>
      change formT z.word = .tuple #[.string ⟨#[97, 98, 100]⟩, .bool true] at hF
      rw [hF]
      go_wp2_with fail
      refine (HA.out w1).mono ?_
      rintro e w3 ⟨rfl, hb3⟩
      have HB3 := Lib.hid (HB1.out.step hb3)
      clear hb3 c0 c1 c2 c3
      obtain ⟨c0, c1, c2, c3⟩ := HB3.out.c
      go_wp2_with fail
      refine (HBb.out w3).mono ?_
      rintro e w4 ⟨rfl, hb4⟩
      have HB4 := Lib.hid (HB3.out.step hb4)
      clear hb4 c0 c1 c2 c3
      obtain ⟨c0, c1, c2, c3⟩ := HB4.out.c
      rcases Bool.eq_false_or_eq_true z.data.toList.isEmpty with he | he
      · go_wp2
        go_ret2
        exact ⟨by rw [J4.out he]; rfl, HB4.out.bel⟩
      · go_wp2
        go_ret2
        exact ⟨by rw [J3.out he]; rfl, HB4.out.bel⟩
  · have hT : textM z = ⟨#[]⟩ := by unfold textM; rw [if_neg hc]
    have hn : (0 : Int) < (checkM z : Int) := by omega
    rw [hT]
    clear hT hpos
    generalize hcm : checkM z = cm at *
    have HC := Lib.hid hcm
    clear hcm
    go_enter Tryd.func11, Tryd.ntmps11
    go_wp2_with fail
    have B := StpBox.new 33 z w
    generalize World.alloc _ _ = W at B ⊢
    generalize w.heap.size = bb at B ⊢
    obtain ⟨c0, c1, c2, c3⟩ := B.c
    have HB := Lib.hid B
    clear B
    go_wp2_with fail
    refine (rfault_any z W hmax hmaxd).mono ?_
    rintro e w1 ⟨rfl, hb1⟩
    rw [HC.out]
    go_wp2
    go_ret2
    exact ⟨rfl, HB.out.bel.trans (hb1.mono HB.out.bel.size)⟩
end Go.Proofs.YtecnpdkoodfemaaDoor
