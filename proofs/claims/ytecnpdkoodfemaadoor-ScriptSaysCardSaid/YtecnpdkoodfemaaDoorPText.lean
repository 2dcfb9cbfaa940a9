
/- The plain law of TopText: a step's text is read as it. No program in sight. -/
import Derived.Test.YtecnpdkoodfemaaDoorParse
namespace Go.Proofs.YtecnpdkoodfemaaDoor
set_option linter.unusedSimpArgs false
set_option linter.unusedVariables false
open Go.RowKit

theorem checkM_ok {z : Stp} (h : checkM z = 0) : ∃ k, formK z.word = some k ∧ k ≤ 3 ∧ partsB k z = false ∧ boundB z = false ∧ blankB z.data = false ∧ (z.data.toList == [45]) = false := by
  unfold checkM at h
  cases hk : formK z.word with
  | none => rw [hk] at h; cases h
  | some k =>
    rw [hk] at h
    simp only at h
    cases h1 : partsB k z with
    | true => rw [h1] at h; simp at h
    | false =>
      rw [h1] at h
      cases h2 : boundB z with
      | true => rw [h2] at h; simp at h
      | false =>
        rw [h2] at h
        cases h3 : (blankB z.data || z.data.toList == [45]) with
        | true => rw [h3] at h; simp at h
        | false =>
          rw [Bool.or_eq_false_iff] at h3
          exact ⟨k, rfl, formK_le hk, h1, rfl, h3.1, h3.2⟩
theorem bound_ok {z : Stp} (h : boundB z = false) : 0 ≤ z.a ∧ z.a ≤ 999 ∧ 0 ≤ z.b ∧ z.b ≤ 999 ∧ z.data.size ≤ 9 := by
  unfold boundB at h
  simp only [Bool.or_eq_false_iff, decide_eq_false_iff_not] at h
  omega
theorem parts_ok {k : Nat} {z : Stp} (h : partsB k z = false) : (k < 1 → z.a = 0) ∧ (k < 2 → z.b = 0) ∧ (k < 3 → z.data = ⟨#[]⟩) := by
  unfold partsB at h
  simp only [Bool.or_eq_false_iff] at h
  obtain ⟨⟨h1, h2⟩, h3⟩ := h
  refine ⟨fun hk => ?_, fun hk => ?_, fun hk => ?_⟩
  · rw [decide_eq_true hk, Bool.true_and] at h1
    simpa using h1
  · rw [decide_eq_true hk, Bool.true_and] at h2
    simpa using h2
  · rw [decide_eq_true hk, Bool.true_and] at h3
    exact empty_of (by simpa using h3)

/-! ### Numbers -/
def dch (d : Nat) : UInt8 := UInt8.ofNat (48 + d)
theorem dch_nat {d : Nat} (h : d < 10) : (dch d).toNat = 48 + d := by
  unfold dch
  rw [UInt8.toNat_ofNat']
  omega
theorem pu_digits : ∀ (ds : List Nat) (acc : Nat), (∀ d ∈ ds, d < 10) → (acc + 1) * 10 ^ ds.length ≤ 10 ^ 18 → Lib.parseUint10 acc (ds.map dch) = .ok (ds.foldl (fun a d => a * 10 + d) acc)
  | [], acc, _, _ => rfl
  | d :: ds, acc, hd, hb => by
    have h1 := hd d (by simp)
    have e := dch_nat h1
    have hp : (10 : Nat) ^ (d :: ds).length = 10 ^ ds.length * 10 := by rw [List.length_cons, Nat.pow_succ]
    have hpos : 1 ≤ 10 ^ ds.length := Nat.pow_pos (by omega)
    have hb2 : (acc * 10 + d + 1) * 10 ^ ds.length ≤ 10 ^ 18 := by
      refine Nat.le_trans (Nat.mul_le_mul_right _ (show acc * 10 + d + 1 ≤ (acc + 1) * 10 by omega)) ?_
      rw [hp] at hb
      calc (acc + 1) * 10 * 10 ^ ds.length = (acc + 1) * (10 ^ ds.length * 10) := by rw [Nat.mul_assoc, Nat.mul_comm 10]
        _ ≤ 10 ^ 18 := hb
    have hacc : acc * 10 + d + 1 ≤ 10 ^ 18 := Nat.le_trans (by
      have := Nat.mul_le_mul_left (acc * 10 + d + 1) hpos
      omega) hb2
    rw [List.map_cons, List.foldl_cons, ← pu_digits ds (acc * 10 + d) (fun x hx => hd x (by simp [hx])) hb2]
    rw [Lib.parseUint10, e]
    rw [if_pos (by omega), if_neg (by omega), if_neg (by omega)]
    congr 1
    omega
theorem dec_digits (n : Nat) (h : n < 1000) : ∃ ds : List Nat, (∀ d ∈ ds, d < 10) ∧ ds ≠ [] ∧ ds.length ≤ 3 ∧ Lib.decDigits n = ds.map dch ∧ ds.foldl (fun a d => a * 10 + d) 0 = n := by
  by_cases h1 : n < 10
  · refine ⟨[n], by simpa using h1, by simp, by simp, ?_, by simp⟩
    rw [Lib.decDigits, dif_pos h1]; rfl
  · by_cases h2 : n < 100
    · refine ⟨[n / 10, n % 10], by simp; omega, by simp, by simp, ?_, by simp; omega⟩
      rw [Lib.decDigits, dif_neg h1, Lib.decDigits, dif_pos (by omega)]; rfl
    · refine ⟨[n / 10 / 10, n / 10 % 10, n % 10], by simp; omega, by simp, by simp, ?_, by simp; omega⟩
      rw [Lib.decDigits, dif_neg h1, Lib.decDigits, dif_neg (by omega), Lib.decDigits, dif_pos (by omega)]; rfl
theorem itoa_nat (n : Nat) : Lib.itoa (n : Int) = Lib.decDigits n := by
  unfold Lib.itoa
  rw [if_neg (by omega)]
  simp
theorem numM_itoa (n : Nat) (h : n < 1000) : numM (itoaB n) = n := by
  obtain ⟨ds, h1, h2, h3, h4, h5⟩ := dec_digits n h
  have hp := pu_digits ds 0 h1 (by
    have : 10 ^ ds.length ≤ 10 ^ 3 := Nat.pow_le_pow_right (by omega) h3
    omega)
  rw [h5] at hp
  have hl : (itoaB (n : Int)).data.toList = ds.map dch := by
    unfold itoaB
    rw [itoa_nat, h4]
  have ha : atoiM (itoaB (n : Int)) = some (n : Int) := by
    unfold atoiM
    rw [hl]
    cases ds with
    | nil => exact absurd rfl h2
    | cons d ds =>
      have e := dch_nat (h1 d (by simp))
      rw [List.map_cons] at hp ⊢
      have : Lib.atoiAll (dch d :: ds.map dch) = .ok (n : Int) := by
        unfold Lib.atoiAll
        simp only [e]
        rw [if_neg (by omega)]
        unfold Lib.parseMag
        rw [if_neg (by simp), hp]
        simp only
        rw [if_neg (by omega), if_neg (by omega), if_neg (by omega)]
      rw [this]
  unfold numM
  rw [ha]
  simp
theorem nobl_itoa (n : Nat) (h : n < 1000) : NoBl (itoaB (n : Int)).data.toList := by
  obtain ⟨ds, h1, h2, h3, h4, h5⟩ := dec_digits n h
  have hl : (itoaB (n : Int)).data.toList = ds.map dch := by
    unfold itoaB
    rw [itoa_nat, h4]
  rw [hl]
  intro b hb
  obtain ⟨d, hd, rfl⟩ := List.mem_map.1 hb
  have := dch_nat (h1 d hd)
  rw [beq_eq_false_iff_ne]
  intro e
  rw [e] at this
  have h32 : (32 : UInt8).toNat = 32 := rfl
  omega
theorem nobl_word {w : ByteArray} {k : Nat} (h : formK w = some k) : NoBl w.data.toList := by
  unfold formK at h
  cases hf : formW.find? (fun p => p.1 == w.toList) with
  | none => rw [hf] at h; cases h
  | some p =>
    have hm := List.mem_of_find?_eq_some hf
    have he := List.find?_some hf
    have he' := eq_of_beq he
    rw [ByteArray.toList_eq] at he'
    rw [← he']
    have hall : ∀ p ∈ formW, ∀ b ∈ p.1, (b == 32) = false := by decide
    exact hall p hm
theorem nobl_data {d : ByteArray} (h : blankB d = false) : NoBl d.data.toList := by
  rw [blankB_iff, List.any_eq_false] at h
  intro b hb
  have := h b hb
  simp at this
  simpa using this.1

/-! ### The words -/
theorem splitL_join : ∀ (x : List UInt8) (xs : List (List UInt8)), (∀ y ∈ x :: xs, NoBl y) → splitL (Lib.join (x :: xs) [32]) = x :: xs
  | x, [], h => by
    rw [Lib.join_one]
    exact splitL_nb (h x (by simp))
  | x, y :: ys, h => by
    have e : Lib.join (x :: y :: ys) [32] = x ++ 32 :: Lib.join (y :: ys) [32] := by simp [Lib.join, List.intercalate]
    rw [e, splitL_hit _ (h x (by simp)), splitL_join y ys (fun z hz => h z (by simp at hz ⊢; right; exact hz))]
theorem toB_id (l : List ByteArray) : (l.map (·.data.toList)).map toB = l := by
  rw [List.map_map]
  conv => rhs; rw [← List.map_id l]
  exact List.map_congr_left (fun x _ => by
    show toB x.data.toList = x
    unfold toB
    cases x
    rfl)
theorem data_back {z : Stp} (h : (z.data.toList == [45]) = false) : dataP (dataM z) = z.data ∧ (dataM z).toList.isEmpty = false := by
  unfold dataP dataM
  cases he : z.data.toList.isEmpty with
  | true =>
    have := empty_of he
    simp only [if_true]
    have e1 : hyphen.toList = [45] := by rw [ByteArray.toList_eq]; rfl
    rw [e1, this]
    exact ⟨rfl, rfl⟩
  | false =>
    simp only [Bool.false_eq_true, if_false]
    rw [h]
    exact ⟨rfl, he⟩
theorem text_back {z : Stp} (h : checkM z = 0) : parseM (textM z) = some z := by
  obtain ⟨k, hk, hk3, hp, hb, hbl, hda⟩ := checkM_ok h
  obtain ⟨a0, a1, b0, b1, hd⟩ := bound_ok hb
  obtain ⟨p1, p2, p3⟩ := parts_ok hp
  obtain ⟨d1, d2⟩ := data_back hda
  have ht : textM z = textJ k z := by unfold textM; rw [if_pos h, hk]; rfl
  obtain ⟨a, ha⟩ : ∃ a : Nat, z.a = a := ⟨z.a.toNat, by omega⟩
  obtain ⟨b, hbn⟩ : ∃ b : Nat, z.b = b := ⟨z.b.toNat, by omega⟩
  have na : numM (itoaB z.a) = z.a := by rw [ha]; exact numM_itoa a (by omega)
  have nb : numM (itoaB z.b) = z.b := by rw [hbn]; exact numM_itoa b (by omega)
  have hall : ∀ y ∈ (wordsM k z).map (·.data.toList), NoBl y := by
    intro y hy
    obtain ⟨x, hx, rfl⟩ := List.mem_map.1 hy
    unfold wordsM at hx
    rcases List.mem_cons.1 hx with rfl | hx
    · exact nobl_word hk
    · have := List.mem_of_mem_take hx
      unfold partsL at this
      simp only [List.mem_cons, List.mem_nil_iff, or_false] at this
      rcases this with rfl | rfl | rfl
      · rw [ha]; exact nobl_itoa a (by omega)
      · rw [hbn]; exact nobl_itoa b (by omega)
      · unfold dataM
        split
        · intro c hc
          have : c = 45 := by simpa [hyphen] using hc
          rw [this]; rfl
        · exact nobl_data hbl
  have hs : splitM (textJ k z) = wordsM k z := by
    unfold splitM textJ
    have e : wordsM k z = z.word :: (partsL z).take k := rfl
    rw [e, List.map_cons] at hall ⊢
    have := splitL_join _ _ hall
    show (splitL (Lib.join (z.word.data.toList :: ((partsL z).take k).map (·.data.toList)) [32])).map toB = _
    rw [this, ← List.map_cons (f := fun x : ByteArray => x.data.toList), toB_id]
  have hst : stageZ z.word ((partsL z).take k) k = z := by
    obtain ⟨zw, za, zb, zd⟩ := z
    simp only at *
    match k, hk3 with
    | 0, _ => unfold stageZ; simp [p1, p2, p3]
    | 1, _ => unfold stageZ partsL; simp [na, p2, p3]
    | 2, _ => unfold stageZ partsL; simp [na, nb, p3]
    | 3, _ => unfold stageZ partsL; simp [na, nb, d1]
  have hlen : ((partsL z).take k).length = k := by unfold partsL; simp; omega
  rw [ht]
  unfold parseM
  rw [hs]
  show parseW (z.word :: (partsL z).take k) = some z
  rw [parseW_ok hk hlen ?_ (by rw [hst]; exact h), hst]
  by_cases h3 : k = 3
  · subst h3
    have : (((partsL z).take 3).getD 2 ⟨#[]⟩) = dataM z := rfl
    rw [this, d2, Bool.and_false]
  · have : decide (3 ≤ k) = false := decide_eq_false (by omega)
    rw [this]; rfl
end Go.Proofs.YtecnpdkoodfemaaDoor
