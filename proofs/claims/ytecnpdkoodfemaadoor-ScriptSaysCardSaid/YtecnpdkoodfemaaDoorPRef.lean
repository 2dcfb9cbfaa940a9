
/- The plain law of ScriptSays: a text is read alike by both. No program in sight. -/
import Derived.Test.YtecnpdkoodfemaaDoorPText
import Derived.Test.YtecnpdkoodfemaaDoorRParse
namespace Go.Proofs.YtecnpdkoodfemaaDoor
set_option linter.unusedSimpArgs false
set_option linter.unusedVariables false
open Go.RowKit

theorem natF_mono : ∀ (l : List UInt8) (n v : Int), 0 ≤ n → natF n l = some v → n ≤ v
  | [], n, v, h, e => by cases e; exact Int.le_refl _
  | c :: l, n, v, h, e => by
    unfold natF at e
    split at e
    · cases e
    · rename_i hc
      simp at hc
      have := natF_mono l _ v (by omega) e
      omega
theorem natF_cons {c : UInt8} {l : List UInt8} {n v : Int} (e : natF n (c :: l) = some v) : 48 ≤ c.toNat ∧ c.toNat ≤ 57 ∧ natF (10 * n + ((c.toNat : Int) - 48)) l = some v := by
  unfold natF at e
  split at e
  · cases e
  · rename_i hc
    simp at hc
    exact ⟨by omega, by omega, e⟩
theorem natF_digits : ∀ (ds : List Nat) (n : Nat), (∀ d ∈ ds, d < 10) → natF (n : Int) (ds.map dch) = some ((ds.foldl (fun a d => a * 10 + d) n : Nat) : Int)
  | [], n, _ => rfl
  | d :: ds, n, h => by
    have h1 := h d (by simp)
    have e := dch_nat h1
    rw [List.map_cons, List.foldl_cons]
    unfold natF
    rw [if_neg (by rw [e]; simp; omega), e, ← natF_digits ds (n * 10 + d) (fun x hx => h x (by simp [hx]))]
    congr 1
    omega
theorem dch_of {c : UInt8} (h1 : 48 ≤ c.toNat) : c = dch (c.toNat - 48) := by
  apply UInt8.toNat_inj.1
  unfold dch
  rw [UInt8.toNat_ofNat']
  have := UInt8.toNat_lt c
  omega
theorem bytes_of {s : ByteArray} {l : List UInt8} (h : s.data.toList = l) : s = ⟨l.toArray⟩ := by
  subst h
  cases s
  rfl
/-- A text that natural reads as a number is that number's own text. -/
theorem nat_back {s : ByteArray} {n : Int} (h : natM s 999 = n) (hn : 0 ≤ n) : s = itoaB n := by
  unfold natM at h
  split at h
  · omega
  · rename_i hc
    simp only [Bool.or_eq_true, decide_eq_true_eq, Bool.and_eq_true, beq_iff_eq, not_or, not_and] at hc
    obtain ⟨⟨h1, h2⟩, h3⟩ := hc
    cases hf : natF 0 s.data.toList with
    | none => rw [hf] at h; simp only at h; omega
    | some v =>
      rw [hf] at h
      simp only at h
      split at h
      · omega
      · rename_i hm
        subst h
        have hsz : s.data.toList.length = s.size := by simp
        obtain ⟨m, rfl⟩ : ∃ m : Nat, v = m := ⟨v.toNat, by omega⟩
        have hI : itoaB (m : Int) = ⟨(Lib.decDigits m).toArray⟩ := by unfold itoaB; rw [itoa_nat]
        rw [hI]
        apply bytes_of
        match hl : s.data.toList with
        | [] => rw [hl] at hsz; simp at hsz; omega
        | [c0] =>
          rw [hl] at hf
          obtain ⟨a0, b0, hf⟩ := natF_cons hf
          have hv : 10 * 0 + ((c0.toNat : Int) - 48) = (m : Int) := Option.some.inj hf
          have e0 := dch_of a0
          have hmm : m = c0.toNat - 48 := by omega
          subst hmm
          rw [Lib.decDigits, dif_pos (by omega)]
          exact congrArg (fun x => [x]) e0
        | [c0, c1] =>
          rw [hl] at hf h3
          obtain ⟨a0, b0, hf⟩ := natF_cons hf
          obtain ⟨a1, b1, hf⟩ := natF_cons hf
          have hz : c0.toNat ≠ 48 := fun e => by
            have : c0 = 48 := UInt8.toNat_inj.1 (by rw [e]; rfl)
            subst this
            have := h3 rfl
            rw [hl] at hsz; simp at hsz; omega
          have hv : 10 * (10 * 0 + ((c0.toNat : Int) - 48)) + ((c1.toNat : Int) - 48) = (m : Int) := Option.some.inj hf
          have e0 := dch_of a0
          have e1 := dch_of a1
          have hmm : m = 10 * (c0.toNat - 48) + (c1.toNat - 48) := by omega
          rw [Lib.decDigits, dif_neg (by omega), Lib.decDigits, dif_pos (by omega)]
          rw [show m / 10 = c0.toNat - 48 by omega, show m % 10 = c1.toNat - 48 by omega]
          show [c0, c1] = [dch (c0.toNat - 48), dch (c1.toNat - 48)]
          rw [← e0, ← e1]
        | [c0, c1, c2] =>
          rw [hl] at hf h3
          obtain ⟨a0, b0, hf⟩ := natF_cons hf
          obtain ⟨a1, b1, hf⟩ := natF_cons hf
          obtain ⟨a2, b2, hf⟩ := natF_cons hf
          have hz : c0.toNat ≠ 48 := fun e => by
            have : c0 = 48 := UInt8.toNat_inj.1 (by rw [e]; rfl)
            subst this
            have := h3 rfl
            rw [hl] at hsz; simp at hsz; omega
          have hv : 10 * (10 * (10 * 0 + ((c0.toNat : Int) - 48)) + ((c1.toNat : Int) - 48)) + ((c2.toNat : Int) - 48) = (m : Int) := Option.some.inj hf
          have e0 := dch_of a0
          have e1 := dch_of a1
          have e2 := dch_of a2
          have hmm : m = 100 * (c0.toNat - 48) + 10 * (c1.toNat - 48) + (c2.toNat - 48) := by omega
          rw [Lib.decDigits, dif_neg (by omega), Lib.decDigits, dif_neg (by omega), Lib.decDigits, dif_pos (by omega)]
          rw [show m / 10 / 10 = c0.toNat - 48 by omega, show m / 10 % 10 = c1.toNat - 48 by omega, show m % 10 = c2.toNat - 48 by omega]
          show [c0, c1, c2] = [dch (c0.toNat - 48), dch (c1.toNat - 48), dch (c2.toNat - 48)]
          rw [← e0, ← e1, ← e2]
        | c0 :: c1 :: c2 :: c3 :: l =>
          exfalso
          rw [hl] at hf h3
          obtain ⟨a0, b0, hf⟩ := natF_cons hf
          obtain ⟨a1, b1, hf⟩ := natF_cons hf
          obtain ⟨a2, b2, hf⟩ := natF_cons hf
          obtain ⟨a3, b3, hf⟩ := natF_cons hf
          have hz : c0.toNat ≠ 48 := fun e => by
            have : c0 = 48 := UInt8.toNat_inj.1 (by rw [e]; rfl)
            subst this
            have := h3 rfl
            rw [hl] at hsz; simp at hsz; omega
          have := natF_mono _ _ _ (by omega) hf
          omega
theorem natM_ge (s : ByteArray) : -1 ≤ natM s 999 ∧ natM s 999 ≤ 999 := by
  unfold natM
  split
  · omega
  · split
    · omega
    · rename_i n hn
      split
      · omega
      · have := natF_mono _ _ _ (Int.le_refl 0) hn
        omega
/-- A number's own text is read by natural as that number. -/
theorem natM_itoa (n : Nat) (h : n < 1000) : natM (itoaB n) 999 = n := by
  obtain ⟨ds, h1, h2, h3, h4, h5⟩ := dec_digits n h
  have hl : (itoaB (n : Int)).data.toList = ds.map dch := by
    unfold itoaB
    rw [itoa_nat, h4]
  have hsz : (itoaB (n : Int)).size = ds.length := by
    have : (itoaB (n : Int)).data.toList.length = (itoaB (n : Int)).size := by simp
    rw [← this, hl, List.length_map]
  have hpos : 1 ≤ ds.length := by
    cases ds with
    | nil => exact absurd rfl h2
    | cons _ _ => simp
  have hf := natF_digits ds 0 h1
  rw [h5] at hf
  unfold natM
  rw [if_neg, hl]
  · have e : natF 0 (ds.map dch) = some (n : Int) := hf
    rw [e]
    simp only
    rw [if_neg (by omega)]
  · rw [hsz, hl]
    simp only [Bool.or_eq_true, decide_eq_true_eq, Bool.and_eq_true, beq_iff_eq, not_or, not_and]
    refine ⟨⟨by omega, by omega⟩, fun hh => ?_⟩
    intro hlen
    -- no leading nought
    by_cases h10 : n < 10
    · have : Lib.decDigits n = [UInt8.ofNat (48 + n)] := by rw [Lib.decDigits, dif_pos h10]
      rw [this] at h4
      have := congrArg List.length h4
      simp at this
      omega
    · have hh2 : (Lib.decDigits n).head? = some 48 := by rw [h4]; exact hh
      by_cases h100 : n < 100
      · rw [Lib.decDigits, dif_neg h10, Lib.decDigits, dif_pos (by omega)] at hh2
        have e1 : UInt8.ofNat (48 + n / 10) = 48 := Option.some.inj hh2
        have := congrArg UInt8.toNat e1
        rw [UInt8.toNat_ofNat'] at this
        have h48 : (48 : UInt8).toNat = 48 := rfl
        omega
      · rw [Lib.decDigits, dif_neg h10, Lib.decDigits, dif_neg (by omega), Lib.decDigits, dif_pos (by omega)] at hh2
        have e1 : UInt8.ofNat (48 + n / 10 / 10) = 48 := Option.some.inj hh2
        have := congrArg UInt8.toNat e1
        rw [UInt8.toNat_ofNat'] at this
        have h48 : (48 : UInt8).toNat = 48 := rfl
        omega
theorem numM_ge (s : ByteArray) : numM s = -1 ∨ itoaB (numM s) = s := by
  unfold numM
  split
  · split
    · rename_i h
      have := eq_of_beq h
      rw [ByteArray.toList_eq, ByteArray.toList_eq] at this
      exact .inr (Go.WideShapes.bytes_inj this)
    · exact .inl rfl
  · exact .inl rfl
/-- Either they read the same number, or neither is a part that may be. -/
theorem num_nat (s : ByteArray) : natM s 999 = numM s ∨ (natM s 999 = -1 ∧ (numM s < 0 ∨ 999 < numM s)) := by
  have hg := natM_ge s
  by_cases hn : 0 ≤ natM s 999
  · left
    have hs := nat_back rfl hn
    obtain ⟨m, hm⟩ : ∃ m : Nat, natM s 999 = m := ⟨(natM s 999).toNat, by omega⟩
    rw [hm] at hs ⊢
    rw [hs, numM_itoa m (by omega)]
  · right
    refine ⟨by omega, ?_⟩
    by_cases hb : 0 ≤ numM s ∧ numM s ≤ 999
    · exfalso
      rcases numM_ge s with h | h
      · omega
      · obtain ⟨m, hm⟩ : ∃ m : Nat, numM s = m := ⟨(numM s).toNat, by omega⟩
        rw [hm] at h
        have := natM_itoa m (by omega)
        rw [h] at this
        omega
    · omega
theorem check_bad {z : Stp} (h : boundB z = true) : checkM z ≠ 0 := by
  intro e
  obtain ⟨k, _, _, _, h2, _, _⟩ := checkM_ok e
  rw [h] at h2
  cases h2
theorem bound_bad {z : Stp} (h : z.a < 0 ∨ 999 < z.a ∨ z.b < 0 ∨ 999 < z.b) : boundB z = true := by
  unfold boundB
  simp only [Bool.or_eq_true, decide_eq_true_eq]
  omega
theorem parse_same (ws : List ByteArray) : parseW ws = rparseW ws := by
  cases ws with
  | nil => rfl
  | cons w0 r =>
    cases hk : formK w0 with
    | none => rw [parseW_no hk, rparseW_no hk]
    | some k =>
      have hk3 := formK_le hk
      by_cases hl : r.length = k
      · rcases hE : (decide (3 ≤ k) && (r.getD 2 ⟨#[]⟩).toList.isEmpty) with _ | _
        · by_cases hs : stageZ w0 r k = rstageZ w0 r k
          · by_cases hc : checkM (stageZ w0 r k) = 0
            · rw [parseW_ok hk hl hE hc, rparseW_ok hk hl hE (by rw [← hs]; exact hc), hs]
            · rw [parseW_bad hk hl hc, rparseW_bad hk hl (by rw [← hs]; exact hc)]
          · have hx := num_nat (r.getD 0 ⟨#[]⟩)
            have hy := num_nat (r.getD 1 ⟨#[]⟩)
            have hb : boundB (stageZ w0 r k) = true ∧ boundB (rstageZ w0 r k) = true := by
              unfold stageZ rstageZ at hs ⊢
              generalize numM (r.getD 0 ⟨#[]⟩) = a at *
              generalize numM (r.getD 1 ⟨#[]⟩) = b at *
              generalize natM (r.getD 0 ⟨#[]⟩) 999 = a' at *
              generalize natM (r.getD 1 ⟨#[]⟩) 999 = b' at *
              rcases hx with rfl | ⟨rfl, hx⟩
              · rcases hy with rfl | ⟨rfl, hy⟩
                · first | exact absurd rfl hs | exact absurd trivial hs
                · by_cases h2 : 2 ≤ k
                  · simp only [if_pos h2]
                    exact ⟨bound_bad (by simp only; omega), bound_bad (by simp only; omega)⟩
                  · simp only [if_neg h2] at hs
                    first | exact absurd rfl hs | exact absurd trivial hs
              · by_cases h1 : 1 ≤ k
                · simp only [if_pos h1]
                  exact ⟨bound_bad (by simp only; omega), bound_bad (by simp only; omega)⟩
                · simp only [if_neg h1, if_neg (show ¬ 2 ≤ k by omega)] at hs
                  first | exact absurd rfl hs | exact absurd trivial hs
            rw [parseW_bad hk hl (check_bad hb.1), rparseW_bad hk hl (check_bad hb.2)]
        · rw [Bool.and_eq_true, decide_eq_true_eq] at hE
          obtain rfl : k = 3 := by omega
          rw [parseW_emp hk hl hE.2, rparseW_emp hk hl hE.2]
      · rw [parseW_len hk hl, rparseW_len hk hl]
end Go.Proofs.YtecnpdkoodfemaaDoor
