/- Nobody waits for ever: the plain part. -/
import Derived.Test.YtfklcfpkbnddfaaMod3
namespace Go.Proofs.Ytfklcfpkbnddfaa
set_option linter.unusedSimpArgs false
set_option linter.unusedVariables false
open Go.RowKit

/-- How many more may go before one that writes goes. -/
def fairM (t : Tn) : Int := (if 0 < t.gone ∧ t.gone < 3 then 3 - t.gone else 0) + 3 * (if t.starved < 2 then 2 - t.starved else 0)
theorem fair_start (t : Tn) (h : 0 ≤ t.starved) : 0 ≤ fairM t ∧ fairM t ≤ 8 := by
  unfold fairM; split <;> split <;> omega
theorem fair_step {l : List Rq} {t t' : Tn} {now : Int} {j : Nat} {r x : Rq} (hn : NextIs l t now j r t') (hx : x ∈ l) (hw : x.write = true) (hs : 0 ≤ t.starved) (h0 : t'.write = false) : fairM t' + 1 ≤ fairM t ∧ 0 ≤ t'.starved := by
  have he := hn.eq
  obtain ⟨i, hi⟩ := List.mem_iff_getElem?.1 hx
  have ho : 0 ≤ oldest l true := oldest_some hi hw
  by_cases h : 0 < t.gone ∧ t.gone < 3 ∧ 0 ≤ fromI l t.write t.wh
  · obtain ⟨h1, h2, h3⟩ := h
    rw [nextM_on h1 h2 h3] at he
    have e2 := congrArg Prod.snd he
    simp only at e2
    subst e2
    unfold fairM
    simp only
    refine ⟨?_, hs⟩
    split <;> split <;> split <;> omega
  · rw [nextM_new h] at he
    have e2 := congrArg Prod.snd he
    simp only at e2
    subst e2
    unfold turnedM at h0
    simp only at h0
    rw [if_neg (by simp [ho])] at h0
    by_cases h5 : 2 ≤ t.starved
    · rw [if_pos ⟨ho, .inr h5⟩] at h0; simp at h0
    · by_cases h6 : 0 ≤ oldest l false
      · have et : turnedM l t = { t with gone := 0, write := false, starved := t.starved + 1 } := by
          unfold turnedM; rw [if_neg (by simp [ho]), if_neg (by simp [h6]; omega)]
        rw [et]
        unfold fairM
        simp only
        refine ⟨?_, by omega⟩
        split <;> split <;> (try split) <;> (try split) <;> omega
      · rw [if_pos ⟨ho, .inl h6⟩] at h0; simp at h0
end Go.Proofs.Ytfklcfpkbnddfaa
