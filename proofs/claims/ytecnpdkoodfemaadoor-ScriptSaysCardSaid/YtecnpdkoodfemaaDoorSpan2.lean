
/- The reference's Meet: it goes over all sectors. -/
import Derived.Test.YtecnpdkoodfemaaDoorSpan
import Derived.Test.YtecnpdkoodfemaaDoorQuiet
namespace Go.Proofs.YtecnpdkoodfemaaDoor
open Go.RowKit Go.Sort

theorem meet_of_has {af am bf bm k : Int} (hx : hasB af am k = true) (hy : hasB bf bm k = true) : meetB af am bf bm = true := by
  simp [hasB, meetB] at *; omega
theorem not_meet {af am bf bm : Int} (ha : SpanOk af am 32) (hb : SpanOk bf bm 32) (h : ∀ k, 0 ≤ k → k < 32 → ¬ (hasB af am k = true ∧ hasB bf bm k = true)) : meetB af am bf bm = false := by
  obtain ⟨a1, a2, a3, a4, a5⟩ := ha
  obtain ⟨b1, b2, b3, b4, b5⟩ := hb
  have h1 := h (if af ≤ bf then bf else af) (by split <;> omega) (by split <;> omega)
  by_cases c : af ≤ bf
  · rw [if_pos c] at h1
    simp [hasB] at h1
    simp [meetB]; omega
  · rw [if_neg c] at h1
    simp [hasB] at h1
    simp [meetB]; omega

end Go.Proofs.YtecnpdkoodfemaaDoor
