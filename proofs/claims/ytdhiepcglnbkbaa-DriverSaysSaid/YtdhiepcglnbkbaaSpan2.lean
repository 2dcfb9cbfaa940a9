
/- The reference's Meet: it goes over all sectors. -/
import Derived.Test.YtdhiepcglnbkbaaSpan
import Derived.Test.YtdhiepcglnbkbaaQuiet
namespace Go.Proofs.Ytdhiepcglnbkbaa
open Go.RowKit Go.Sort

/-- What is known of a world in a round: the two spans lie in the call's own blocks. -/
structure TwoSpans (B : Nat) (w wr : World) (af am bf bm : Int) : Prop where
  below : Below B w wr
  lt : B + 1 < wr.heap.size
  b1 : wr.heap[B]? = some (.cells #[.int .i64 af, .int .i64 am] 34 (0, 0))
  b2 : wr.heap[B + 1]? = some (.cells #[.int .i64 bf, .int .i64 bm] 34 (0, 0))
theorem TwoSpans.c {B : Nat} {w wr : World} {af am bf bm : Int} (h : TwoSpans B w wr af am bf bm) :
    wr.cell? ⟨B, 0, none⟩ = some (.int .i64 af) ∧ wr.cell? ⟨B, 1, none⟩ = some (.int .i64 am) ∧ wr.cell? ⟨B + 1, 0, none⟩ = some (.int .i64 bf) ∧ wr.cell? ⟨B + 1, 1, none⟩ = some (.int .i64 bm) :=
  ⟨cell_of_row _ _ 0 _ _ _ h.b1, cell_of_row _ _ 1 _ _ _ h.b1, cell_of_row _ _ 0 _ _ _ h.b2, cell_of_row _ _ 1 _ _ _ h.b2⟩
theorem TwoSpans.next {B : Nat} {w wr w' : World} {af am bf bm : Int} (h : TwoSpans B w wr af am bf bm) (hb : Below wr.heap.size wr w') (hB : B ≤ wr.heap.size := by omega) : TwoSpans B w w' af am bf bm :=
  ⟨h.below.trans (hb.mono hB), by have := hb.size; have := h.lt; omega, (hb.block _ (by have := h.lt; omega)).trans h.b1, (hb.block _ h.lt).trans h.b2⟩

theorem TwoSpans.step {B : Nat} {w wr w' : World} {af am bf bm : Int} (h : TwoSpans B w wr af am bf bm) (hb : Below wr.heap.size wr w') : TwoSpans B w w' af am bf bm :=
  h.next hb (by have := h.lt; omega)
theorem TwoSpans.rg {B : Nat} {w wr : World} {af am bf bm : Int} (h : TwoSpans B w wr af am bf bm) :
    (∀ d os, (grow (redrawn wr d) os).cell? ⟨B, 0, none⟩ = some (.int .i64 af)) ∧ (∀ d os, (grow (redrawn wr d) os).cell? ⟨B, 1, none⟩ = some (.int .i64 am)) ∧
    (∀ d os, (grow (redrawn wr d) os).cell? ⟨B + 1, 0, none⟩ = some (.int .i64 bf)) ∧ (∀ d os, (grow (redrawn wr d) os).cell? ⟨B + 1, 1, none⟩ = some (.int .i64 bm)) :=
  ⟨fun _ _ => cell_regrown h.c.1 _ _, fun _ _ => cell_regrown h.c.2.1 _ _, fun _ _ => cell_regrown h.c.2.2.1 _ _, fun _ _ => cell_regrown h.c.2.2.2 _ _⟩
theorem meet_of_has {af am bf bm k : Int} (hx : hasB af am k = true) (hy : hasB bf bm k = true) : meetB af am bf bm = true := by
  simp [hasB, meetB] at *; omega
theorem not_meet {af am bf bm : Int} (ha : SpanOk af am 32) (hb : SpanOk bf bm 32) (h : ∀ k, 0 ≤ k → k < 32 → ¬ (hasB af am k = true ∧ hasB bf bm k = true)) : meetB af am bf bm = false := by
  obtain ⟨a1, a2, a3, a4, a5⟩ := ha
  obtain ⟨b1, b2, b3, b4, b5⟩ := hb
  have h1 := h (if af ≤ bf then bf else af) (by split <;> omega) (by split <;> omega)
  by_cases c : af ≤ bf
  · rw [if_pos c] at h1
    simp [hasB] at h1
    simp [meetB]; omega
  · rw [if_neg c] at h1
    simp [hasB] at h1
    simp [meetB]; omega

end Go.Proofs.Ytdhiepcglnbkbaa
