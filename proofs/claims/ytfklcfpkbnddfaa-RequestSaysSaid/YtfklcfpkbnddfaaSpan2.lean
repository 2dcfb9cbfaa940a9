/- The reference's Meet: it goes over all sectors. -/
import Derived.Test.YtfklcfpkbnddfaaSpan
import Derived.Test.YtfklcfpkbnddfaaQuiet
namespace Go.Proofs.Ytfklcfpkbnddfaa
open Go.RowKit Go.Sort

/-- What is known of a world in a round: the two spans lie in the call's own blocks. -/
structure TwoSpans (B : Nat) (w wr : World) (af am bf bm : Int) : Prop where
  below : Below B w wr
  lt : B + 1 < wr.heap.size
  b1 : wr.heap[B]? = some (.cells #[.int .i64 af, .int .i64 am] 23 (0, 0))
  b2 : wr.heap[B + 1]? = some (.cells #[.int .i64 bf, .int .i64 bm] 23 (0, 0))
theorem TwoSpans.c {B : Nat} {w wr : World} {af am bf bm : Int} (h : TwoSpans B w wr af am bf bm) :
    wr.cell? ⟨B, 0, none⟩ = some (.int .i64 af) ∧ wr.cell? ⟨B, 1, none⟩ = some (.int .i64 am) ∧ wr.cell? ⟨B + 1, 0, none⟩ = some (.int .i64 bf) ∧ wr.cell? ⟨B + 1, 1, none⟩ = some (.int .i64 bm) :=
  ⟨cell_of_row _ _ 0 _ _ _ h.b1, cell_of_row _ _ 1 _ _ _ h.b1, cell_of_row _ _ 0 _ _ _ h.b2, cell_of_row _ _ 1 _ _ _ h.b2⟩
theorem TwoSpans.next {B : Nat} {w wr w' : World} {af am bf bm : Int} (h : TwoSpans B w wr af am bf bm) (hb : Below wr.heap.size wr w') (hB : B ≤ wr.heap.size := by omega) : TwoSpans B w w' af am bf bm :=
  ⟨h.below.trans (hb.mono hB), by have := hb.size; have := h.lt; omega, (hb.block _ (by have := h.lt; omega)).trans h.b1, (hb.block _ h.lt).trans h.b2⟩

theorem TwoSpans.step {B : Nat} {w wr w' : World} {af am bf bm : Int} (h : TwoSpans B w wr af am bf bm) (hb : Below wr.heap.size wr w') : TwoSpans B w w' af am bf bm :=
  h.next hb (by have := h.lt; omega)
theorem TwoSpans.rg {B : Nat} {w wr : World} {af am bf bm : Int} (h : TwoSpans B w wr af am bf bm) :
    (∀ d os, (grow (redrawn wr d) os).cell? ⟨B, 0, none⟩ = some (.int .i64 af)) ∧ (∀ d os, (grow (redrawn wr d) os).cell? ⟨B, 1, none⟩ = some (.int .i64 am)) ∧
    (∀ d os, (grow (redrawn wr d) os).cell? ⟨B + 1, 0, none⟩ = some (.int .i64 bf)) ∧ (∀ d os, (grow (redrawn wr d) os).cell? ⟨B + 1, 1, none⟩ = some (.int .i64 bm)) :=
  ⟨fun _ _ => cell_regrown h.c.1 _ _, fun _ _ => cell_regrown h.c.2.1 _ _, fun _ _ => cell_regrown h.c.2.2.1 _ _, fun _ _ => cell_regrown h.c.2.2.2 _ _⟩
theorem meet_of_has {af am bf bm k : Int} (hx : hasB af am k = true) (hy : hasB bf bm k = true) : meetB af am bf bm = true := by
  simp [hasB, meetB] at *; omega
theorem not_meet {af am bf bm : Int} (ha : SpanOk af am 32) (hb : SpanOk bf bm 32) (h : ∀ k, 0 ≤ k → k < 32 → ¬ (hasB af am k = true ∧ hasB bf bm k = true)) : meetB af am bf bm = false := by
  obtain ⟨a1, a2, a3, a4, a5⟩ := ha
  obtain ⟨b1, b2, b3, b4, b5⟩ := hb
  have h1 := h (if af ≤ bf then bf else af) (by split <;> omega) (by split <;> omega)
  by_cases c : af ≤ bf
  · rw [if_pos c] at h1
    simp [hasB] at h1
    simp [meetB]; omega
  · rw [if_neg c] at h1
    simp [hasB] at h1
    simp [meetB]; omega

theorem rmeet_any (af am bf bm : Int) (w : World) (ha : SpanOk af am 32) (hb : SpanOk bf bm 32) :
    Calls Try.prog 19 #[spanV af am, spanV bf bm] w (Ret (.bool (meetB af am bf bm)) w) := by
  have Ha := Lib.hid ha
  have Hb := Lib.hid hb
  obtain ⟨a1, a2, a3, a4, a5⟩ := ha
  obtain ⟨b1, b2, b3, b4, b5⟩ := hb
  go_enter Try.func19, Try.ntmps19
  go_wp2
  go_loopw [5, 6, 7] (fun i _ _ wr => ∃ k : Int, 0 ≤ k ∧ k ≤ 32 ∧ i = .int .i64 k ∧ TwoSpans w.heap.size w wr af am bf bm ∧ Hid (∀ j, 0 ≤ j → j < k → ¬ (hasB af am j = true ∧ hasB bf bm j = true))) (fun i _ _ _ => (32 - intOf i).toNat)
  case atStart =>
    exact ⟨0, by omega, by omega, rfl, ⟨((Below.refl _ _).alloc (Nat.le_refl _) _).alloc (by simp) _, by simp, heap_alloc2_old _ _ _, heap_alloc2_new _ _ _⟩, fun j h1 h2 => by omega⟩
  case round =>
    obtain ⟨k, hk0, hk1, rfl, hT, hno⟩ := hrel
    obtain ⟨c1, c2, c3, c4⟩ := hT.c
    have hlt := hT.lt
    go_wp2_with (go_at_call 21; refine (rhas_any _ _ _ _ (by omega) (by omega) (by omega) (by omega)).mono ?_; rintro e w' ⟨rfl, hb'⟩; obtain ⟨hc', hf'⟩ := bcell hb'; have hz' := hb'.size)
    · go_ret
      refine ⟨?_, hT.below.trans ((Below.mono ‹_› (by omega)).trans (Below.mono ‹_› (by omega)))⟩
      rw [meet_of_has ‹hasB af am k = true› ‹_›]; rfl
    · go_roundw
      case rel =>
        refine ⟨k + 1, by omega, by omega, rfl, (hT.next ‹_› (by omega)).next ‹_› (by omega), fun j j1 j2 => ?_⟩
        by_cases hj : j = k
        · subst hj; simp [*]
        · exact hno.out j j1 (by omega)
      case measure => simp [intOf]; omega
    · go_roundw
      case rel =>
        refine ⟨k + 1, by omega, by omega, rfl, (hT.next ‹_› (by omega)).next ‹_› (by omega), fun j j1 j2 => ?_⟩
        by_cases hj : j = k
        · subst hj; simp [*]
        · exact hno.out j j1 (by omega)
      case measure => simp [intOf]; omega
    · go_ret
      refine ⟨?_, hT.below⟩
      rw [not_meet Ha.out Hb.out (fun j j1 j2 => hno.out j j1 (by omega))]; rfl
end Go.Proofs.Ytfklcfpkbnddfaa
