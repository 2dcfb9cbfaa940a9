/- The laws TopSpan and TopMeet: their walks. -/
import Derived.Test.YtfklcfpkbnddfaaSpan2
namespace Go.Proofs.Ytfklcfpkbnddfaa
open Go.RowKit Go.Sort

/-- A world in which one span lies in the call's own block. -/
structure OneSpan (B : Nat) (w wr : World) (f m : Int) : Prop where
  below : Below B w wr
  lt : B < wr.heap.size
  b1 : wr.heap[B]? = some (.cells #[.int .i64 f, .int .i64 m] 23 (0, 0))
theorem OneSpan.c {B : Nat} {w wr : World} {f m : Int} (h : OneSpan B w wr f m) : wr.cell? ⟨B, 0, none⟩ = some (.int .i64 f) ∧ wr.cell? ⟨B, 1, none⟩ = some (.int .i64 m) :=
  ⟨cell_of_row _ _ 0 _ _ _ h.b1, cell_of_row _ _ 1 _ _ _ h.b1⟩
theorem OneSpan.next {B : Nat} {w wr w' : World} {f m : Int} (h : OneSpan B w wr f m) (hb : Below wr.heap.size wr w') : OneSpan B w w' f m :=
  ⟨h.below.trans (hb.mono (by have := h.lt; omega)), by have := hb.size; have := h.lt; omega, (hb.block _ h.lt).trans h.b1⟩

def cntI (f m k : Int) : Int := if k ≤ f then 0 else if k ≤ f + m then k - f else m
theorem cnt_start (f m : Int) (h : 0 ≤ f) : cntI f m (-3) = 0 := by unfold cntI; rw [if_pos (by omega)]
theorem cnt_end {f m : Int} (h : SpanOk f m 32) : cntI f m 35 = m := by
  obtain ⟨h1, h2, h3, h4, h5⟩ := h
  unfold cntI; rw [if_neg (by omega), if_neg (by omega)]
theorem cnt_yes {f m k : Int} (h : hasB f m k = true) : cntI f m k + 1 = cntI f m (k + 1) := by
  simp [hasB] at h
  unfold cntI
  rw [if_neg (show ¬ k + 1 ≤ f by omega), if_pos (show k + 1 ≤ f + m by omega)]
  split
  · omega
  · rw [if_pos (by omega)]; omega
theorem cnt_no {f m k : Int} (hm : 0 ≤ m) (h : hasB f m k = false) : cntI f m k = cntI f m (k + 1) := by
  simp [hasB] at h
  unfold cntI
  by_cases c : k < f
  · rw [if_pos (by omega), if_pos (by omega)]
  · have := h (by omega)
    rw [if_neg (show ¬ k + 1 ≤ f by omega), if_neg (show ¬ k + 1 ≤ f + m by omega)]
    split
    · omega
    · split <;> omega
theorem cnt_le (f m k : Int) (hm : 0 ≤ m) : 0 ≤ cntI f m k ∧ cntI f m k ≤ m := by unfold cntI; split <;> (try split) <;> omega

set_option maxRecDepth 100000 in
theorem topspan_walk (f m : Int) (w : World) :
    Calls Try.prog 4 #[spanV f m] w (Ret (.bool true) w) := by
  have m1 : hasB 4 2 5 = true := by decide
  by_cases hs : SpanOk f m 32
  · have fa := spanF_pos hs
    have Hs := Lib.hid hs
    obtain ⟨a1, a2, a3, a4, a5⟩ := hs
    have hh1 : hasB f m f = true := by simp [hasB]; omega
    have hh2 : hasB f m (f - 1) = false := by simp [hasB]; omega
    go_enter Try.func4, Try.ntmps4
    go_wp2_with (first
      | (go_at_call 20; refine (has_any _ _ _ _ (by omega) (by omega) (by omega) (by omega)).mono ?_; rintro e w1 ⟨rfl, hb1⟩; obtain ⟨hc1, hf1⟩ := bcell hb1; have hz1 := hb1.size)
      | (go_at_call 17; refine (check_any _ _ _ _ (by omega)).mono ?_; rintro e w2 ⟨rfl, hb2⟩; obtain ⟨hc2, hf2⟩ := bcell hb2; have hz2 := hb2.size))
    have hT : OneSpan w.heap.size w w2 f m :=
      OneSpan.next (OneSpan.next (wr := w.alloc (Obj.cells #[Value.int IntKind.i64 f, Value.int IntKind.i64 m] 23)) ⟨(Below.refl _ _).alloc (Nat.le_refl _) _, by simp, heap_alloc_new _ _⟩ hb1) hb2
    clear hb1 hb2 hc1 hf1 hc2 hf2 hz1 hz2
    go_loopw [3, 4] (fun n i wr => ∃ k : Int, -3 ≤ k ∧ k ≤ 35 ∧ i = .int .i64 k ∧ n = .int .i64 (cntI f m k) ∧ OneSpan w.heap.size w wr f m) (fun _ i _ => (35 - intOf i).toNat)
    case atStart => exact ⟨-3, by omega, by omega, rfl, by rw [cnt_start _ _ a1], hT⟩
    case round =>
      obtain ⟨k, hk0, hk1, rfl, rfl, hR⟩ := hrel
      obtain ⟨c1, c2⟩ := hR.c
      have hlt := hR.lt
      have hl := cnt_le f m k (by omega)
      by_cases hk : k < 35
      · go_wp2_with (go_at_call 20; refine (has_any _ _ _ _ (by omega) (by omega) (by omega) (by omega)).mono ?_; rintro e w1 ⟨rfl, hb1⟩; obtain ⟨hc1, hf1⟩ := bcell hb1; have hz1 := hb1.size)
        · go_roundw
          case rel => exact ⟨k + 1, by omega, by omega, rfl, by rw [← cnt_yes ‹_›], hR.next hb1⟩
          case measure => simp [intOf]; omega
        · go_roundw
          case rel => exact ⟨k + 1, by omega, by omega, rfl, by rw [← cnt_no (by omega) ‹_›], hR.next hb1⟩
          case measure => simp [intOf]; omega
      · obtain rfl : k = 35 := by omega
        have e35 := cnt_end Hs.out
        go_wp2_with (go_at_call 20; refine (has_any _ _ _ _ (by omega) (by omega) (by omega) (by omega)).mono ?_; rintro e w1 ⟨rfl, hb1⟩; obtain ⟨hc1, hf1⟩ := bcell hb1; have hz1 := hb1.size)
        go_ret
        exact ⟨rfl, hR.below.trans ((Below.mono ‹_› (by omega)).trans (Below.mono ‹_› (by omega)))⟩
  · have fa := spanF_neg hs
    clear hs
    go_enter Try.func4, Try.ntmps4
    go_wp2_with (first
      | (go_at_call 20; refine (has_any _ _ _ _ (by omega) (by omega) (by omega) (by omega)).mono ?_; rintro e w1 ⟨rfl, hb1⟩; obtain ⟨hc1, hf1⟩ := bcell hb1; have hz1 := hb1.size)
      | (go_at_call 17; refine (check_any _ _ _ _ (by omega)).mono ?_; rintro e w2 ⟨rfl, hb2⟩; obtain ⟨hc2, hf2⟩ := bcell hb2; have hz2 := hb2.size))
    go_ret
    exact ⟨rfl, ((Below.refl _ _).alloc (Nat.le_refl _) _).trans ((hb1.mono (by simp)).trans (hb2.mono (by simp at hz1; omega)))⟩

theorem meet_comm (af am bf bm : Int) : meetB bf bm af am = meetB af am bf bm := by unfold meetB; exact Bool.and_comm _ _
theorem meet_has {af am bf bm k : Int} (h : meetB af am bf bm = false) : (hasB af am k && hasB bf bm k) = false := by
  cases hx : hasB af am k with
  | false => rfl
  | true =>
    cases hy : hasB bf bm k with
    | false => rfl
    | true => rw [meet_of_has hx hy] at h; cases h
theorem meet_next {af am bf bm : Int} (h : (af + am == bf) = true) : meetB af am bf bm = false := by
  simp at h; simp [meetB]; omega

set_option maxRecDepth 100000 in
set_option maxHeartbeats 1600000 in
theorem topmeet_walk (af am bf bm at_ : Int) (w : World) (h3 : -9223372036854775808 ≤ at_) (h4 : at_ ≤ 9223372036854775807) :
    Calls Try.prog 5 #[spanV af am, spanV bf bm, .int .i64 at_] w (Ret (.bool true) w) := by
  have m1 : meetB 1 1 2 1 = false := by decide
  by_cases ha : SpanOk af am 32
  · have fa := spanF_pos ha
    by_cases hb : SpanOk bf bm 32
    · have fb := spanF_pos hb
      obtain ⟨a1, a2, a3, a4, a5⟩ := ha
      obtain ⟨b1, b2, b3, b4, b5⟩ := hb
      have hs : IntKind.i64.wrap (af + am) = af + am := IntWalk.i64_in _ (by omega)
      have mself : meetB af am af am = true := by simp [meetB]; omega
      go_enter Try.func5, Try.ntmps5
      go_wp2_with fail
      have hT : TwoSpans w.heap.size w ((w.alloc (Obj.cells #[Value.int IntKind.i64 af, Value.int IntKind.i64 am] 23)).alloc (Obj.cells #[Value.int IntKind.i64 bf, Value.int IntKind.i64 bm] 23)) af am bf bm :=
        ⟨((Below.refl _ _).alloc (Nat.le_refl _) _).alloc (by simp) _, by simp, heap_alloc2_old _ _ _, heap_alloc2_new _ _ _⟩
      generalize ((w.alloc (Obj.cells #[Value.int IntKind.i64 af, Value.int IntKind.i64 am] 23)).alloc (Obj.cells #[Value.int IntKind.i64 bf, Value.int IntKind.i64 bm] 23)) = W at hT ⊢
      obtain ⟨c1, c2, c3, c4⟩ := hT.c
      go_wp2_with (first
        | (go_at_call 14; refine (meet_any _ _ _ _ _ (by omega) (by omega) (by omega) (by omega) (by omega) (by omega) (by omega) (by omega)).mono ?_; rintro e w1 ⟨rfl, hb1⟩; have hT1 := hT.step hb1; clear c1 c2 c3 c4 hT hb1; have hT := hT1; clear hT1; obtain ⟨c1, c2, c3, c4⟩ := hT.c)
        | (go_at_call 17; refine (check_any _ _ _ _ (by omega)).mono ?_; rintro e w1 ⟨rfl, hb1⟩; have hT1 := hT.step hb1; clear c1 c2 c3 c4 hT hb1; have hT := hT1; clear hT1; obtain ⟨c1, c2, c3, c4⟩ := hT.c)
        | (go_at_call 20; refine (has_any _ _ _ _ (by omega) (by omega) h3 h4).mono ?_; rintro e w1 ⟨rfl, hb1⟩; have hT1 := hT.step hb1; clear c1 c2 c3 c4 hT hb1; have hT := hT1; clear hT1; obtain ⟨c1, c2, c3, c4⟩ := hT.c))
      all_goals try (exfalso; have hx := meet_of_has (am := am) (bm := bm) ‹hasB af am at_ = true› ‹_›; simp_all; done)
      all_goals
        obtain ⟨g1, g2, g3, g4⟩ := hT.rg
        have hcm := meet_comm af am bf bm
        by_cases hn : af + am = bf
        · have hn1 : (af + am == bf) = true := by simpa using hn
          have hn2 := meet_next (bm := bm) hn1
          clear c1 c2 c3 c4 hn
          refine wp_region_quiet_below mixed (by kernel_rfl) ?_
          repeat (quiet_step (first
            | (go_at_call 14; exact Calls.rg (meet_any _ _ _ _ _ (by omega) (by omega) (by omega) (by omega) (by omega) (by omega) (by omega) (by omega)))
            | (go_at_call 15; exact Calls.rg (next_any _ _ _ _ _ (by omega) (by omega) (by omega) (by omega)))))
          refine wpQuiet_nil ?_
          intro _ hw'
          obtain ⟨⟨dq2, osq2⟩, hw''⟩ := hw'
          subst hw''
          go_wp2
          go_ret
          exact ⟨rfl, hT.below.trans (Below.mono (below_regrown _ _ _) (by have := hT.lt; omega))⟩
        · have hn1 : (af + am == bf) = false := by simpa using hn
          clear c1 c2 c3 c4 hn
          refine wp_region_quiet_below mixed (by kernel_rfl) ?_
          repeat (quiet_step (first
            | (go_at_call 14; exact Calls.rg (meet_any _ _ _ _ _ (by omega) (by omega) (by omega) (by omega) (by omega) (by omega) (by omega) (by omega)))
            | (go_at_call 15; exact Calls.rg (next_any _ _ _ _ _ (by omega) (by omega) (by omega) (by omega)))))
          refine wpQuiet_nil ?_
          intro _ hw'
          obtain ⟨⟨dq2, osq2⟩, hw''⟩ := hw'
          subst hw''
          go_wp2
          go_ret
          exact ⟨rfl, hT.below.trans (Below.mono (below_regrown _ _ _) (by have := hT.lt; omega))⟩
    · have fb := spanF_neg hb
      clear ha hb
      go_enter Try.func5, Try.ntmps5
      go_wp2_with fail
      have hT : TwoSpans w.heap.size w ((w.alloc (Obj.cells #[Value.int IntKind.i64 af, Value.int IntKind.i64 am] 23)).alloc (Obj.cells #[Value.int IntKind.i64 bf, Value.int IntKind.i64 bm] 23)) af am bf bm :=
        ⟨((Below.refl _ _).alloc (Nat.le_refl _) _).alloc (by simp) _, by simp, heap_alloc2_old _ _ _, heap_alloc2_new _ _ _⟩
      generalize ((w.alloc (Obj.cells #[Value.int IntKind.i64 af, Value.int IntKind.i64 am] 23)).alloc (Obj.cells #[Value.int IntKind.i64 bf, Value.int IntKind.i64 bm] 23)) = W at hT ⊢
      obtain ⟨c1, c2, c3, c4⟩ := hT.c
      go_wp2_with (first
        | (go_at_call 14; refine (meet_any _ _ _ _ _ (by omega) (by omega) (by omega) (by omega) (by omega) (by omega) (by omega) (by omega)).mono ?_; rintro e w1 ⟨rfl, hb1⟩; have hT1 := hT.step hb1; clear c1 c2 c3 c4 hT hb1; have hT := hT1; clear hT1; obtain ⟨c1, c2, c3, c4⟩ := hT.c)
        | (go_at_call 17; refine (check_any _ _ _ _ (by omega)).mono ?_; rintro e w1 ⟨rfl, hb1⟩; have hT1 := hT.step hb1; clear c1 c2 c3 c4 hT hb1; have hT := hT1; clear hT1; obtain ⟨c1, c2, c3, c4⟩ := hT.c))
      go_ret
      exact ⟨rfl, hT.below⟩
  · have fa := spanF_neg ha
    clear ha
    go_enter Try.func5, Try.ntmps5
    go_wp2_with fail
    have hT : TwoSpans w.heap.size w ((w.alloc (Obj.cells #[Value.int IntKind.i64 af, Value.int IntKind.i64 am] 23)).alloc (Obj.cells #[Value.int IntKind.i64 bf, Value.int IntKind.i64 bm] 23)) af am bf bm :=
      ⟨((Below.refl _ _).alloc (Nat.le_refl _) _).alloc (by simp) _, by simp, heap_alloc2_old _ _ _, heap_alloc2_new _ _ _⟩
    generalize ((w.alloc (Obj.cells #[Value.int IntKind.i64 af, Value.int IntKind.i64 am] 23)).alloc (Obj.cells #[Value.int IntKind.i64 bf, Value.int IntKind.i64 bm] 23)) = W at hT ⊢
    obtain ⟨c1, c2, c3, c4⟩ := hT.c
    go_wp2_with (first
      | (go_at_call 14; refine (meet_any _ _ _ _ _ (by omega) (by omega) (by omega) (by omega) (by omega) (by omega) (by omega) (by omega)).mono ?_; rintro e w1 ⟨rfl, hb1⟩; have hT1 := hT.step hb1; clear c1 c2 c3 c4 hT hb1; have hT := hT1; clear hT1; obtain ⟨c1, c2, c3, c4⟩ := hT.c)
      | (go_at_call 17; refine (check_any _ _ _ _ (by omega)).mono ?_; rintro e w1 ⟨rfl, hb1⟩; have hT1 := hT.step hb1; clear c1 c2 c3 c4 hT hb1; have hT := hT1; clear hT1; obtain ⟨c1, c2, c3, c4⟩ := hT.c))
    go_ret
    exact ⟨rfl, hT.below⟩
end Go.Proofs.Ytfklcfpkbnddfaa
