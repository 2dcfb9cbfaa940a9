/- The law ElevatorSays: its walk. -/
import Derived.Test.YtfklcfpkbnddfaaRNext4
import Derived.Test.YtfklcfpkbnddfaaGood
import Derived.Outline
namespace Go.Proofs.Ytfklcfpkbnddfaa
open Go.RowKit Go.Sort

/-- A list of one request without data, with one tag, as a literal makes it. -/
theorem reqs_one {S : Nat → Prop} {w : World} {g g0 : Nat} {wb : Bool} {lo many tag born : Int} {T T' : TypeId} (hS : ∀ b, S b)
    (h1 : w.heap[g]? = some (.cells #[.bool wb, .int .i64 lo, .int .i64 many, .slice none 0 0, .slice (some ⟨g0, 0, none⟩) 1 1, .int .i64 born] T (0, 0)))
    (h0 : w.heap[g0]? = some (.cells #[.int .i64 tag] T' (0, 0))) (b1 : i64 lo) (b2 : i64 many) (b3 : i64 tag) (b4 : i64 born) :
    ReqsAt S w (.slice (some ⟨g, 0, none⟩) 1 1) [⟨wb, lo, many, [], [tag], born⟩] := by
  refine ⟨[⟨⟨wb, lo, many, [], [tag], born⟩, .slice none 0 0, .slice (some ⟨g0, 0, none⟩) 1 1⟩], rfl, ⟨some ⟨g, 0, none⟩, 1, rfl, Nat.le_refl _, by simp [maxLen], rfl, fun _ => ⟨g, 0, rfl, hS _, fun j u hj => ?_⟩⟩, ?_⟩
  · rw [cell_of_row _ _ _ _ _ _ h1]
    simpa [Rc.cells] using hj
  · intro c hc
    simp at hc
    subst hc
    exact ⟨⟨Rd.nil, by simp⟩, ⟨⟨some ⟨g0, 0, none⟩, 1, rfl, Nat.le_refl _, by simp [maxLen], rfl, fun _ => ⟨g0, 0, rfl, hS _, fun j u hj => by rw [cell_of_row _ _ _ _ _ _ h0]; simpa using hj⟩⟩, by intro x hx; simp at hx; subst hx; exact b3⟩, b1, b2, b4⟩

abbrev oneR : Rq := ⟨false, 3, 1, [], [1], 0⟩
theorem one_good : goodReqs [oneR] = true := by decide
theorem one_next : nextV [oneR] ⟨false, 0, 0, 0⟩ 0 = .tuple #[.int .i64 0, tnV ⟨false, 1, 0, 4⟩] := by
  have : nextM [oneR] ⟨false, 0, 0, 0⟩ 0 = (0, ⟨false, 1, 0, 4⟩) := by decide
  unfold nextV; rw [this]

set_option maxRecDepth 100000 in
theorem turns_any (w : World) : Calls Try.prog 22 #[] w (Ret (.bool true) w) := by
  go_enter Try.func22, Try.ntmps22
  go_wp2_with fail
  refine (next_any' (fun _ => True) [oneR] _ ⟨false, 0, 0, 0⟩ 0 _ (reqs_one (fun _ => trivial) (heap_alloc2_new _ _ _) (heap_alloc2_old _ _ _) (by unfold i64; omega) (by unfold i64; omega) (by unfold i64; omega) (by unfold i64; omega)) one_good (by simp) (by unfold i64; simp) (by omega) (by omega)).mono ?_
  rintro e w1 ⟨rfl, hb1⟩
  rw [one_next]
  go_wp2
  go_ret
  refine ⟨rfl, ?_⟩
  have hb := (((Below.refl w.heap.size w).alloc (Nat.le_refl _) (Obj.cells #[Value.int IntKind.i64 1] 3)).alloc (by simp) _).trans (hb1.mono (by simp; omega))
  repeat (first | (with_reducible exact hb) | (with_reducible refine Below.drew ?_) | ((with_reducible refine Below.alloc ?_ ?hp _); case hp => exact hb.size) | ((with_reducible refine Below.setCell ?_ ?hp _); case hp => exact hb.size))

set_option maxRecDepth 100000 in
theorem went_any (w : World) : Calls Try.prog 47 #[] w (Ret (.bool true) w) := by
  go_enter Try.func47, Try.ntmps47
  go_wp2_with fail
  refine (next_any' (fun _ => True) [oneR] _ ⟨false, 0, 0, 0⟩ 0 _ (reqs_one (fun _ => trivial) (heap_alloc2_new _ _ _) (heap_alloc2_old _ _ _) (by unfold i64; omega) (by unfold i64; omega) (by unfold i64; omega) (by unfold i64; omega)) one_good (by simp) (by unfold i64; simp) (by omega) (by omega)).mono ?_
  rintro e w1 ⟨rfl, hb1⟩
  rw [one_next]
  go_wp2
  go_ret
  refine ⟨rfl, ?_⟩
  have hb := (((Below.refl w.heap.size w).alloc (Nat.le_refl _) (Obj.cells #[Value.int IntKind.i64 1] 3)).alloc (by simp) _).trans (hb1.mono (by simp; omega))
  repeat (first | (with_reducible exact hb) | (with_reducible refine Below.drew ?_) | ((with_reducible refine Below.alloc ?_ ?hp _); case hp => exact hb.size) | ((with_reducible refine Below.setCell ?_ ?hp _); case hp => exact hb.size))


/-- A turn lies in the call's own block. -/
structure TnBox (B : Nat) (w wr : World) (t : Tn) : Prop where
  below : Below B w wr
  lt : B < wr.heap.size
  b1 : wr.heap[B]? = some (.cells (tnCells t) 36 (0, 0))
theorem TnBox.c {B : Nat} {w wr : World} {t : Tn} (h : TnBox B w wr t) : wr.cell? ⟨B, 0, none⟩ = some (.bool t.write) ∧ wr.cell? ⟨B, 1, none⟩ = some (.int .i64 t.gone) ∧ wr.cell? ⟨B, 2, none⟩ = some (.int .i64 t.starved) ∧ wr.cell? ⟨B, 3, none⟩ = some (.int .i64 t.wh) :=
  ⟨cell_of_row _ _ 0 _ _ _ h.b1, cell_of_row _ _ 1 _ _ _ h.b1, cell_of_row _ _ 2 _ _ _ h.b1, cell_of_row _ _ 3 _ _ _ h.b1⟩
theorem TnBox.step {B : Nat} {w wr w' : World} {t : Tn} (h : TnBox B w wr t) (hb : Below wr.heap.size wr w') : TnBox B w w' t :=
  ⟨h.below.trans (hb.mono (by have := h.lt; omega)), by have := hb.size; have := h.lt; omega, (hb.block _ h.lt).trans h.b1⟩
theorem TnBox.start (w : World) (t : Tn) : TnBox w.heap.size w (w.alloc (Obj.cells #[Value.bool t.write, Value.int IntKind.i64 t.gone, Value.int IntKind.i64 t.starved, Value.int IntKind.i64 t.wh] 36)) t :=
  ⟨(Below.refl _ _).alloc (Nat.le_refl _) _, by simp, heap_alloc_new _ _⟩

set_option maxRecDepth 100000 in
set_option maxHeartbeats 4000000 in
theorem elevsays_walk (S : Nat → Prop) (l : List Rq) (v : Value) (t : Tn) (now : Int) (w : World) (h : ReqsAt S w v l) (hst : i64 t.starved) :
    Calls Try.prog 6 #[v, tnV t, .int .i64 now] w (Ret (.bool true) w) := by
  have H := Lib.hid h
  obtain ⟨A, cap, rfl, h1, h2⟩ := h.form
  unfold maxLen at h2
  clear h
  by_cases g : lightReqs l = true ∧ goodReqs l = true ∧ l ≠ [] ∧ 0 ≤ now ∧ now ≤ 1000000000
  · obtain ⟨g1, g2, g3, g4, g5⟩ := g
    have hlen : ((l.length : Int) == 0) = false := by have := List.length_pos_iff.2 g3; simp; exact g3
    have G2 := Lib.hid g2
    go_enter Try.func6, Try.ntmps6
    go_wp2_with fail
    have hT := TnBox.start w t
    generalize (w.alloc (Obj.cells #[Value.bool t.write, Value.int IntKind.i64 t.gone, Value.int IntKind.i64 t.starved, Value.int IntKind.i64 t.wh] 36)) = W at hT ⊢
    obtain ⟨c0, c1, c2, c3⟩ := hT.c
    go_wp2_with (first
      | (go_at_call 22; refine (turns_any _).mono ?_; rintro e w1 ⟨rfl, hb1⟩; have hT1 := hT.step hb1; clear c0 c1 c2 c3 hT hb1; have hT := hT1; clear hT1; obtain ⟨c0, c1, c2, c3⟩ := hT.c)
      | (go_at_call 23; refine (lightreqs_any S l _ _ (H.out.below hT.below)).mono ?_; rintro e w1 ⟨rfl, hb1⟩; have hT1 := hT.step hb1; clear c0 c1 c2 c3 hT hb1; have hT := hT1; clear hT1; obtain ⟨c0, c1, c2, c3⟩ := hT.c)
      | (go_at_call 24; refine (goodreqs_any S l _ _ (H.out.below hT.below)).mono ?_; rintro e w1 ⟨rfl, hb1⟩; have hT1 := hT.step hb1; clear c0 c1 c2 c3 hT hb1; have hT := hT1; clear hT1; obtain ⟨c0, c1, c2, c3⟩ := hT.c))
    refine (next_any' S l _ t now _ (H.out.below hT.below) G2.out g3 hst g4 g5).mono ?_
    rintro e w1 ⟨rfl, hb1⟩
    have hT1 := hT.step hb1
    clear c0 c1 c2 c3 hT hb1
    have en : nextV l t now = .tuple #[.int .i64 (nextM l t now).1, tnV (nextM l t now).2] := rfl
    generalize nextM l t now = x at en
    obtain ⟨x1, xw, xg, xs, xh⟩ := x
    rw [en]
    have En := Lib.hid en
    clear en
    obtain ⟨c0, c1, c2, c3⟩ := hT1.c
    have hl1 := hT1.lt
    go_wp2_with fail
    have hb := hT1.below.alloc (Nat.le_of_lt hl1) (Obj.cells #[Value.bool xw, Value.int IntKind.i64 xg, Value.int IntKind.i64 xs, Value.int IntKind.i64 xh] 36)
    refine (rnext_any S l _ t now _ (H.out.below hb) G2.out g3 hst g4 g5).mono ?_
    rintro e w2 ⟨rfl, hb2⟩
    rw [En.out]
    have hk := (hb2.block w1.heap.size (by simp)).trans (heap_alloc_new _ _)
    have hz : w1.heap.size < w2.heap.size := by have := hb2.size; simp at this; omega
    have n0 := cell_of_row _ _ 0 _ _ _ hk
    have n1 := cell_of_row _ _ 1 _ _ _ hk
    have n2 := cell_of_row _ _ 2 _ _ _ hk
    have n3 := cell_of_row _ _ 3 _ _ _ hk
    simp at n0 n1 n2 n3
    have HB := Lib.hid (hb.trans (hb2.mono (by simp; omega)))
    clear hb hb2 hk c0 c1 c2 c3
    go_wp2_with fail
    go_ret
    exact ⟨rfl, HB.out.alloc HB.out.size _⟩
  · have PREV : True := trivial
    clear PREV
    by_cases g1 : lightReqs l = true
    · by_cases g2 : goodReqs l = true
      · by_cases g3 : l = []
        · have hlen0 : ((l.length : Int) == 0) = true := by rw [g3]; rfl
          clear g g3
          go_enter Try.func6, Try.ntmps6
          go_wp2_with fail
          have hT := TnBox.start w t
          generalize (w.alloc (Obj.cells #[Value.bool t.write, Value.int IntKind.i64 t.gone, Value.int IntKind.i64 t.starved, Value.int IntKind.i64 t.wh] 36)) = W at hT ⊢
          obtain ⟨c0, c1, c2, c3⟩ := hT.c
          go_wp2_with (first
            | (go_at_call 22; refine (turns_any _).mono ?_; rintro e w1 ⟨rfl, hb1⟩; have hT1 := hT.step hb1; clear c0 c1 c2 c3 hT hb1; have hT := hT1; clear hT1; obtain ⟨c0, c1, c2, c3⟩ := hT.c)
            | (go_at_call 23; refine (lightreqs_any S l _ _ (H.out.below hT.below)).mono ?_; rintro e w1 ⟨rfl, hb1⟩; have hT1 := hT.step hb1; clear c0 c1 c2 c3 hT hb1; have hT := hT1; clear hT1; obtain ⟨c0, c1, c2, c3⟩ := hT.c)
            | (go_at_call 24; refine (goodreqs_any S l _ _ (H.out.below hT.below)).mono ?_; rintro e w1 ⟨rfl, hb1⟩; have hT1 := hT.step hb1; clear c0 c1 c2 c3 hT hb1; have hT := hT1; clear hT1; obtain ⟨c0, c1, c2, c3⟩ := hT.c))
          go_ret
          exact ⟨rfl, hT.below⟩
        · have hlen : ((l.length : Int) == 0) = false := by simp; exact g3
          by_cases g4 : now < 0
          · clear g
            go_enter Try.func6, Try.ntmps6
            go_wp2_with fail
            have hT := TnBox.start w t
            generalize (w.alloc (Obj.cells #[Value.bool t.write, Value.int IntKind.i64 t.gone, Value.int IntKind.i64 t.starved, Value.int IntKind.i64 t.wh] 36)) = W at hT ⊢
            obtain ⟨c0, c1, c2, c3⟩ := hT.c
            go_wp2_with (first
              | (go_at_call 22; refine (turns_any _).mono ?_; rintro e w1 ⟨rfl, hb1⟩; have hT1 := hT.step hb1; clear c0 c1 c2 c3 hT hb1; have hT := hT1; clear hT1; obtain ⟨c0, c1, c2, c3⟩ := hT.c)
              | (go_at_call 23; refine (lightreqs_any S l _ _ (H.out.below hT.below)).mono ?_; rintro e w1 ⟨rfl, hb1⟩; have hT1 := hT.step hb1; clear c0 c1 c2 c3 hT hb1; have hT := hT1; clear hT1; obtain ⟨c0, c1, c2, c3⟩ := hT.c)
              | (go_at_call 24; refine (goodreqs_any S l _ _ (H.out.below hT.below)).mono ?_; rintro e w1 ⟨rfl, hb1⟩; have hT1 := hT.step hb1; clear c0 c1 c2 c3 hT hb1; have hT := hT1; clear hT1; obtain ⟨c0, c1, c2, c3⟩ := hT.c))
            go_ret
            exact ⟨rfl, hT.below⟩
          · have g5 : 1000000000 < now := by
              rcases Int.lt_or_le 1000000000 now with h | h
              · exact h
              · exact absurd ⟨g1, g2, g3, by omega, h⟩ g
            clear g
            go_enter Try.func6, Try.ntmps6
            go_wp2_with fail
            have hT := TnBox.start w t
            generalize (w.alloc (Obj.cells #[Value.bool t.write, Value.int IntKind.i64 t.gone, Value.int IntKind.i64 t.starved, Value.int IntKind.i64 t.wh] 36)) = W at hT ⊢
            obtain ⟨c0, c1, c2, c3⟩ := hT.c
            go_wp2_with (first
              | (go_at_call 22; refine (turns_any _).mono ?_; rintro e w1 ⟨rfl, hb1⟩; have hT1 := hT.step hb1; clear c0 c1 c2 c3 hT hb1; have hT := hT1; clear hT1; obtain ⟨c0, c1, c2, c3⟩ := hT.c)
              | (go_at_call 23; refine (lightreqs_any S l _ _ (H.out.below hT.below)).mono ?_; rintro e w1 ⟨rfl, hb1⟩; have hT1 := hT.step hb1; clear c0 c1 c2 c3 hT hb1; have hT := hT1; clear hT1; obtain ⟨c0, c1, c2, c3⟩ := hT.c)
              | (go_at_call 24; refine (goodreqs_any S l _ _ (H.out.below hT.below)).mono ?_; rintro e w1 ⟨rfl, hb1⟩; have hT1 := hT.step hb1; clear c0 c1 c2 c3 hT hb1; have hT := hT1; clear hT1; obtain ⟨c0, c1, c2, c3⟩ := hT.c))
            go_ret
            exact ⟨rfl, hT.below⟩
      · have g2' : goodReqs l = false := by simpa using g2
        clear g
        go_enter Try.func6, Try.ntmps6
        go_wp2_with fail
        have hT := TnBox.start w t
        generalize (w.alloc (Obj.cells #[Value.bool t.write, Value.int IntKind.i64 t.gone, Value.int IntKind.i64 t.starved, Value.int IntKind.i64 t.wh] 36)) = W at hT ⊢
        obtain ⟨c0, c1, c2, c3⟩ := hT.c
        go_wp2_with (first
          | (go_at_call 22; refine (turns_any _).mono ?_; rintro e w1 ⟨rfl, hb1⟩; have hT1 := hT.step hb1; clear c0 c1 c2 c3 hT hb1; have hT := hT1; clear hT1; obtain ⟨c0, c1, c2, c3⟩ := hT.c)
          | (go_at_call 23; refine (lightreqs_any S l _ _ (H.out.below hT.below)).mono ?_; rintro e w1 ⟨rfl, hb1⟩; have hT1 := hT.step hb1; clear c0 c1 c2 c3 hT hb1; have hT := hT1; clear hT1; obtain ⟨c0, c1, c2, c3⟩ := hT.c)
          | (go_at_call 24; refine (goodreqs_any S l _ _ (H.out.below hT.below)).mono ?_; rintro e w1 ⟨rfl, hb1⟩; have hT1 := hT.step hb1; clear c0 c1 c2 c3 hT hb1; have hT := hT1; clear hT1; obtain ⟨c0, c1, c2, c3⟩ := hT.c))
        go_ret
        exact ⟨rfl, hT.below⟩
    · have g1' : lightReqs l = false := by simpa using g1
      clear g
      go_enter Try.func6, Try.ntmps6
      go_wp2_with fail
      have hT := TnBox.start w t
      generalize (w.alloc (Obj.cells #[Value.bool t.write, Value.int IntKind.i64 t.gone, Value.int IntKind.i64 t.starved, Value.int IntKind.i64 t.wh] 36)) = W at hT ⊢
      obtain ⟨c0, c1, c2, c3⟩ := hT.c
      go_wp2_with (first
        | (go_at_call 22; refine (turns_any _).mono ?_; rintro e w1 ⟨rfl, hb1⟩; have hT1 := hT.step hb1; clear c0 c1 c2 c3 hT hb1; have hT := hT1; clear hT1; obtain ⟨c0, c1, c2, c3⟩ := hT.c)
        | (go_at_call 23; refine (lightreqs_any S l _ _ (H.out.below hT.below)).mono ?_; rintro e w1 ⟨rfl, hb1⟩; have hT1 := hT.step hb1; clear c0 c1 c2 c3 hT hb1; have hT := hT1; clear hT1; obtain ⟨c0, c1, c2, c3⟩ := hT.c)
        | (go_at_call 24; refine (goodreqs_any S l _ _ (H.out.below hT.below)).mono ?_; rintro e w1 ⟨rfl, hb1⟩; have hT1 := hT.step hb1; clear c0 c1 c2 c3 hT hb1; have hT := hT1; clear hT1; obtain ⟨c0, c1, c2, c3⟩ := hT.c))
      go_ret
      exact ⟨rfl, hT.below⟩
end Go.Proofs.Ytfklcfpkbnddfaa
