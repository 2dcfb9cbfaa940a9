/- elevator.expired, elevator.turned. -/
import Derived.Test.YtfklcfpkbnddfaaBest
import Derived.Test.YtfklcfpkbnddfaaCheck
import Derived.Outline
namespace Go.Proofs.Ytfklcfpkbnddfaa
set_option linter.unusedSimpArgs false
set_option linter.unusedVariables false
open Go.RowKit Go.Sort

abbrev tnV (t : Tn) : Value := .agg #[.bool t.write, .int .i64 t.gone, .int .i64 t.starved, .int .i64 t.wh]
abbrev tnCells (t : Tn) : Array Value := #[.bool t.write, .int .i64 t.gone, .int .i64 t.starved, .int .i64 t.wh]

set_option maxRecDepth 100000 in
theorem expired_any (S : Nat → Prop) (r : Rq) (v : Value) (now : Int) (w : World) (h : ReqAt S w v r) (hn : 0 ≤ now) (hn2 : now ≤ 1000000000) (hb : bornOk r) :
    Calls Try.prog 49 #[v, .int .i64 now] w (Ret (.bool (expB r now)) w) := by
  obtain ⟨Ad, cd, At, ct, rfl, _, _, _, _, _, _, _⟩ := h.opened
  obtain ⟨b1, b2⟩ := hb
  have e : expB r now = decide ((if r.write then 8 else 4) ≤ now - r.born) := rfl
  cases hw : r.write with
  | true =>
    rw [hw] at e
    have e2 : expB r now = decide (8 ≤ now - r.born) := e
    rw [e2]
    clear e e2
    go_enter Try.func49, Try.ntmps49
    go_wp2
    go_ret
    exact ⟨rfl, (Below.refl _ _).alloc (Nat.le_refl _) _⟩
  | false =>
    rw [hw] at e
    have e2 : expB r now = decide (4 ≤ now - r.born) := e
    rw [e2]
    clear e e2
    go_enter Try.func49, Try.ntmps49
    go_wp2
    go_ret
    exact ⟨rfl, (Below.refl _ _).alloc (Nat.le_refl _) _⟩

/-- Two blocks of the call's own, of four cells each. -/
structure Box2 (B : Nat) (w wr : World) (cs ds : Array Value) : Prop where
  below : Below B w wr
  lt : B + 1 < wr.heap.size
  b1 : wr.heap[B]? = some (.cells cs 36 (0, 0))
  b2 : wr.heap[B + 1]? = some (.cells ds 36 (0, 0))
theorem Box2.c {B : Nat} {w wr : World} {cs ds : Array Value} (h : Box2 B w wr cs ds) (i : Nat) : wr.cell? ⟨B, i, none⟩ = cs[i]? := cell_of_row _ _ i _ _ _ h.b1
theorem Box2.d {B : Nat} {w wr : World} {cs ds : Array Value} (h : Box2 B w wr cs ds) (i : Nat) : wr.cell? ⟨B + 1, i, none⟩ = ds[i]? := cell_of_row _ _ i _ _ _ h.b2
theorem Box2.fc {B : Nat} {w wr : World} {cs ds : Array Value} (h : Box2 B w wr cs ds) (i : Nat) : wr.frozen? ⟨B, i, none⟩ = false := frozen_of_row _ _ i _ _ h.b1
theorem Box2.fd {B : Nat} {w wr : World} {cs ds : Array Value} (h : Box2 B w wr cs ds) (i : Nat) : wr.frozen? ⟨B + 1, i, none⟩ = false := frozen_of_row _ _ i _ _ h.b2
theorem Box2.step {B : Nat} {w wr w' : World} {cs ds : Array Value} (h : Box2 B w wr cs ds) (hb : Below wr.heap.size wr w') : Box2 B w w' cs ds :=
  ⟨h.below.trans (hb.mono (by have := h.lt; omega)), by have := hb.size; have := h.lt; omega, (hb.block _ (by have := h.lt; omega)).trans h.b1, (hb.block _ h.lt).trans h.b2⟩
theorem Box2.set {B : Nat} {w wr : World} {cs ds : Array Value} (h : Box2 B w wr cs ds) (i : Nat) (v : Value) : Box2 B w (wr.setCell ⟨B, i, none⟩ v) (cs.setIfInBounds i v) ds :=
  ⟨h.below.setCell (Nat.le_refl _) _, by simpa using h.lt, by rw [heap_setCell_same _ _ _ _ _ _ h.b1], by rw [heap_setCell_other _ _ _ _ (by simp)]; exact h.b2⟩

set_option maxRecDepth 100000 in
set_option maxHeartbeats 2000000 in
theorem turned_any (S : Nat → Prop) (l : List Rq) (v : Value) (t : Tn) (w : World) (h : ReqsAt S w v l) (hs : i64 t.starved) (hne : 0 ≤ oldest l false ∨ 0 ≤ oldest l true) :
    Calls Try.prog 48 #[v, tnV t] w (Ret (tnV (turnedM l t)) w) := by
  have H := Lib.hid h
  obtain ⟨A, cap, rfl, h1, h2⟩ := h.form
  clear h
  obtain ⟨s1, s2⟩ := hs
  have e : turnedM l t = if 0 ≤ oldest l false ∧ ¬ 0 ≤ oldest l true then { t with gone := 0, write := false }
    else if 0 ≤ oldest l true ∧ (¬ 0 ≤ oldest l false ∨ 2 ≤ t.starved) then { t with gone := 0, write := true, starved := 0 }
    else { t with gone := 0, write := false, starved := t.starved + 1 } := rfl
  generalize turnedM l t = t' at e ⊢
  by_cases q1 : 0 ≤ oldest l false
  · by_cases q2 : 0 ≤ oldest l true
    · by_cases q3 : 2 ≤ t.starved
      · rw [if_neg (by simp [q2]), if_pos ⟨q2, .inr q3⟩] at e
        subst e
        go_enter Try.func48, Try.ntmps48
        go_wp2_with fail
        have hT : Box2 w.heap.size w ((w.alloc (Obj.cells #[Value.bool t.write, Value.int IntKind.i64 t.gone, Value.int IntKind.i64 t.starved, Value.int IntKind.i64 t.wh] 36)).alloc
            (Obj.cells #[Value.bool false, Value.int IntKind.i64 0, Value.int IntKind.i64 0, Value.int IntKind.i64 0] 36)) (tnCells t) #[.bool false, .int .i64 0, .int .i64 0, .int .i64 0] :=
          ⟨((Below.refl _ _).alloc (Nat.le_refl _) _).alloc (by simp) _, by simp, heap_alloc2_old _ _ _, heap_alloc2_new _ _ _⟩
        generalize ((w.alloc (Obj.cells #[Value.bool t.write, Value.int IntKind.i64 t.gone, Value.int IntKind.i64 t.starved, Value.int IntKind.i64 t.wh] 36)).alloc
            (Obj.cells #[Value.bool false, Value.int IntKind.i64 0, Value.int IntKind.i64 0, Value.int IntKind.i64 0] 36)) = W at hT ⊢
        refine (oldest_any S l _ false _ (H.out.below (hT.below))).mono ?_
        rintro e w1 ⟨rfl, hb1⟩
        have hT1 := hT.step hb1
        clear hT hb1
        go_wp2_with fail
        refine (oldest_any S l _ true _ (H.out.below (hT1.below))).mono ?_
        rintro e w2 ⟨rfl, hb2⟩
        have hT2 := hT1.step hb2
        clear hT1 hb2
        have c0 := hT2.c 0
        have c1 := hT2.c 1
        have c2 := hT2.c 2
        have c3 := hT2.c 3
        have f0 := hT2.fc 0
        have f1 := hT2.fc 1
        have f2 := hT2.fc 2
        have d0 := hT2.d 0
        have d1 := hT2.d 1
        have d2 := hT2.d 2
        have d3 := hT2.d 3
        have e0 := hT2.fd 0
        have e1 := hT2.fd 1
        have e2 := hT2.fd 2
        have e3 := hT2.fd 3
        simp [tnCells] at c0 c1 c2 c3 d0 d1 d2 d3
        go_wp2_with fail
        refine bodyPost_ret (v := tnV _) (by simp [results, Try.results48, go_sem, d0, d1, d2, d3, e0, e1, e2, e3, c0, c1, c2, c3, f0, f1, f2]) rfl ⟨rfl, ?_⟩
        repeat ((with_reducible refine Below.setCell ?_ ?hp _); case hp => simp)
        exact hT2.below
      · rw [if_neg (by simp [q2]), if_neg (by simp [q1, q3])] at e
        subst e
        go_enter Try.func48, Try.ntmps48
        go_wp2_with fail
        have hT : Box2 w.heap.size w ((w.alloc (Obj.cells #[Value.bool t.write, Value.int IntKind.i64 t.gone, Value.int IntKind.i64 t.starved, Value.int IntKind.i64 t.wh] 36)).alloc
            (Obj.cells #[Value.bool false, Value.int IntKind.i64 0, Value.int IntKind.i64 0, Value.int IntKind.i64 0] 36)) (tnCells t) #[.bool false, .int .i64 0, .int .i64 0, .int .i64 0] :=
          ⟨((Below.refl _ _).alloc (Nat.le_refl _) _).alloc (by simp) _, by simp, heap_alloc2_old _ _ _, heap_alloc2_new _ _ _⟩
        generalize ((w.alloc (Obj.cells #[Value.bool t.write, Value.int IntKind.i64 t.gone, Value.int IntKind.i64 t.starved, Value.int IntKind.i64 t.wh] 36)).alloc
            (Obj.cells #[Value.bool false, Value.int IntKind.i64 0, Value.int IntKind.i64 0, Value.int IntKind.i64 0] 36)) = W at hT ⊢
        refine (oldest_any S l _ false _ (H.out.below (hT.below))).mono ?_
        rintro e w1 ⟨rfl, hb1⟩
        have hT1 := hT.step hb1
        clear hT hb1
        go_wp2_with fail
        refine (oldest_any S l _ true _ (H.out.below (hT1.below))).mono ?_
        rintro e w2 ⟨rfl, hb2⟩
        have hT2 := hT1.step hb2
        clear hT1 hb2
        have c0 := hT2.c 0
        have c1 := hT2.c 1
        have c2 := hT2.c 2
        have c3 := hT2.c 3
        have f0 := hT2.fc 0
        have f1 := hT2.fc 1
        have f2 := hT2.fc 2
        have d0 := hT2.d 0
        have d1 := hT2.d 1
        have d2 := hT2.d 2
        have d3 := hT2.d 3
        have e0 := hT2.fd 0
        have e1 := hT2.fd 1
        have e2 := hT2.fd 2
        have e3 := hT2.fd 3
        simp [tnCells] at c0 c1 c2 c3 d0 d1 d2 d3
        go_wp2_with fail
        refine bodyPost_ret (v := tnV _) (by simp [results, Try.results48, go_sem, d0, d1, d2, d3, e0, e1, e2, e3, c0, c1, c2, c3, f0, f1, f2]) rfl ⟨rfl, ?_⟩
        repeat ((with_reducible refine Below.setCell ?_ ?hp _); case hp => simp)
        exact hT2.below
    · have q2' : decide (0 ≤ oldest l true) = false := decide_eq_false q2
      rw [if_pos ⟨q1, q2⟩] at e
      subst e
      go_enter Try.func48, Try.ntmps48
      go_wp2_with fail
      have hT : Box2 w.heap.size w ((w.alloc (Obj.cells #[Value.bool t.write, Value.int IntKind.i64 t.gone, Value.int IntKind.i64 t.starved, Value.int IntKind.i64 t.wh] 36)).alloc
          (Obj.cells #[Value.bool false, Value.int IntKind.i64 0, Value.int IntKind.i64 0, Value.int IntKind.i64 0] 36)) (tnCells t) #[.bool false, .int .i64 0, .int .i64 0, .int .i64 0] :=
        ⟨((Below.refl _ _).alloc (Nat.le_refl _) _).alloc (by simp) _, by simp, heap_alloc2_old _ _ _, heap_alloc2_new _ _ _⟩
      generalize ((w.alloc (Obj.cells #[Value.bool t.write, Value.int IntKind.i64 t.gone, Value.int IntKind.i64 t.starved, Value.int IntKind.i64 t.wh] 36)).alloc
          (Obj.cells #[Value.bool false, Value.int IntKind.i64 0, Value.int IntKind.i64 0, Value.int IntKind.i64 0] 36)) = W at hT ⊢
      refine (oldest_any S l _ false _ (H.out.below (hT.below))).mono ?_
      rintro e w1 ⟨rfl, hb1⟩
      have hT1 := hT.step hb1
      clear hT hb1
      go_wp2_with fail
      refine (oldest_any S l _ true _ (H.out.below (hT1.below))).mono ?_
      rintro e w2 ⟨rfl, hb2⟩
      have hT2 := hT1.step hb2
      clear hT1 hb2
      have c0 := hT2.c 0
      have c1 := hT2.c 1
      have c2 := hT2.c 2
      have c3 := hT2.c 3
      have f0 := hT2.fc 0
      have f1 := hT2.fc 1
      have f2 := hT2.fc 2
      have d0 := hT2.d 0
      have d1 := hT2.d 1
      have d2 := hT2.d 2
      have d3 := hT2.d 3
      have e0 := hT2.fd 0
      have e1 := hT2.fd 1
      have e2 := hT2.fd 2
      have e3 := hT2.fd 3
      simp [tnCells] at c0 c1 c2 c3 d0 d1 d2 d3
      go_wp2_with fail
      refine bodyPost_ret (v := tnV _) (by simp [results, Try.results48, go_sem, d0, d1, d2, d3, e0, e1, e2, e3, c0, c1, c2, c3, f0, f1, f2]) rfl ⟨rfl, ?_⟩
      repeat ((with_reducible refine Below.setCell ?_ ?hp _); case hp => simp)
      exact hT2.below
  · have q1' : decide (0 ≤ oldest l false) = false := decide_eq_false q1
    have q2 := hne.resolve_left q1
    rw [if_neg (by simp [q1]), if_pos ⟨q2, .inl q1⟩] at e
    subst e
    go_enter Try.func48, Try.ntmps48
    go_wp2_with fail
    have hT : Box2 w.heap.size w ((w.alloc (Obj.cells #[Value.bool t.write, Value.int IntKind.i64 t.gone, Value.int IntKind.i64 t.starved, Value.int IntKind.i64 t.wh] 36)).alloc
        (Obj.cells #[Value.bool false, Value.int IntKind.i64 0, Value.int IntKind.i64 0, Value.int IntKind.i64 0] 36)) (tnCells t) #[.bool false, .int .i64 0, .int .i64 0, .int .i64 0] :=
      ⟨((Below.refl _ _).alloc (Nat.le_refl _) _).alloc (by simp) _, by simp, heap_alloc2_old _ _ _, heap_alloc2_new _ _ _⟩
    generalize ((w.alloc (Obj.cells #[Value.bool t.write, Value.int IntKind.i64 t.gone, Value.int IntKind.i64 t.starved, Value.int IntKind.i64 t.wh] 36)).alloc
        (Obj.cells #[Value.bool false, Value.int IntKind.i64 0, Value.int IntKind.i64 0, Value.int IntKind.i64 0] 36)) = W at hT ⊢
    refine (oldest_any S l _ false _ (H.out.below (hT.below))).mono ?_
    rintro e w1 ⟨rfl, hb1⟩
    have hT1 := hT.step hb1
    clear hT hb1
    go_wp2_with fail
    refine (oldest_any S l _ true _ (H.out.below (hT1.below))).mono ?_
    rintro e w2 ⟨rfl, hb2⟩
    have hT2 := hT1.step hb2
    clear hT1 hb2
    have c0 := hT2.c 0
    have c1 := hT2.c 1
    have c2 := hT2.c 2
    have c3 := hT2.c 3
    have f0 := hT2.fc 0
    have f1 := hT2.fc 1
    have f2 := hT2.fc 2
    have d0 := hT2.d 0
    have d1 := hT2.d 1
    have d2 := hT2.d 2
    have d3 := hT2.d 3
    have e0 := hT2.fd 0
    have e1 := hT2.fd 1
    have e2 := hT2.fd 2
    have e3 := hT2.fd 3
    simp [tnCells] at c0 c1 c2 c3 d0 d1 d2 d3
    go_wp2_with fail
    refine bodyPost_ret (v := tnV _) (by simp [results, Try.results48, go_sem, d0, d1, d2, d3, e0, e1, e2, e3, c0, c1, c2, c3, f0, f1, f2]) rfl ⟨rfl, ?_⟩
    repeat ((with_reducible refine Below.setCell ?_ ?hp _); case hp => simp)
    exact hT2.below
end Go.Proofs.Ytfklcfpkbnddfaa
