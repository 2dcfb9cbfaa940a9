/- Oldest, From: which of those that wait. ReqFault, Check: what is wrong with a request. elevator.expired, elevator.turned. The model: which one is next. -/
import Derived.Test.YtinknleckppciaaGreatDoorR7
import Derived.Outline
import Derived.Test.YtinknleckppciaaGreatDoorR5
namespace Go.Proofs.YtinknleckppciaaGreatDoor
open Go.RowKit
theorem drewN_below (B : Nat) (w : World) (n : Nat) : Below B w (w.drewN n) := ⟨rfl, rfl, rfl, Nat.le_refl _, fun _ _ => rfl⟩

set_option maxRecDepth 100000 in
set_option maxHeartbeats 1600000 in
theorem oldest_any (S : Nat → Prop) (l : List Rq) (v : Value) (wb : Bool) (w : World) (h : ReqsAt S w v l) :
    Calls Tryz.prog 74 #[v, .bool wb] w (Ret (.int .i64 (oldest l wb)) w) := by
  obtain ⟨A, cap, rfl, h1, h2⟩ := h.form
  unfold maxLen at h2
  have Hl := Lib.hid h
  clear h
  go_enter Tryz.func74, Tryz.ntmps74
  go_wp2
  go_loopw [5, 10] (fun b i wr => ∃ k : Nat, k ≤ l.length ∧ i = .int .i64 k ∧ b = .int .i64 (bestOf (fun r : Rq => r.write == wb) (fun r : Rq => r.born) l k) ∧ Below w.heap.size w wr) (fun _ i _ => l.length - (intOf i).toNat)
  case atStart => exact ⟨0, by omega, rfl, rfl, Below.refl _ _⟩
  case round =>
    obtain ⟨k, hk, rfl, rfl, hb⟩ := hrel
    have hrange := bestOf_range (fun r : Rq => r.write == wb) (fun r : Rq => r.born) l k
    by_cases hlt : k < l.length
    · have hkl : (k : Int) < (l.length : Int) := by omega
      have Hm := Lib.hid (Hl.out.below hb)
      obtain ⟨b, off, rfl, _, hbl, hc⟩ := Hm.out.at_ (by omega)
      have hx : l[k]? = some l[k] := List.getElem?_eq_getElem hlt
      obtain ⟨Ad, cd, At, ct, _, k0, k1, k2, k3, k4, k5⟩ := hc k _ hx
      have Hx := Lib.hid hx
      clear hx
      generalize l[k] = r at k0 k1 k2 k3 k4 k5 Hx
      have Hc := Lib.hid hc
      clear hc
      cases hw : (r.write == wb) with
      | false =>
        go_wp2_with fail
        go_quiet (fail)
        go_wp2
        go_roundw
        case rel => exact ⟨k + 1, by omega, by go_num, by rw [bestOf_no Hx.out (by simp [hw])], by first | exact hb | exact ((hb.alloc hb.size _).trans (drewN_below _ _ _)) | exact (hb.alloc hb.size _)⟩
        case measure => simp [intOf]; omega
      | true =>
        by_cases hneg : bestOf (fun r : Rq => r.write == wb) (fun r : Rq => r.born) l k < 0
        · have hm1 : bestOf (fun r : Rq => r.write == wb) (fun r : Rq => r.born) l k = -1 := by omega
          have Hm1 := Lib.hid hm1
          rw [hm1]
          clear hm1 hrange hneg
          go_wp2_with fail
          go_quiet (fail)
          go_wp2
          go_roundw
          case rel => exact ⟨k + 1, by omega, by go_num, by rw [bestOf_first Hx.out (by simp [hw]) (by rw [Hm1.out]; omega)], by first | exact hb | exact ((hb.alloc hb.size _).trans (drewN_below _ _ _)) | exact (hb.alloc hb.size _)⟩
          case measure => simp [intOf]; omega
        · obtain ⟨j, hj⟩ : ∃ j : Nat, bestOf (fun r : Rq => r.write == wb) (fun r : Rq => r.born) l k = j := ⟨(bestOf (fun r : Rq => r.write == wb) (fun r : Rq => r.born) l k).toNat, by omega⟩
          have Hj := Lib.hid hj
          rw [hj]
          have hjk : j < k := by omega
          have hjl : (j : Int) < (l.length : Int) := by omega
          have hj0 : ¬ (j : Int) < 0 := by omega
          clear hj hrange hneg
          have hxj : l[j]? = some l[j] := List.getElem?_eq_getElem (by omega)
          obtain ⟨_, _, _, _, _, j0, j1, j2, _, _, j5⟩ := Hc.out j _ hxj
          have Hxj := Lib.hid hxj
          clear hxj
          generalize l[j] = r2 at j0 j1 j2 j5 Hxj
          by_cases hless : r.born < r2.born
          · skip
            go_wp2_with fail
            go_quiet (fail)
            go_wp2
            go_roundw
            case rel => exact ⟨k + 1, by omega, by go_num, by rw [bestOf_less Hx.out (by simp [hw]) Hj.out Hxj.out hless], by first | exact hb | exact ((hb.alloc hb.size _).trans (drewN_below _ _ _)) | exact (hb.alloc hb.size _)⟩
            case measure => simp [intOf]; omega
          · skip
            go_wp2_with fail
            go_quiet (fail)
            go_wp2
            go_roundw
            case rel => exact ⟨k + 1, by omega, by go_num, by rw [bestOf_more Hx.out Hj.out Hxj.out (by omega)], by first | exact hb | exact ((hb.alloc hb.size _).trans (drewN_below _ _ _)) | exact (hb.alloc hb.size _)⟩
            case measure => simp [intOf]; omega
    · obtain rfl : k = l.length := by omega
      go_wp2
      go_ret
      exact ⟨rfl, hb⟩

set_option maxRecDepth 100000 in
set_option maxHeartbeats 1600000 in
theorem from_any (S : Nat → Prop) (l : List Rq) (v : Value) (wb : Bool) (at_ : Int) (w : World) (h : ReqsAt S w v l) :
    Calls Tryz.prog 72 #[v, .bool wb, .int .i64 at_] w (Ret (.int .i64 (fromI l wb at_)) w) := by
  obtain ⟨A, cap, rfl, h1, h2⟩ := h.form
  unfold maxLen at h2
  have Hl := Lib.hid h
  clear h
  go_enter Tryz.func72, Tryz.ntmps72
  go_wp2
  go_loopw [7, 12] (fun b i wr => ∃ k : Nat, k ≤ l.length ∧ i = .int .i64 k ∧ b = .int .i64 (bestOf (fun r : Rq => r.write == wb && decide (at_ ≤ r.lo)) (fun r : Rq => r.lo) l k) ∧ Below w.heap.size w wr) (fun _ i _ => l.length - (intOf i).toNat)
  case atStart => exact ⟨0, by omega, rfl, rfl, Below.refl _ _⟩
  case round =>
    obtain ⟨k, hk, rfl, rfl, hb⟩ := hrel
    have hrange := bestOf_range (fun r : Rq => r.write == wb && decide (at_ ≤ r.lo)) (fun r : Rq => r.lo) l k
    by_cases hlt : k < l.length
    · have hkl : (k : Int) < (l.length : Int) := by omega
      have Hm := Lib.hid (Hl.out.below hb)
      obtain ⟨b, off, rfl, _, hbl, hc⟩ := Hm.out.at_ (by omega)
      have hx : l[k]? = some l[k] := List.getElem?_eq_getElem hlt
      obtain ⟨Ad, cd, At, ct, _, k0, k1, k2, k3, k4, k5⟩ := hc k _ hx
      have Hx := Lib.hid hx
      clear hx
      generalize l[k] = r at k0 k1 k2 k3 k4 k5 Hx
      have Hc := Lib.hid hc
      clear hc
      cases hw : (r.write == wb) with
      | false =>
        go_wp2_with fail
        go_quiet (fail)
        go_wp2
        go_roundw
        case rel => exact ⟨k + 1, by omega, by go_num, by rw [bestOf_no Hx.out (by simp [hw])], by first | exact hb | exact ((hb.alloc hb.size _).trans (drewN_below _ _ _)) | exact (hb.alloc hb.size _)⟩
        case measure => simp [intOf]; omega
      | true =>
        by_cases hat : at_ ≤ r.lo
        · skip
          by_cases hneg : bestOf (fun r : Rq => r.write == wb && decide (at_ ≤ r.lo)) (fun r : Rq => r.lo) l k < 0
          · have hm1 : bestOf (fun r : Rq => r.write == wb && decide (at_ ≤ r.lo)) (fun r : Rq => r.lo) l k = -1 := by omega
            have Hm1 := Lib.hid hm1
            rw [hm1]
            clear hm1 hrange hneg
            go_wp2_with fail
            go_quiet (fail)
            go_wp2
            go_roundw
            case rel => exact ⟨k + 1, by omega, by go_num, by rw [bestOf_first Hx.out (by simp [hw, hat]) (by rw [Hm1.out]; omega)], by first | exact hb | exact ((hb.alloc hb.size _).trans (drewN_below _ _ _)) | exact (hb.alloc hb.size _)⟩
            case measure => simp [intOf]; omega
          · obtain ⟨j, hj⟩ : ∃ j : Nat, bestOf (fun r : Rq => r.write == wb && decide (at_ ≤ r.lo)) (fun r : Rq => r.lo) l k = j := ⟨(bestOf (fun r : Rq => r.write == wb && decide (at_ ≤ r.lo)) (fun r : Rq => r.lo) l k).toNat, by omega⟩
            have Hj := Lib.hid hj
            rw [hj]
            have hjk : j < k := by omega
            have hjl : (j : Int) < (l.length : Int) := by omega
            have hj0 : ¬ (j : Int) < 0 := by omega
            clear hj hrange hneg
            have hxj : l[j]? = some l[j] := List.getElem?_eq_getElem (by omega)
            obtain ⟨_, _, _, _, _, j0, j1, j2, _, _, j5⟩ := Hc.out j _ hxj
            have Hxj := Lib.hid hxj
            clear hxj
            generalize l[j] = r2 at j0 j1 j2 j5 Hxj
            by_cases hless : r.lo < r2.lo
            · skip
              go_wp2_with fail
              go_quiet (fail)
              go_wp2
              go_roundw
              case rel => exact ⟨k + 1, by omega, by go_num, by rw [bestOf_less Hx.out (by simp [hw, hat]) Hj.out Hxj.out hless], by first | exact hb | exact ((hb.alloc hb.size _).trans (drewN_below _ _ _)) | exact (hb.alloc hb.size _)⟩
              case measure => simp [intOf]; omega
            · skip
              go_wp2_with fail
              go_quiet (fail)
              go_wp2
              go_roundw
              case rel => exact ⟨k + 1, by omega, by go_num, by rw [bestOf_more Hx.out Hj.out Hxj.out (by omega)], by first | exact hb | exact ((hb.alloc hb.size _).trans (drewN_below _ _ _)) | exact (hb.alloc hb.size _)⟩
              case measure => simp [intOf]; omega
        · have hd : decide (at_ ≤ r.lo) = false := by simp; omega
          go_wp2_with fail
          go_quiet (fail)
          go_wp2
          go_roundw
          case rel => exact ⟨k + 1, by omega, by go_num, by rw [bestOf_no Hx.out (by simp [hw]; omega)], by first | exact hb | exact ((hb.alloc hb.size _).trans (drewN_below _ _ _)) | exact (hb.alloc hb.size _)⟩
          case measure => simp [intOf]; omega
    · obtain rfl : k = l.length := by omega
      go_wp2
      go_ret
      exact ⟨rfl, hb⟩

end Go.Proofs.YtinknleckppciaaGreatDoor
namespace Go.Proofs.YtinknleckppciaaGreatDoor
open Go.RowKit

/-- The literal in request.Check: is a text too long? -/
theorem check1_any (s : ByteArray) (w : World) (hs : s.size ≤ 9223372036854775807) : Calls Tryz.prog 123 #[.string s] w (RetSame (.bool (decide (4 < s.size))) w) := by
  by_cases h : 4 < s.size
  all_goals
    go_enter Tryz.func123, Tryz.ntmps123
    go_wp2
    go_ret
    exact ⟨by simp [h]; try omega, rfl⟩

/-- It returns a number of which P holds, and the world is as it was. -/
def RetIdx (P : Int → Prop) (w : World) : Ending → World → Prop := fun e w' => ∃ n : Int, e = .returned (.int .i64 n) ∧ P n ∧ w = w'
def idxTells (n : Int) (b : Bool) : Prop := 0 ≤ n ↔ b = true
set_option maxRecDepth 100000 in
theorem index1_any (S : Nat → Prop) (l : List ByteArray) (v : Value) (w : World) (h : StrsAt S w v l) :
    Calls Tryz.prog 139 #[v, .func (.func 123) #[] #[]] w (RetIdx (fun n => idxTells n (!l.all (fun s => decide (s.size ≤ 4)))) w) := by
  obtain ⟨A, cap, rfl, h1, h2⟩ := h.form
  unfold maxLen at h2
  have Hl := Lib.hid h
  clear h
  go_enter Tryz.func139, Tryz.ntmps139
  go_wp2
  go_loop [8] (fun i => ∃ k : Nat, k ≤ l.length ∧ i = .int .i64 k ∧ Hid ((l.take k).all (fun s => decide (s.size ≤ 4)) = true)) (fun i => l.length - (intOf i).toNat)
  case atStart => exact ⟨0, by omega, rfl, rfl⟩
  case round =>
    obtain ⟨k, hk, rfl, hall⟩ := hrel
    by_cases hlt : k < l.length
    · obtain ⟨b, off, rfl, _, hb, hc⟩ := Hl.out.at_ (by omega)
      have hx : l[k]? = some l[k] := List.getElem?_eq_getElem hlt
      obtain ⟨hcell, hsz⟩ := hc k _ hx
      unfold maxLen at hsz
      clear hc
      have Hx := Lib.hid hx
      clear hx
      generalize l[k] = s at hcell hsz Hx
      cases hs : decide (4 < s.size) with
      | false =>
        go_wp2_with (go_at_call 123; refine (check1_any _ _ (by omega)).mono ?_; rintro e w1 ⟨rfl, rfl⟩)
        go_round
        case rel => exact ⟨k + 1, by omega, by go_num, by show _ = true; rw [all_take_succ _ _ _ _ Hx.out, hall.out]; simp at hs ⊢; omega⟩
        case measure => simp [intOf]; omega
      | true =>
        go_wp2_with (go_at_call 123; refine (check1_any _ _ (by omega)).mono ?_; rintro e w1 ⟨rfl, rfl⟩)
        go_ret
        refine ⟨k, rfl, ?_, rfl⟩
        rw [all_not _ _ _ _ Hx.out (by simp at hs ⊢; omega)]
        simp [idxTells]
    · go_wp2
      go_ret
      refine ⟨-1, rfl, ?_, rfl⟩
      rw [all_end _ _ _ (by omega) hall.out]
      simp [idxTells]

theorem contains1_any (S : Nat → Prop) (l : List ByteArray) (v : Value) (w : World) (h : StrsAt S w v l) :
    Calls Tryz.prog 122 #[v, .func (.func 123) #[] #[]] w (RetSame (.bool (!l.all (fun s => decide (s.size ≤ 4)))) w) := by
  go_enter Tryz.func122, Tryz.ntmps122
  go_wp2_with (go_at_call 139; refine (index1_any S l _ _ h).mono ?_; rintro e w1 ⟨n, rfl, hn, rfl⟩)
  go_ret
  refine ⟨?_, rfl⟩
  cases hb : (!l.all (fun s => decide (s.size ≤ 4))) with
  | true => rw [hb] at hn; have := hn.2 rfl; simp [this]
  | false => rw [hb] at hn; have : ¬ 0 ≤ n := fun h => by cases hn.1 h
             simp; omega

end Go.Proofs.YtinknleckppciaaGreatDoor
namespace Go.Proofs.YtinknleckppciaaGreatDoor
set_option linter.unusedSimpArgs false
set_option linter.unusedVariables false
open Go.RowKit Go.Sort

abbrev tnV (t : Tn) : Value := .agg #[.bool t.write, .int .i64 t.gone, .int .i64 t.starved, .int .i64 t.wh]
abbrev tnCells (t : Tn) : Array Value := #[.bool t.write, .int .i64 t.gone, .int .i64 t.starved, .int .i64 t.wh]

set_option maxRecDepth 100000 in
theorem expired_any (S : Nat → Prop) (r : Rq) (v : Value) (now : Int) (w : World) (h : ReqAt S w v r) (hn : 0 ≤ now) (hn2 : now ≤ 1000000000) (hb : bornOk r) :
    Calls Tryz.prog 75 #[v, .int .i64 now] w (Ret (.bool (expB r now)) w) := by
  obtain ⟨Ad, cd, At, ct, rfl, _, _, _, _, _, _, _⟩ := h.opened
  obtain ⟨b1, b2⟩ := hb
  have e : expB r now = decide ((if r.write then 8 else 4) ≤ now - r.born) := rfl
  cases hw : r.write with
  | true =>
    rw [hw] at e
    have e2 : expB r now = decide (8 ≤ now - r.born) := e
    rw [e2]
    clear e e2
    go_enter Tryz.func75, Tryz.ntmps75
    go_wp2
    go_ret
    exact ⟨rfl, (Below.refl _ _).alloc (Nat.le_refl _) _⟩
  | false =>
    rw [hw] at e
    have e2 : expB r now = decide (4 ≤ now - r.born) := e
    rw [e2]
    clear e e2
    go_enter Tryz.func75, Tryz.ntmps75
    go_wp2
    go_ret
    exact ⟨rfl, (Below.refl _ _).alloc (Nat.le_refl _) _⟩

/-- Two blocks of the call's own, of four cells each. -/
structure Box2 (B : Nat) (w wr : World) (cs ds : Array Value) : Prop where
  below : Below B w wr
  lt : B + 1 < wr.heap.size
  b1 : wr.heap[B]? = some (.cells cs 68 (0, 0))
  b2 : wr.heap[B + 1]? = some (.cells ds 68 (0, 0))
theorem Box2.c {B : Nat} {w wr : World} {cs ds : Array Value} (h : Box2 B w wr cs ds) (i : Nat) : wr.cell? ⟨B, i, none⟩ = cs[i]? := cell_of_row _ _ i _ _ _ h.b1
theorem Box2.d {B : Nat} {w wr : World} {cs ds : Array Value} (h : Box2 B w wr cs ds) (i : Nat) : wr.cell? ⟨B + 1, i, none⟩ = ds[i]? := cell_of_row _ _ i _ _ _ h.b2
theorem Box2.fc {B : Nat} {w wr : World} {cs ds : Array Value} (h : Box2 B w wr cs ds) (i : Nat) : wr.frozen? ⟨B, i, none⟩ = false := frozen_of_row _ _ i _ _ h.b1
theorem Box2.fd {B : Nat} {w wr : World} {cs ds : Array Value} (h : Box2 B w wr cs ds) (i : Nat) : wr.frozen? ⟨B + 1, i, none⟩ = false := frozen_of_row _ _ i _ _ h.b2
theorem Box2.step {B : Nat} {w wr w' : World} {cs ds : Array Value} (h : Box2 B w wr cs ds) (hb : Below wr.heap.size wr w') : Box2 B w w' cs ds :=
  ⟨h.below.trans (hb.mono (by have := h.lt; omega)), by have := hb.size; have := h.lt; omega, (hb.block _ (by have := h.lt; omega)).trans h.b1, (hb.block _ h.lt).trans h.b2⟩
theorem Box2.set {B : Nat} {w wr : World} {cs ds : Array Value} (h : Box2 B w wr cs ds) (i : Nat) (v : Value) : Box2 B w (wr.setCell ⟨B, i, none⟩ v) (cs.setIfInBounds i v) ds :=
  ⟨h.below.setCell (Nat.le_refl _) _, by simpa using h.lt, by rw [heap_setCell_same _ _ _ _ _ _ h.b1], by rw [heap_setCell_other _ _ _ _ (by simp)]; exact h.b2⟩

set_option maxRecDepth 100000 in
set_option maxHeartbeats 2000000 in
theorem turned_any (S : Nat → Prop) (l : List Rq) (v : Value) (t : Tn) (w : World) (h : ReqsAt S w v l) (hs : i64 t.starved) (hne : 0 ≤ oldest l false ∨ 0 ≤ oldest l true) :
    Calls Tryz.prog 73 #[v, tnV t] w (Ret (tnV (turnedM l t)) w) := by
  have H := Lib.hid h
  obtain ⟨A, cap, rfl, h1, h2⟩ := h.form
  clear h
  obtain ⟨s1, s2⟩ := hs
  have e : turnedM l t = if 0 ≤ oldest l false ∧ ¬ 0 ≤ oldest l true then { t with gone := 0, write := false }
    else if 0 ≤ oldest l true ∧ (¬ 0 ≤ oldest l false ∨ 2 ≤ t.starved) then { t with gone := 0, write := true, starved := 0 }
    else { t with gone := 0, write := false, starved := t.starved + 1 } := rfl
  generalize turnedM l t = t' at e ⊢
  by_cases q1 : 0 ≤ oldest l false
  · by_cases q2 : 0 ≤ oldest l true
    · by_cases q3 : 2 ≤ t.starved
      · rw [if_neg (by simp [q2]), if_pos ⟨q2, .inr q3⟩] at e
        subst e
        go_enter Tryz.func73, Tryz.ntmps73
        go_wp2_with fail
        have hT : Box2 w.heap.size w ((w.alloc (Obj.cells #[Value.bool t.write, Value.int IntKind.i64 t.gone, Value.int IntKind.i64 t.starved, Value.int IntKind.i64 t.wh] 68)).alloc
            (Obj.cells #[Value.bool false, Value.int IntKind.i64 0, Value.int IntKind.i64 0, Value.int IntKind.i64 0] 68)) (tnCells t) #[.bool false, .int .i64 0, .int .i64 0, .int .i64 0] :=
          ⟨((Below.refl _ _).alloc (Nat.le_refl _) _).alloc (by simp) _, by simp, heap_alloc2_old _ _ _, heap_alloc2_new _ _ _⟩
        generalize ((w.alloc (Obj.cells #[Value.bool t.write, Value.int IntKind.i64 t.gone, Value.int IntKind.i64 t.starved, Value.int IntKind.i64 t.wh] 68)).alloc
            (Obj.cells #[Value.bool false, Value.int IntKind.i64 0, Value.int IntKind.i64 0, Value.int IntKind.i64 0] 68)) = W at hT ⊢
        refine (oldest_any S l _ false _ (H.out.below (hT.below))).mono ?_
        rintro e w1 ⟨rfl, hb1⟩
        have hT1 := hT.step hb1
        clear hT hb1
        go_wp2_with fail
        refine (oldest_any S l _ true _ (H.out.below (hT1.below))).mono ?_
        rintro e w2 ⟨rfl, hb2⟩
        have hT2 := hT1.step hb2
        clear hT1 hb2
        have c0 := hT2.c 0
        have c1 := hT2.c 1
        have c2 := hT2.c 2
        have c3 := hT2.c 3
        have f0 := hT2.fc 0
        have f1 := hT2.fc 1
        have f2 := hT2.fc 2
        have d0 := hT2.d 0
        have d1 := hT2.d 1
        have d2 := hT2.d 2
        have d3 := hT2.d 3
        have e0 := hT2.fd 0
        have e1 := hT2.fd 1
        have e2 := hT2.fd 2
        have e3 := hT2.fd 3
        simp [tnCells] at c0 c1 c2 c3 d0 d1 d2 d3
        go_wp2_with fail
        refine bodyPost_ret (v := tnV _) (by simp [results, Tryz.results73, go_sem, d0, d1, d2, d3, e0, e1, e2, e3, c0, c1, c2, c3, f0, f1, f2]) rfl ⟨rfl, ?_⟩
        repeat ((with_reducible refine Below.setCell ?_ ?hp _); case hp => simp)
        exact hT2.below
      · rw [if_neg (by simp [q2]), if_neg (by simp [q1, q3])] at e
        subst e
        go_enter Tryz.func73, Tryz.ntmps73
        go_wp2_with fail
        have hT : Box2 w.heap.size w ((w.alloc (Obj.cells #[Value.bool t.write, Value.int IntKind.i64 t.gone, Value.int IntKind.i64 t.starved, Value.int IntKind.i64 t.wh] 68)).alloc
            (Obj.cells #[Value.bool false, Value.int IntKind.i64 0, Value.int IntKind.i64 0, Value.int IntKind.i64 0] 68)) (tnCells t) #[.bool false, .int .i64 0, .int .i64 0, .int .i64 0] :=
          ⟨((Below.refl _ _).alloc (Nat.le_refl _) _).alloc (by simp) _, by simp, heap_alloc2_old _ _ _, heap_alloc2_new _ _ _⟩
        generalize ((w.alloc (Obj.cells #[Value.bool t.write, Value.int IntKind.i64 t.gone, Value.int IntKind.i64 t.starved, Value.int IntKind.i64 t.wh] 68)).alloc
            (Obj.cells #[Value.bool false, Value.int IntKind.i64 0, Value.int IntKind.i64 0, Value.int IntKind.i64 0] 68)) = W at hT ⊢
        refine (oldest_any S l _ false _ (H.out.below (hT.below))).mono ?_
        rintro e w1 ⟨rfl, hb1⟩
        have hT1 := hT.step hb1
        clear hT hb1
        go_wp2_with fail
        refine (oldest_any S l _ true _ (H.out.below (hT1.below))).mono ?_
        rintro e w2 ⟨rfl, hb2⟩
        have hT2 := hT1.step hb2
        clear hT1 hb2
        have c0 := hT2.c 0
        have c1 := hT2.c 1
        have c2 := hT2.c 2
        have c3 := hT2.c 3
        have f0 := hT2.fc 0
        have f1 := hT2.fc 1
        have f2 := hT2.fc 2
        have d0 := hT2.d 0
        have d1 := hT2.d 1
        have d2 := hT2.d 2
        have d3 := hT2.d 3
        have e0 := hT2.fd 0
        have e1 := hT2.fd 1
        have e2 := hT2.fd 2
        have e3 := hT2.fd 3
        simp [tnCells] at c0 c1 c2 c3 d0 d1 d2 d3
        go_wp2_with fail
        refine bodyPost_ret (v := tnV _) (by simp [results, Tryz.results73, go_sem, d0, d1, d2, d3, e0, e1, e2, e3, c0, c1, c2, c3, f0, f1, f2]) rfl ⟨rfl, ?_⟩
        repeat ((with_reducible refine Below.setCell ?_ ?hp _); case hp => simp)
        exact hT2.below
    · have q2' : decide (0 ≤ oldest l true) = false := decide_eq_false q2
      rw [if_pos ⟨q1, q2⟩] at e
      subst e
      go_enter Tryz.func73, Tryz.ntmps73
      go_wp2_with fail
      have hT : Box2 w.heap.size w ((w.alloc (Obj.cells #[Value.bool t.write, Value.int IntKind.i64 t.gone, Value.int IntKind.i64 t.starved, Value.int IntKind.i64 t.wh] 68)).alloc
          (Obj.cells #[Value.bool false, Value.int IntKind.i64 0, Value.int IntKind.i64 0, Value.int IntKind.i64 0] 68)) (tnCells t) #[.bool false, .int .i64 0, .int .i64 0, .int .i64 0] :=
        ⟨((Below.refl _ _).alloc (Nat.le_refl _) _).alloc (by simp) _, by simp, heap_alloc2_old _ _ _, heap_alloc2_new _ _ _⟩
      generalize ((w.alloc (Obj.cells #[Value.bool t.write, Value.int IntKind.i64 t.gone, Value.int IntKind.i64 t.starved, Value.int IntKind.i64 t.wh] 68)).alloc
          (Obj.cells #[Value.bool false, Value.int IntKind.i64 0, Value.int IntKind.i64 0, Value.int IntKind.i64 0] 68)) = W at hT ⊢
      refine (oldest_any S l _ false _ (H.out.below (hT.below))).mono ?_
      rintro e w1 ⟨rfl, hb1⟩
      have hT1 := hT.step hb1
      clear hT hb1
      go_wp2_with fail
      refine (oldest_any S l _ true _ (H.out.below (hT1.below))).mono ?_
      rintro e w2 ⟨rfl, hb2⟩
      have hT2 := hT1.step hb2
      clear hT1 hb2
      have c0 := hT2.c 0
      have c1 := hT2.c 1
      have c2 := hT2.c 2
      have c3 := hT2.c 3
      have f0 := hT2.fc 0
      have f1 := hT2.fc 1
      have f2 := hT2.fc 2
      have d0 := hT2.d 0
      have d1 := hT2.d 1
      have d2 := hT2.d 2
      have d3 := hT2.d 3
      have e0 := hT2.fd 0
      have e1 := hT2.fd 1
      have e2 := hT2.fd 2
      have e3 := hT2.fd 3
      simp [tnCells] at c0 c1 c2 c3 d0 d1 d2 d3
      go_wp2_with fail
      refine bodyPost_ret (v := tnV _) (by simp [results, Tryz.results73, go_sem, d0, d1, d2, d3, e0, e1, e2, e3, c0, c1, c2, c3, f0, f1, f2]) rfl ⟨rfl, ?_⟩
      repeat ((with_reducible refine Below.setCell ?_ ?hp _); case hp => simp)
      exact hT2.below
  · have q1' : decide (0 ≤ oldest l false) = false := decide_eq_false q1
    have q2 := hne.resolve_left q1
    rw [if_neg (by simp [q1]), if_pos ⟨q2, .inl q1⟩] at e
    subst e
    go_enter Tryz.func73, Tryz.ntmps73
    go_wp2_with fail
    have hT : Box2 w.heap.size w ((w.alloc (Obj.cells #[Value.bool t.write, Value.int IntKind.i64 t.gone, Value.int IntKind.i64 t.starved, Value.int IntKind.i64 t.wh] 68)).alloc
        (Obj.cells #[Value.bool false, Value.int IntKind.i64 0, Value.int IntKind.i64 0, Value.int IntKind.i64 0] 68)) (tnCells t) #[.bool false, .int .i64 0, .int .i64 0, .int .i64 0] :=
      ⟨((Below.refl _ _).alloc (Nat.le_refl _) _).alloc (by simp) _, by simp, heap_alloc2_old _ _ _, heap_alloc2_new _ _ _⟩
    generalize ((w.alloc (Obj.cells #[Value.bool t.write, Value.int IntKind.i64 t.gone, Value.int IntKind.i64 t.starved, Value.int IntKind.i64 t.wh] 68)).alloc
        (Obj.cells #[Value.bool false, Value.int IntKind.i64 0, Value.int IntKind.i64 0, Value.int IntKind.i64 0] 68)) = W at hT ⊢
    refine (oldest_any S l _ false _ (H.out.below (hT.below))).mono ?_
    rintro e w1 ⟨rfl, hb1⟩
    have hT1 := hT.step hb1
    clear hT hb1
    go_wp2_with fail
    refine (oldest_any S l _ true _ (H.out.below (hT1.below))).mono ?_
    rintro e w2 ⟨rfl, hb2⟩
    have hT2 := hT1.step hb2
    clear hT1 hb2
    have c0 := hT2.c 0
    have c1 := hT2.c 1
    have c2 := hT2.c 2
    have c3 := hT2.c 3
    have f0 := hT2.fc 0
    have f1 := hT2.fc 1
    have f2 := hT2.fc 2
    have d0 := hT2.d 0
    have d1 := hT2.d 1
    have d2 := hT2.d 2
    have d3 := hT2.d 3
    have e0 := hT2.fd 0
    have e1 := hT2.fd 1
    have e2 := hT2.fd 2
    have e3 := hT2.fd 3
    simp [tnCells] at c0 c1 c2 c3 d0 d1 d2 d3
    go_wp2_with fail
    refine bodyPost_ret (v := tnV _) (by simp [results, Tryz.results73, go_sem, d0, d1, d2, d3, e0, e1, e2, e3, c0, c1, c2, c3, f0, f1, f2]) rfl ⟨rfl, ?_⟩
    repeat ((with_reducible refine Below.setCell ?_ ?hp _); case hp => simp)
    exact hT2.below
end Go.Proofs.YtinknleckppciaaGreatDoor
namespace Go.Proofs.YtinknleckppciaaGreatDoor
open Go.RowKit

theorem bestOf_ok {ok : Rq → Bool} {key : Rq → Int} {l : List Rq} : ∀ {k j : Nat}, bestOf ok key l k = j → ∃ r, l[j]? = some r ∧ ok r = true ∧ j < k
  | 0, j, h => by simp [bestOf] at h
  | k + 1, j, h => by
    rw [bestOf] at h
    split at h
    · obtain ⟨r, h1, h2, h3⟩ := bestOf_ok h; exact ⟨r, h1, h2, by omega⟩
    · rename_i r hr
      split at h
      · rename_i hc
        obtain rfl : k = j := by omega
        simp at hc
        exact ⟨r, hr, hc.1, by omega⟩
      · obtain ⟨r, h1, h2, h3⟩ := bestOf_ok h; exact ⟨r, h1, h2, by omega⟩
theorem bestOf_some {ok : Rq → Bool} {key : Rq → Int} {l : List Rq} {r : Rq} {j : Nat} (hj : l[j]? = some r) (ho : ok r = true) : ∀ {k : Nat}, j < k → 0 ≤ bestOf ok key l k
  | 0, h => by omega
  | k + 1, h => by
    by_cases hjk : j = k
    · subst hjk
      rw [bestOf, hj]
      simp only
      split
      · omega
      · rename_i hc
        simp [ho] at hc
        omega
    · have ih := bestOf_some (key := key) hj ho (show j < k by omega)
      rw [bestOf]
      split
      · exact ih
      · split
        · omega
        · exact ih

theorem oldest_ok {l : List Rq} {wb : Bool} (h : 0 ≤ oldest l wb) : ∃ (j : Nat) (r : Rq), oldest l wb = j ∧ l[j]? = some r ∧ r.write = wb ∧ j < l.length := by
  obtain ⟨j, hj⟩ := Int.eq_ofNat_of_zero_le h
  obtain ⟨r, h1, h2, h3⟩ := bestOf_ok hj
  exact ⟨j, r, hj, h1, by simpa using h2, h3⟩
theorem fromI_ok {l : List Rq} {wb : Bool} {a : Int} (h : 0 ≤ fromI l wb a) : ∃ (j : Nat) (r : Rq), fromI l wb a = j ∧ l[j]? = some r ∧ r.write = wb ∧ a ≤ r.lo ∧ j < l.length := by
  obtain ⟨j, hj⟩ := Int.eq_ofNat_of_zero_le h
  obtain ⟨r, h1, h2, h3⟩ := bestOf_ok hj
  simp at h2
  exact ⟨j, r, hj, h1, h2.1, h2.2, h3⟩
theorem oldest_some {l : List Rq} {wb : Bool} {r : Rq} {j : Nat} (hj : l[j]? = some r) (hw : r.write = wb) : 0 ≤ oldest l wb :=
  bestOf_some hj (by simp [hw]) (by rcases Nat.lt_or_ge j l.length with h | h; exact h; rw [List.getElem?_eq_none h] at hj; cases hj)
theorem fromI_some {l : List Rq} {wb : Bool} {r : Rq} {j : Nat} {a : Int} (hj : l[j]? = some r) (hw : r.write = wb) (ha : a ≤ r.lo) : 0 ≤ fromI l wb a :=
  bestOf_some hj (by simp [hw, ha]) (by rcases Nat.lt_or_ge j l.length with h | h; exact h; rw [List.getElem?_eq_none h] at hj; cases hj)
theorem kinds {l : List Rq} (h : l ≠ []) : 0 ≤ oldest l false ∨ 0 ≤ oldest l true := by
  cases l with
  | nil => exact absurd rfl h
  | cons r l =>
    cases hw : r.write with
    | false => left; exact oldest_some (j := 0) rfl hw
    | true => right; exact oldest_some (j := 0) rfl hw

def endOf (l : List Rq) (i : Int) : Int := (l.getD i.toNat default).lo + (l.getD i.toNat default).many
theorem endOf_at {l : List Rq} {j : Nat} {r : Rq} (h : l[j]? = some r) : endOf l j = r.lo + r.many := by
  unfold endOf; rw [Int.toNat_natCast, List.getD_eq_getElem?_getD, h]; rfl
def pickM (l : List Rq) (t : Tn) (now : Int) : Int :=
  if expB (l.getD (oldest l t.write).toNat default) now then oldest l t.write
  else if fromI l t.write t.wh < 0 then fromI l t.write 0 else fromI l t.write t.wh
/-- Which one goes, and whose turn it is then. -/
def nextM (l : List Rq) (t : Tn) (now : Int) : Int × Tn :=
  if 0 < t.gone ∧ t.gone < 3 ∧ 0 ≤ fromI l t.write t.wh then (fromI l t.write t.wh, { t with gone := t.gone + 1, wh := endOf l (fromI l t.write t.wh) })
  else (pickM l (turnedM l t) now, { turnedM l t with gone := 1, wh := endOf l (pickM l (turnedM l t) now) })
theorem nextM_on {l : List Rq} {t : Tn} {now : Int} (h1 : 0 < t.gone) (h2 : t.gone < 3) (h3 : 0 ≤ fromI l t.write t.wh) :
    nextM l t now = (fromI l t.write t.wh, { t with gone := t.gone + 1, wh := endOf l (fromI l t.write t.wh) }) := if_pos ⟨h1, h2, h3⟩
theorem nextM_new {l : List Rq} {t : Tn} {now : Int} (h : ¬ (0 < t.gone ∧ t.gone < 3 ∧ 0 ≤ fromI l t.write t.wh)) :
    nextM l t now = (pickM l (turnedM l t) now, { turnedM l t with gone := 1, wh := endOf l (pickM l (turnedM l t) now) }) := if_neg h
theorem turned_kind {l : List Rq} {t : Tn} (hne : l ≠ []) : 0 ≤ oldest l (turnedM l t).write := by
  have hk := kinds hne
  unfold turnedM
  by_cases h1 : 0 ≤ oldest l false
  · by_cases h2 : 0 ≤ oldest l true
    · rw [if_neg (by simp [h2])]
      split
      · exact h2
      · exact h1
    · rw [if_pos ⟨h1, h2⟩]; exact h1
  · have h2 := hk.resolve_left h1
    rw [if_neg (by simp [h1]), if_pos ⟨h2, .inl h1⟩]; exact h2
theorem turned_wh (l : List Rq) (t : Tn) : (turnedM l t).wh = t.wh := by
  unfold turnedM; split; rfl; split <;> rfl
end Go.Proofs.YtinknleckppciaaGreatDoor
