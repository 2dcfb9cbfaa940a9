/- LightReq, LightReqs: not too much? Oldest, From: which of those that wait. ReqFault, Check: what is wrong with a request. elevator.expired, elevator.turned. The model: which one is next. elevator.Next: which one goes, and the turn as it is then. The reference's Next. The reference's Next, where a turn begins. The reference's Next, where a turn begins. The reference's Next answers as the program's. The reference's Meet: it goes over all sectors. GoodReqs: may each be, and have no two a sector in common? The law ElevatorSays: its walk. Plain facts: lists of requests that may wait, taken from and added to; what Next says. The law TopElevator: its walk. -/
import Derived.Test.YtojmnfelecnenaaQ1
import Derived.Outline
namespace Go.Proofs.Ytojmnfelecnenaa
open Go.RowKit

theorem all_take_succ {α : Type} (p : α → Bool) (l : List α) (k : Nat) (x : α) (h : l[k]? = some x) : (l.take (k + 1)).all p = ((l.take k).all p && p x) := by
  rw [List.take_add_one, h]; simp
theorem all_not {α : Type} (p : α → Bool) (l : List α) (k : Nat) (x : α) (h : l[k]? = some x) (hp : p x = false) : l.all p = false := by
  rw [List.all_eq_false]
  exact ⟨x, List.mem_of_getElem? h, by simp [hp]⟩
theorem all_end {α : Type} (p : α → Bool) (l : List α) (k : Nat) (hk : l.length ≤ k) (h : (l.take k).all p = true) : l.all p = true := by
  rwa [List.take_of_length_le hk] at h

end Go.Proofs.Ytojmnfelecnenaa
namespace Go.Proofs.Ytojmnfelecnenaa
open Go.RowKit
theorem drewN_below (B : Nat) (w : World) (n : Nat) : Below B w (w.drewN n) := ⟨rfl, rfl, rfl, Nat.le_refl _, fun _ _ => rfl⟩

set_option maxRecDepth 100000 in
set_option maxHeartbeats 1600000 in
theorem oldest_any (S : Nat → Prop) (l : List Rq) (v : Value) (wb : Bool) (w : World) (h : ReqsAt S w v l) :
    Calls Try.prog 76 #[v, .bool wb] w (Ret (.int .i64 (oldest l wb)) w) := by
  obtain ⟨A, cap, rfl, h1, h2⟩ := h.form
  unfold maxLen at h2
  have Hl := Lib.hid h
  clear h
  go_enter Try.func76, Try.ntmps76
  go_wp2
  go_loopw [5, 10] (fun b i wr => ∃ k : Nat, k ≤ l.length ∧ i = .int .i64 k ∧ b = .int .i64 (bestOf (fun r : Rq => r.write == wb) (fun r : Rq => r.born) l k) ∧ Below w.heap.size w wr) (fun _ i _ => l.length - (intOf i).toNat)
  case atStart => exact ⟨0, by omega, rfl, rfl, Below.refl _ _⟩
  case round =>
    obtain ⟨k, hk, rfl, rfl, hb⟩ := hrel
    have hrange := bestOf_range (fun r : Rq => r.write == wb) (fun r : Rq => r.born) l k
    by_cases hlt : k < l.length
    · have hkl : (k : Int) < (l.length : Int) := by omega
      have Hm := Lib.hid (Hl.out.below hb)
      obtain ⟨b, off, rfl, _, hbl, hc⟩ := Hm.out.at_ (by omega)
      have hx : l[k]? = some l[k] := List.getElem?_eq_getElem hlt
      obtain ⟨Ad, cd, At, ct, _, k0, k1, k2, k3, k4, k5⟩ := hc k _ hx
      have Hx := Lib.hid hx
      clear hx
      generalize l[k] = r at k0 k1 k2 k3 k4 k5 Hx
      have Hc := Lib.hid hc
      clear hc
      cases hw : (r.write == wb) with
      | false =>
        go_wp2_with fail
        go_quiet (fail)
        go_wp2
        go_roundw
        case rel => exact ⟨k + 1, by omega, by go_num, by rw [bestOf_no Hx.out (by simp [hw])], by first | exact hb | exact ((hb.alloc hb.size _).trans (drewN_below _ _ _)) | exact (hb.alloc hb.size _)⟩
        case measure => simp [intOf]; omega
      | true =>
        by_cases hneg : bestOf (fun r : Rq => r.write == wb) (fun r : Rq => r.born) l k < 0
        · have hm1 : bestOf (fun r : Rq => r.write == wb) (fun r : Rq => r.born) l k = -1 := by omega
          have Hm1 := Lib.hid hm1
          rw [hm1]
          clear hm1 hrange hneg
          go_wp2_with fail
          go_quiet (fail)
          go_wp2
          go_roundw
          case rel => exact ⟨k + 1, by omega, by go_num, by rw [bestOf_first Hx.out (by simp [hw]) (by rw [Hm1.out]; omega)], by first | exact hb | exact ((hb.alloc hb.size _).trans (drewN_below _ _ _)) | exact (hb.alloc hb.size _)⟩
          case measure => simp [intOf]; omega
        · obtain ⟨j, hj⟩ : ∃ j : Nat, bestOf (fun r : Rq => r.write == wb) (fun r : Rq => r.born) l k = j := ⟨(bestOf (fun r : Rq => r.write == wb) (fun r : Rq => r.born) l k).toNat, by omega⟩
          have Hj := Lib.hid hj
          rw [hj]
          have hjk : j < k := by omega
          have hjl : (j : Int) < (l.length : Int) := by omega
          have hj0 : ¬ (j : Int) < 0 := by omega
          clear hj hrange hneg
          have hxj : l[j]? = some l[j] := List.getElem?_eq_getElem (by omega)
          obtain ⟨_, _, _, _, _, j0, j1, j2, _, _, j5⟩ := Hc.out j _ hxj
          have Hxj := Lib.hid hxj
          clear hxj
          generalize l[j] = r2 at j0 j1 j2 j5 Hxj
          by_cases hless : r.born < r2.born
          · skip
            go_wp2_with fail
            go_quiet (fail)
            go_wp2
            go_roundw
            case rel => exact ⟨k + 1, by omega, by go_num, by rw [bestOf_less Hx.out (by simp [hw]) Hj.out Hxj.out hless], by first | exact hb | exact ((hb.alloc hb.size _).trans (drewN_below _ _ _)) | exact (hb.alloc hb.size _)⟩
            case measure => simp [intOf]; omega
          · skip
            go_wp2_with fail
            go_quiet (fail)
            go_wp2
            go_roundw
            case rel => exact ⟨k + 1, by omega, by go_num, by rw [bestOf_more Hx.out Hj.out Hxj.out (by omega)], by first | exact hb | exact ((hb.alloc hb.size _).trans (drewN_below _ _ _)) | exact (hb.alloc hb.size _)⟩
            case measure => simp [intOf]; omega
    · obtain rfl : k = l.length := by omega
      go_wp2
      go_ret
      exact ⟨rfl, hb⟩

set_option maxRecDepth 100000 in
set_option maxHeartbeats 1600000 in
theorem from_any (S : Nat → Prop) (l : List Rq) (v : Value) (wb : Bool) (at_ : Int) (w : World) (h : ReqsAt S w v l) :
    Calls Try.prog 74 #[v, .bool wb, .int .i64 at_] w (Ret (.int .i64 (fromI l wb at_)) w) := by
  obtain ⟨A, cap, rfl, h1, h2⟩ := h.form
  unfold maxLen at h2
  have Hl := Lib.hid h
  clear h
  go_enter Try.func74, Try.ntmps74
  go_wp2
  go_loopw [7, 12] (fun b i wr => ∃ k : Nat, k ≤ l.length ∧ i = .int .i64 k ∧ b = .int .i64 (bestOf (fun r : Rq => r.write == wb && decide (at_ ≤ r.lo)) (fun r : Rq => r.lo) l k) ∧ Below w.heap.size w wr) (fun _ i _ => l.length - (intOf i).toNat)
  case atStart => exact ⟨0, by omega, rfl, rfl, Below.refl _ _⟩
  case round =>
    obtain ⟨k, hk, rfl, rfl, hb⟩ := hrel
    have hrange := bestOf_range (fun r : Rq => r.write == wb && decide (at_ ≤ r.lo)) (fun r : Rq => r.lo) l k
    by_cases hlt : k < l.length
    · have hkl : (k : Int) < (l.length : Int) := by omega
      have Hm := Lib.hid (Hl.out.below hb)
      obtain ⟨b, off, rfl, _, hbl, hc⟩ := Hm.out.at_ (by omega)
      have hx : l[k]? = some l[k] := List.getElem?_eq_getElem hlt
      obtain ⟨Ad, cd, At, ct, _, k0, k1, k2, k3, k4, k5⟩ := hc k _ hx
      have Hx := Lib.hid hx
      clear hx
      generalize l[k] = r at k0 k1 k2 k3 k4 k5 Hx
      have Hc := Lib.hid hc
      clear hc
      cases hw : (r.write == wb) with
      | false =>
        go_wp2_with fail
        go_quiet (fail)
        go_wp2
        go_roundw
        case rel => exact ⟨k + 1, by omega, by go_num, by rw [bestOf_no Hx.out (by simp [hw])], by first | exact hb | exact ((hb.alloc hb.size _).trans (drewN_below _ _ _)) | exact (hb.alloc hb.size _)⟩
        case measure => simp [intOf]; omega
      | true =>
        by_cases hat : at_ ≤ r.lo
        · skip
          by_cases hneg : bestOf (fun r : Rq => r.write == wb && decide (at_ ≤ r.lo)) (fun r : Rq => r.lo) l k < 0
          · have hm1 : bestOf (fun r : Rq => r.write == wb && decide (at_ ≤ r.lo)) (fun r : Rq => r.lo) l k = -1 := by omega
            have Hm1 := Lib.hid hm1
            rw [hm1]
            clear hm1 hrange hneg
            go_wp2_with fail
            go_quiet (fail)
            go_wp2
            go_roundw
            case rel => exact ⟨k + 1, by omega, by go_num, by rw [bestOf_first Hx.out (by simp [hw, hat]) (by rw [Hm1.out]; omega)], by first | exact hb | exact ((hb.alloc hb.size _).trans (drewN_below _ _ _)) | exact (hb.alloc hb.size _)⟩
            case measure => simp [intOf]; omega
          · obtain ⟨j, hj⟩ : ∃ j : Nat, bestOf (fun r : Rq => r.write == wb && decide (at_ ≤ r.lo)) (fun r : Rq => r.lo) l k = j := ⟨(bestOf (fun r : Rq => r.write == wb && decide (at_ ≤ r.lo)) (fun r : Rq => r.lo) l k).toNat, by omega⟩
            have Hj := Lib.hid hj
            rw [hj]
            have hjk : j < k := by omega
            have hjl : (j : Int) < (l.length : Int) := by omega
            have hj0 : ¬ (j : Int) < 0 := by omega
            clear hj hrange hneg
            have hxj : l[j]? = some l[j] := List.getElem?_eq_getElem (by omega)
            obtain ⟨_, _, _, _, _, j0, j1, j2, _, _, j5⟩ := Hc.out j _ hxj
            have Hxj := Lib.hid hxj
            clear hxj
            generalize l[j] = r2 at j0 j1 j2 j5 Hxj
            by_cases hless : r.lo < r2.lo
            · skip
              go_wp2_with fail
              go_quiet (fail)
              go_wp2
              go_roundw
              case rel => exact ⟨k + 1, by omega, by go_num, by rw [bestOf_less Hx.out (by simp [hw, hat]) Hj.out Hxj.out hless], by first | exact hb | exact ((hb.alloc hb.size _).trans (drewN_below _ _ _)) | exact (hb.alloc hb.size _)⟩
              case measure => simp [intOf]; omega
            · skip
              go_wp2_with fail
              go_quiet (fail)
              go_wp2
              go_roundw
              case rel => exact ⟨k + 1, by omega, by go_num, by rw [bestOf_more Hx.out Hj.out Hxj.out (by omega)], by first | exact hb | exact ((hb.alloc hb.size _).trans (drewN_below _ _ _)) | exact (hb.alloc hb.size _)⟩
              case measure => simp [intOf]; omega
        · have hd : decide (at_ ≤ r.lo) = false := by simp; omega
          go_wp2_with fail
          go_quiet (fail)
          go_wp2
          go_roundw
          case rel => exact ⟨k + 1, by omega, by go_num, by rw [bestOf_no Hx.out (by simp [hw]; omega)], by first | exact hb | exact ((hb.alloc hb.size _).trans (drewN_below _ _ _)) | exact (hb.alloc hb.size _)⟩
          case measure => simp [intOf]; omega
    · obtain rfl : k = l.length := by omega
      go_wp2
      go_ret
      exact ⟨rfl, hb⟩

end Go.Proofs.Ytojmnfelecnenaa
namespace Go.Proofs.Ytojmnfelecnenaa
open Go.RowKit

/-- The literal in request.Check: is a text too long? -/
theorem check1_any (s : ByteArray) (w : World) (hs : s.size ≤ 9223372036854775807) : Calls Try.prog 104 #[.string s] w (RetSame (.bool (decide (4 < s.size))) w) := by
  by_cases h : 4 < s.size
  all_goals
    go_enter Try.func104, Try.ntmps104
    go_wp2
    go_ret
    exact ⟨by simp [h]; try omega, rfl⟩

/-- It returns a number of which P holds, and the world is as it was. -/
def RetIdx (P : Int → Prop) (w : World) : Ending → World → Prop := fun e w' => ∃ n : Int, e = .returned (.int .i64 n) ∧ P n ∧ w = w'
def idxTells (n : Int) (b : Bool) : Prop := 0 ≤ n ↔ b = true
set_option maxRecDepth 100000 in
theorem index1_any (S : Nat → Prop) (l : List ByteArray) (v : Value) (w : World) (h : StrsAt S w v l) :
    Calls Try.prog 110 #[v, .func (.func 104) #[] #[]] w (RetIdx (fun n => idxTells n (!l.all (fun s => decide (s.size ≤ 4)))) w) := by
  obtain ⟨A, cap, rfl, h1, h2⟩ := h.form
  unfold maxLen at h2
  have Hl := Lib.hid h
  clear h
  go_enter Try.func110, Try.ntmps110
  go_wp2
  go_loop [8] (fun i => ∃ k : Nat, k ≤ l.length ∧ i = .int .i64 k ∧ Hid ((l.take k).all (fun s => decide (s.size ≤ 4)) = true)) (fun i => l.length - (intOf i).toNat)
  case atStart => exact ⟨0, by omega, rfl, rfl⟩
  case round =>
    obtain ⟨k, hk, rfl, hall⟩ := hrel
    by_cases hlt : k < l.length
    · obtain ⟨b, off, rfl, _, hb, hc⟩ := Hl.out.at_ (by omega)
      have hx : l[k]? = some l[k] := List.getElem?_eq_getElem hlt
      obtain ⟨hcell, hsz⟩ := hc k _ hx
      unfold maxLen at hsz
      clear hc
      have Hx := Lib.hid hx
      clear hx
      generalize l[k] = s at hcell hsz Hx
      cases hs : decide (4 < s.size) with
      | false =>
        go_wp2_with (go_at_call 104; refine (check1_any _ _ (by omega)).mono ?_; rintro e w1 ⟨rfl, rfl⟩)
        go_round
        case rel => exact ⟨k + 1, by omega, by go_num, by show _ = true; rw [all_take_succ _ _ _ _ Hx.out, hall.out]; simp at hs ⊢; omega⟩
        case measure => simp [intOf]; omega
      | true =>
        go_wp2_with (go_at_call 104; refine (check1_any _ _ (by omega)).mono ?_; rintro e w1 ⟨rfl, rfl⟩)
        go_ret
        refine ⟨k, rfl, ?_, rfl⟩
        rw [all_not _ _ _ _ Hx.out (by simp at hs ⊢; omega)]
        simp [idxTells]
    · go_wp2
      go_ret
      refine ⟨-1, rfl, ?_, rfl⟩
      rw [all_end _ _ _ (by omega) hall.out]
      simp [idxTells]

theorem contains1_any (S : Nat → Prop) (l : List ByteArray) (v : Value) (w : World) (h : StrsAt S w v l) :
    Calls Try.prog 103 #[v, .func (.func 104) #[] #[]] w (RetSame (.bool (!l.all (fun s => decide (s.size ≤ 4)))) w) := by
  go_enter Try.func103, Try.ntmps103
  go_wp2_with (go_at_call 110; refine (index1_any S l _ _ h).mono ?_; rintro e w1 ⟨n, rfl, hn, rfl⟩)
  go_ret
  refine ⟨?_, rfl⟩
  cases hb : (!l.all (fun s => decide (s.size ≤ 4))) with
  | true => rw [hb] at hn; have := hn.2 rfl; simp [this]
  | false => rw [hb] at hn; have : ¬ 0 ≤ n := fun h => by cases hn.1 h
             simp; omega

end Go.Proofs.Ytojmnfelecnenaa
namespace Go.Proofs.Ytojmnfelecnenaa
set_option linter.unusedSimpArgs false
set_option linter.unusedVariables false
open Go.RowKit Go.Sort

abbrev tnV (t : Tn) : Value := .agg #[.bool t.write, .int .i64 t.gone, .int .i64 t.starved, .int .i64 t.wh]
abbrev tnCells (t : Tn) : Array Value := #[.bool t.write, .int .i64 t.gone, .int .i64 t.starved, .int .i64 t.wh]

set_option maxRecDepth 100000 in
theorem expired_any (S : Nat → Prop) (r : Rq) (v : Value) (now : Int) (w : World) (h : ReqAt S w v r) (hn : 0 ≤ now) (hn2 : now ≤ 1000000000) (hb : bornOk r) :
    Calls Try.prog 77 #[v, .int .i64 now] w (Ret (.bool (expB r now)) w) := by
  obtain ⟨Ad, cd, At, ct, rfl, _, _, _, _, _, _, _⟩ := h.opened
  obtain ⟨b1, b2⟩ := hb
  have e : expB r now = decide ((if r.write then 8 else 4) ≤ now - r.born) := rfl
  cases hw : r.write with
  | true =>
    rw [hw] at e
    have e2 : expB r now = decide (8 ≤ now - r.born) := e
    rw [e2]
    clear e e2
    go_enter Try.func77, Try.ntmps77
    go_wp2
    go_ret
    exact ⟨rfl, (Below.refl _ _).alloc (Nat.le_refl _) _⟩
  | false =>
    rw [hw] at e
    have e2 : expB r now = decide (4 ≤ now - r.born) := e
    rw [e2]
    clear e e2
    go_enter Try.func77, Try.ntmps77
    go_wp2
    go_ret
    exact ⟨rfl, (Below.refl _ _).alloc (Nat.le_refl _) _⟩

/-- Two blocks of the call's own, of four cells each. -/
structure Box2 (B : Nat) (w wr : World) (cs ds : Array Value) : Prop where
  below : Below B w wr
  lt : B + 1 < wr.heap.size
  b1 : wr.heap[B]? = some (.cells cs 74 (0, 0))
  b2 : wr.heap[B + 1]? = some (.cells ds 74 (0, 0))
theorem Box2.c {B : Nat} {w wr : World} {cs ds : Array Value} (h : Box2 B w wr cs ds) (i : Nat) : wr.cell? ⟨B, i, none⟩ = cs[i]? := cell_of_row _ _ i _ _ _ h.b1
theorem Box2.d {B : Nat} {w wr : World} {cs ds : Array Value} (h : Box2 B w wr cs ds) (i : Nat) : wr.cell? ⟨B + 1, i, none⟩ = ds[i]? := cell_of_row _ _ i _ _ _ h.b2
theorem Box2.fc {B : Nat} {w wr : World} {cs ds : Array Value} (h : Box2 B w wr cs ds) (i : Nat) : wr.frozen? ⟨B, i, none⟩ = false := frozen_of_row _ _ i _ _ h.b1
theorem Box2.fd {B : Nat} {w wr : World} {cs ds : Array Value} (h : Box2 B w wr cs ds) (i : Nat) : wr.frozen? ⟨B + 1, i, none⟩ = false := frozen_of_row _ _ i _ _ h.b2
theorem Box2.step {B : Nat} {w wr w' : World} {cs ds : Array Value} (h : Box2 B w wr cs ds) (hb : Below wr.heap.size wr w') : Box2 B w w' cs ds :=
  ⟨h.below.trans (hb.mono (by have := h.lt; omega)), by have := hb.size; have := h.lt; omega, (hb.block _ (by have := h.lt; omega)).trans h.b1, (hb.block _ h.lt).trans h.b2⟩
theorem Box2.set {B : Nat} {w wr : World} {cs ds : Array Value} (h : Box2 B w wr cs ds) (i : Nat) (v : Value) : Box2 B w (wr.setCell ⟨B, i, none⟩ v) (cs.setIfInBounds i v) ds :=
  ⟨h.below.setCell (Nat.le_refl _) _, by simpa using h.lt, by rw [heap_setCell_same _ _ _ _ _ _ h.b1], by rw [heap_setCell_other _ _ _ _ (by simp)]; exact h.b2⟩

set_option maxRecDepth 100000 in
set_option maxHeartbeats 2000000 in
theorem turned_any (S : Nat → Prop) (l : List Rq) (v : Value) (t : Tn) (w : World) (h : ReqsAt S w v l) (hs : i64 t.starved) (hne : 0 ≤ oldest l false ∨ 0 ≤ oldest l true) :
    Calls Try.prog 75 #[v, tnV t] w (Ret (tnV (turnedM l t)) w) := by
  have H := Lib.hid h
  obtain ⟨A, cap, rfl, h1, h2⟩ := h.form
  clear h
  obtain ⟨s1, s2⟩ := hs
  have e : turnedM l t = if 0 ≤ oldest l false ∧ ¬ 0 ≤ oldest l true then { t with gone := 0, write := false }
    else if 0 ≤ oldest l true ∧ (¬ 0 ≤ oldest l false ∨ 2 ≤ t.starved) then { t with gone := 0, write := true, starved := 0 }
    else { t with gone := 0, write := false, starved := t.starved + 1 } := rfl
  generalize turnedM l t = t' at e ⊢
  by_cases q1 : 0 ≤ oldest l false
  · by_cases q2 : 0 ≤ oldest l true
    · by_cases q3 : 2 ≤ t.starved
      · rw [if_neg (by simp [q2]), if_pos ⟨q2, .inr q3⟩] at e
        subst e
        go_enter Try.func75, Try.ntmps75
        go_wp2_with fail
        have hT : Box2 w.heap.size w ((w.alloc (Obj.cells #[Value.bool t.write, Value.int IntKind.i64 t.gone, Value.int IntKind.i64 t.starved, Value.int IntKind.i64 t.wh] 74)).alloc
            (Obj.cells #[Value.bool false, Value.int IntKind.i64 0, Value.int IntKind.i64 0, Value.int IntKind.i64 0] 74)) (tnCells t) #[.bool false, .int .i64 0, .int .i64 0, .int .i64 0] :=
          ⟨((Below.refl _ _).alloc (Nat.le_refl _) _).alloc (by simp) _, by simp, heap_alloc2_old _ _ _, heap_alloc2_new _ _ _⟩
        generalize ((w.alloc (Obj.cells #[Value.bool t.write, Value.int IntKind.i64 t.gone, Value.int IntKind.i64 t.starved, Value.int IntKind.i64 t.wh] 74)).alloc
            (Obj.cells #[Value.bool false, Value.int IntKind.i64 0, Value.int IntKind.i64 0, Value.int IntKind.i64 0] 74)) = W at hT ⊢
        refine (oldest_any S l _ false _ (H.out.below (hT.below))).mono ?_
        rintro e w1 ⟨rfl, hb1⟩
        have hT1 := hT.step hb1
        clear hT hb1
        go_wp2_with fail
        refine (oldest_any S l _ true _ (H.out.below (hT1.below))).mono ?_
        rintro e w2 ⟨rfl, hb2⟩
        have hT2 := hT1.step hb2
        clear hT1 hb2
        have c0 := hT2.c 0
        have c1 := hT2.c 1
        have c2 := hT2.c 2
        have c3 := hT2.c 3
        have f0 := hT2.fc 0
        have f1 := hT2.fc 1
        have f2 := hT2.fc 2
        have d0 := hT2.d 0
        have d1 := hT2.d 1
        have d2 := hT2.d 2
        have d3 := hT2.d 3
        have e0 := hT2.fd 0
        have e1 := hT2.fd 1
        have e2 := hT2.fd 2
        have e3 := hT2.fd 3
        simp [tnCells] at c0 c1 c2 c3 d0 d1 d2 d3
        go_wp2_with fail
        refine bodyPost_ret (v := tnV _) (by simp [results, Try.results75, go_sem, d0, d1, d2, d3, e0, e1, e2, e3, c0, c1, c2, c3, f0, f1, f2]) rfl ⟨rfl, ?_⟩
        repeat ((with_reducible refine Below.setCell ?_ ?hp _); case hp => simp)
        exact hT2.below
      · rw [if_neg (by simp [q2]), if_neg (by simp [q1, q3])] at e
        subst e
        go_enter Try.func75, Try.ntmps75
        go_wp2_with fail
        have hT : Box2 w.heap.size w ((w.alloc (Obj.cells #[Value.bool t.write, Value.int IntKind.i64 t.gone, Value.int IntKind.i64 t.starved, Value.int IntKind.i64 t.wh] 74)).alloc
            (Obj.cells #[Value.bool false, Value.int IntKind.i64 0, Value.int IntKind.i64 0, Value.int IntKind.i64 0] 74)) (tnCells t) #[.bool false, .int .i64 0, .int .i64 0, .int .i64 0] :=
          ⟨((Below.refl _ _).alloc (Nat.le_refl _) _).alloc (by simp) _, by simp, heap_alloc2_old _ _ _, heap_alloc2_new _ _ _⟩
        generalize ((w.alloc (Obj.cells #[Value.bool t.write, Value.int IntKind.i64 t.gone, Value.int IntKind.i64 t.starved, Value.int IntKind.i64 t.wh] 74)).alloc
            (Obj.cells #[Value.bool false, Value.int IntKind.i64 0, Value.int IntKind.i64 0, Value.int IntKind.i64 0] 74)) = W at hT ⊢
        refine (oldest_any S l _ false _ (H.out.below (hT.below))).mono ?_
        rintro e w1 ⟨rfl, hb1⟩
        have hT1 := hT.step hb1
        clear hT hb1
        go_wp2_with fail
        refine (oldest_any S l _ true _ (H.out.below (hT1.below))).mono ?_
        rintro e w2 ⟨rfl, hb2⟩
        have hT2 := hT1.step hb2
        clear hT1 hb2
        have c0 := hT2.c 0
        have c1 := hT2.c 1
        have c2 := hT2.c 2
        have c3 := hT2.c 3
        have f0 := hT2.fc 0
        have f1 := hT2.fc 1
        have f2 := hT2.fc 2
        have d0 := hT2.d 0
        have d1 := hT2.d 1
        have d2 := hT2.d 2
        have d3 := hT2.d 3
        have e0 := hT2.fd 0
        have e1 := hT2.fd 1
        have e2 := hT2.fd 2
        have e3 := hT2.fd 3
        simp [tnCells] at c0 c1 c2 c3 d0 d1 d2 d3
        go_wp2_with fail
        refine bodyPost_ret (v := tnV _) (by simp [results, Try.results75, go_sem, d0, d1, d2, d3, e0, e1, e2, e3, c0, c1, c2, c3, f0, f1, f2]) rfl ⟨rfl, ?_⟩
        repeat ((with_reducible refine Below.setCell ?_ ?hp _); case hp => simp)
        exact hT2.below
    · have q2' : decide (0 ≤ oldest l true) = false := decide_eq_false q2
      rw [if_pos ⟨q1, q2⟩] at e
      subst e
      go_enter Try.func75, Try.ntmps75
      go_wp2_with fail
      have hT : Box2 w.heap.size w ((w.alloc (Obj.cells #[Value.bool t.write, Value.int IntKind.i64 t.gone, Value.int IntKind.i64 t.starved, Value.int IntKind.i64 t.wh] 74)).alloc
          (Obj.cells #[Value.bool false, Value.int IntKind.i64 0, Value.int IntKind.i64 0, Value.int IntKind.i64 0] 74)) (tnCells t) #[.bool false, .int .i64 0, .int .i64 0, .int .i64 0] :=
        ⟨((Below.refl _ _).alloc (Nat.le_refl _) _).alloc (by simp) _, by simp, heap_alloc2_old _ _ _, heap_alloc2_new _ _ _⟩
      generalize ((w.alloc (Obj.cells #[Value.bool t.write, Value.int IntKind.i64 t.gone, Value.int IntKind.i64 t.starved, Value.int IntKind.i64 t.wh] 74)).alloc
          (Obj.cells #[Value.bool false, Value.int IntKind.i64 0, Value.int IntKind.i64 0, Value.int IntKind.i64 0] 74)) = W at hT ⊢
      refine (oldest_any S l _ false _ (H.out.below (hT.below))).mono ?_
      rintro e w1 ⟨rfl, hb1⟩
      have hT1 := hT.step hb1
      clear hT hb1
      go_wp2_with fail
      refine (oldest_any S l _ true _ (H.out.below (hT1.below))).mono ?_
      rintro e w2 ⟨rfl, hb2⟩
      have hT2 := hT1.step hb2
      clear hT1 hb2
      have c0 := hT2.c 0
      have c1 := hT2.c 1
      have c2 := hT2.c 2
      have c3 := hT2.c 3
      have f0 := hT2.fc 0
      have f1 := hT2.fc 1
      have f2 := hT2.fc 2
      have d0 := hT2.d 0
      have d1 := hT2.d 1
      have d2 := hT2.d 2
      have d3 := hT2.d 3
      have e0 := hT2.fd 0
      have e1 := hT2.fd 1
      have e2 := hT2.fd 2
      have e3 := hT2.fd 3
      simp [tnCells] at c0 c1 c2 c3 d0 d1 d2 d3
      go_wp2_with fail
      refine bodyPost_ret (v := tnV _) (by simp [results, Try.results75, go_sem, d0, d1, d2, d3, e0, e1, e2, e3, c0, c1, c2, c3, f0, f1, f2]) rfl ⟨rfl, ?_⟩
      repeat ((with_reducible refine Below.setCell ?_ ?hp _); case hp => simp)
      exact hT2.below
  · have q1' : decide (0 ≤ oldest l false) = false := decide_eq_false q1
    have q2 := hne.resolve_left q1
    rw [if_neg (by simp [q1]), if_pos ⟨q2, .inl q1⟩] at e
    subst e
    go_enter Try.func75, Try.ntmps75
    go_wp2_with fail
    have hT : Box2 w.heap.size w ((w.alloc (Obj.cells #[Value.bool t.write, Value.int IntKind.i64 t.gone, Value.int IntKind.i64 t.starved, Value.int IntKind.i64 t.wh] 74)).alloc
        (Obj.cells #[Value.bool false, Value.int IntKind.i64 0, Value.int IntKind.i64 0, Value.int IntKind.i64 0] 74)) (tnCells t) #[.bool false, .int .i64 0, .int .i64 0, .int .i64 0] :=
      ⟨((Below.refl _ _).alloc (Nat.le_refl _) _).alloc (by simp) _, by simp, heap_alloc2_old _ _ _, heap_alloc2_new _ _ _⟩
    generalize ((w.alloc (Obj.cells #[Value.bool t.write, Value.int IntKind.i64 t.gone, Value.int IntKind.i64 t.starved, Value.int IntKind.i64 t.wh] 74)).alloc
        (Obj.cells #[Value.bool false, Value.int IntKind.i64 0, Value.int IntKind.i64 0, Value.int IntKind.i64 0] 74)) = W at hT ⊢
    refine (oldest_any S l _ false _ (H.out.below (hT.below))).mono ?_
    rintro e w1 ⟨rfl, hb1⟩
    have hT1 := hT.step hb1
    clear hT hb1
    go_wp2_with fail
    refine (oldest_any S l _ true _ (H.out.below (hT1.below))).mono ?_
    rintro e w2 ⟨rfl, hb2⟩
    have hT2 := hT1.step hb2
    clear hT1 hb2
    have c0 := hT2.c 0
    have c1 := hT2.c 1
    have c2 := hT2.c 2
    have c3 := hT2.c 3
    have f0 := hT2.fc 0
    have f1 := hT2.fc 1
    have f2 := hT2.fc 2
    have d0 := hT2.d 0
    have d1 := hT2.d 1
    have d2 := hT2.d 2
    have d3 := hT2.d 3
    have e0 := hT2.fd 0
    have e1 := hT2.fd 1
    have e2 := hT2.fd 2
    have e3 := hT2.fd 3
    simp [tnCells] at c0 c1 c2 c3 d0 d1 d2 d3
    go_wp2_with fail
    refine bodyPost_ret (v := tnV _) (by simp [results, Try.results75, go_sem, d0, d1, d2, d3, e0, e1, e2, e3, c0, c1, c2, c3, f0, f1, f2]) rfl ⟨rfl, ?_⟩
    repeat ((with_reducible refine Below.setCell ?_ ?hp _); case hp => simp)
    exact hT2.below
end Go.Proofs.Ytojmnfelecnenaa
namespace Go.Proofs.Ytojmnfelecnenaa
open Go.RowKit

theorem bestOf_ok {ok : Rq → Bool} {key : Rq → Int} {l : List Rq} : ∀ {k j : Nat}, bestOf ok key l k = j → ∃ r, l[j]? = some r ∧ ok r = true ∧ j < k
  | 0, j, h => by simp [bestOf] at h
  | k + 1, j, h => by
    rw [bestOf] at h
    split at h
    · obtain ⟨r, h1, h2, h3⟩ := bestOf_ok h; exact ⟨r, h1, h2, by omega⟩
    · rename_i r hr
      split at h
      · rename_i hc
        obtain rfl : k = j := by omega
        simp at hc
        exact ⟨r, hr, hc.1, by omega⟩
      · obtain ⟨r, h1, h2, h3⟩ := bestOf_ok h; exact ⟨r, h1, h2, by omega⟩
theorem bestOf_some {ok : Rq → Bool} {key : Rq → Int} {l : List Rq} {r : Rq} {j : Nat} (hj : l[j]? = some r) (ho : ok r = true) : ∀ {k : Nat}, j < k → 0 ≤ bestOf ok key l k
  | 0, h => by omega
  | k + 1, h => by
    by_cases hjk : j = k
    · subst hjk
      rw [bestOf, hj]
      simp only
      split
      · omega
      · rename_i hc
        simp [ho] at hc
        omega
    · have ih := bestOf_some (key := key) hj ho (show j < k by omega)
      rw [bestOf]
      split
      · exact ih
      · split
        · omega
        · exact ih

theorem oldest_ok {l : List Rq} {wb : Bool} (h : 0 ≤ oldest l wb) : ∃ (j : Nat) (r : Rq), oldest l wb = j ∧ l[j]? = some r ∧ r.write = wb ∧ j < l.length := by
  obtain ⟨j, hj⟩ := Int.eq_ofNat_of_zero_le h
  obtain ⟨r, h1, h2, h3⟩ := bestOf_ok hj
  exact ⟨j, r, hj, h1, by simpa using h2, h3⟩
theorem fromI_ok {l : List Rq} {wb : Bool} {a : Int} (h : 0 ≤ fromI l wb a) : ∃ (j : Nat) (r : Rq), fromI l wb a = j ∧ l[j]? = some r ∧ r.write = wb ∧ a ≤ r.lo ∧ j < l.length := by
  obtain ⟨j, hj⟩ := Int.eq_ofNat_of_zero_le h
  obtain ⟨r, h1, h2, h3⟩ := bestOf_ok hj
  simp at h2
  exact ⟨j, r, hj, h1, h2.1, h2.2, h3⟩
theorem oldest_some {l : List Rq} {wb : Bool} {r : Rq} {j : Nat} (hj : l[j]? = some r) (hw : r.write = wb) : 0 ≤ oldest l wb :=
  bestOf_some hj (by simp [hw]) (by rcases Nat.lt_or_ge j l.length with h | h; exact h; rw [List.getElem?_eq_none h] at hj; cases hj)
theorem fromI_some {l : List Rq} {wb : Bool} {r : Rq} {j : Nat} {a : Int} (hj : l[j]? = some r) (hw : r.write = wb) (ha : a ≤ r.lo) : 0 ≤ fromI l wb a :=
  bestOf_some hj (by simp [hw, ha]) (by rcases Nat.lt_or_ge j l.length with h | h; exact h; rw [List.getElem?_eq_none h] at hj; cases hj)
theorem kinds {l : List Rq} (h : l ≠ []) : 0 ≤ oldest l false ∨ 0 ≤ oldest l true := by
  cases l with
  | nil => exact absurd rfl h
  | cons r l =>
    cases hw : r.write with
    | false => left; exact oldest_some (j := 0) rfl hw
    | true => right; exact oldest_some (j := 0) rfl hw

def endOf (l : List Rq) (i : Int) : Int := (l.getD i.toNat default).lo + (l.getD i.toNat default).many
theorem endOf_at {l : List Rq} {j : Nat} {r : Rq} (h : l[j]? = some r) : endOf l j = r.lo + r.many := by
  unfold endOf; rw [Int.toNat_natCast, List.getD_eq_getElem?_getD, h]; rfl
def pickM (l : List Rq) (t : Tn) (now : Int) : Int :=
  if expB (l.getD (oldest l t.write).toNat default) now then oldest l t.write
  else if fromI l t.write t.wh < 0 then fromI l t.write 0 else fromI l t.write t.wh
/-- Which one goes, and whose turn it is then. -/
def nextM (l : List Rq) (t : Tn) (now : Int) : Int × Tn :=
  if 0 < t.gone ∧ t.gone < 3 ∧ 0 ≤ fromI l t.write t.wh then (fromI l t.write t.wh, { t with gone := t.gone + 1, wh := endOf l (fromI l t.write t.wh) })
  else (pickM l (turnedM l t) now, { turnedM l t with gone := 1, wh := endOf l (pickM l (turnedM l t) now) })
theorem nextM_on {l : List Rq} {t : Tn} {now : Int} (h1 : 0 < t.gone) (h2 : t.gone < 3) (h3 : 0 ≤ fromI l t.write t.wh) :
    nextM l t now = (fromI l t.write t.wh, { t with gone := t.gone + 1, wh := endOf l (fromI l t.write t.wh) }) := if_pos ⟨h1, h2, h3⟩
theorem nextM_new {l : List Rq} {t : Tn} {now : Int} (h : ¬ (0 < t.gone ∧ t.gone < 3 ∧ 0 ≤ fromI l t.write t.wh)) :
    nextM l t now = (pickM l (turnedM l t) now, { turnedM l t with gone := 1, wh := endOf l (pickM l (turnedM l t) now) }) := if_neg h
theorem turned_kind {l : List Rq} {t : Tn} (hne : l ≠ []) : 0 ≤ oldest l (turnedM l t).write := by
  have hk := kinds hne
  unfold turnedM
  by_cases h1 : 0 ≤ oldest l false
  · by_cases h2 : 0 ≤ oldest l true
    · rw [if_neg (by simp [h2])]
      split
      · exact h2
      · exact h1
    · rw [if_pos ⟨h1, h2⟩]; exact h1
  · have h2 := hk.resolve_left h1
    rw [if_neg (by simp [h1]), if_pos ⟨h2, .inl h1⟩]; exact h2
theorem turned_wh (l : List Rq) (t : Tn) : (turnedM l t).wh = t.wh := by
  unfold turnedM; split; rfl; split <;> rfl
end Go.Proofs.Ytojmnfelecnenaa
namespace Go.Proofs.Ytojmnfelecnenaa
set_option linter.unusedSimpArgs false
set_option linter.unusedVariables false
open Go.RowKit Go.Sort

def nextV (l : List Rq) (t : Tn) (now : Int) : Value := .tuple #[.int .i64 (nextM l t now).1, tnV (nextM l t now).2]
abbrev zeroTn : Array Value := #[.bool false, .int .i64 0, .int .i64 0, .int .i64 0]
theorem Box2.start (w : World) (t : Tn) : Box2 w.heap.size w ((w.alloc (Obj.cells #[Value.bool t.write, Value.int IntKind.i64 t.gone, Value.int IntKind.i64 t.starved, Value.int IntKind.i64 t.wh] 74)).alloc
    (Obj.cells #[Value.bool false, Value.int IntKind.i64 0, Value.int IntKind.i64 0, Value.int IntKind.i64 0] 74)) (tnCells t) zeroTn :=
  ⟨((Below.refl _ _).alloc (Nat.le_refl _) _).alloc (by simp) _, by simp, heap_alloc2_old _ _ _, heap_alloc2_new _ _ _⟩

set_option maxRecDepth 100000 in
set_option maxHeartbeats 2000000 in
theorem next_on (S : Nat → Prop) (l : List Rq) (v : Value) (t : Tn) (now : Int) (w : World) (h : ReqsAt S w v l) (hg : goodReqs l = true)
    (q1 : 0 < t.gone) (q2 : t.gone < 3) (q3 : 0 ≤ fromI l t.write t.wh) :
    Calls Try.prog 54 #[v, tnV t, .int .i64 now] w (Ret (nextV l t now) w) := by
  have H := Lib.hid h
  obtain ⟨A, cap, rfl, h1, h2⟩ := h.form
  unfold maxLen at h2
  clear h
  have ev : nextV l t now = .tuple #[.int .i64 (fromI l t.write t.wh), tnV { t with gone := t.gone + 1, wh := endOf l (fromI l t.write t.wh) }] := by unfold nextV; rw [nextM_on q1 q2 q3]
  obtain ⟨j, r, hj, hr, _, _, hjl⟩ := fromI_ok q3
  have hok := good_mem hg hr
  obtain ⟨s1, s2, s3, s4, s5⟩ := hok.span
  rw [hj, endOf_at hr] at ev
  rw [ev]
  have Hj := Lib.hid hj
  have Hr := Lib.hid hr
  clear ev hj hr q3 hok
  have hji : (j : Int) < (l.length : Int) := by omega
  have hs : IntKind.i64.wrap (r.lo + r.many) = r.lo + r.many := IntWalk.i64_in _ (by omega)
  go_enter Try.func54, Try.ntmps54
  go_wp2_with fail
  have hT := Box2.start w t
  generalize ((w.alloc (Obj.cells #[Value.bool t.write, Value.int IntKind.i64 t.gone, Value.int IntKind.i64 t.starved, Value.int IntKind.i64 t.wh] 74)).alloc
    (Obj.cells #[Value.bool false, Value.int IntKind.i64 0, Value.int IntKind.i64 0, Value.int IntKind.i64 0] 74)) = W at hT ⊢
  refine (from_any S l _ t.write t.wh _ (H.out.below hT.below)).mono ?_
  rintro e w1 ⟨rfl, hb1⟩
  have hT1 := hT.step hb1
  clear hT hb1
  rw [Hj.out]
  obtain ⟨b, off, rfl, _, hbl, hc⟩ := (H.out.below hT1.below).at_ (by omega)
  obtain ⟨_, _, _, _, _, _, k1, k2, _, _, _⟩ := hc j r Hr.out
  clear hc
  have hbB : b < w.heap.size := by
    obtain ⟨b', off', e, _, hb', _⟩ := H.out.at_ (by omega)
    cases e; exact hb'
  have c0 := hT1.c 0
  have c1 := hT1.c 1
  have c2 := hT1.c 2
  have c3 := hT1.c 3
  have f1 := hT1.fc 1
  have f3 := hT1.fc 3
  have d0 := hT1.d 0
  have d1 := hT1.d 1
  have d2 := hT1.d 2
  have d3 := hT1.d 3
  have e0 := hT1.fd 0
  have e1 := hT1.fd 1
  have e2 := hT1.fd 2
  have e3 := hT1.fd 3
  simp [tnCells, zeroTn] at c0 c1 c2 c3 d0 d1 d2 d3
  go_wp2_with fail
  go_region
  go_wp2_with fail
  go_region
  go_wp2
  refine bodyPost_ret (v := .tuple #[_, tnV _]) (by simp [results, Try.results54, go_sem, d0, d1, d2, d3, e0, e1, e2, e3, c0, c1, c2, c3, f1, f3]) rfl ⟨rfl, ?_⟩
  repeat (first | (with_reducible refine Below.drew ?_) | ((with_reducible refine Below.setCell ?_ ?hp _); case hp => simp))
  exact hT1.below

/-- What the rest of Next needs to know: the turn t' that has begun, which one goes (i), and why. -/
structure Goes (l : List Rq) (t' : Tn) (now i : Int) : Prop where
  old : 0 ≤ oldest l t'.write
  pick : pickM l t' now = i
theorem pick_valid {l : List Rq} {t' : Tn} {now : Int} (hg : goodReqs l = true) (h : 0 ≤ oldest l t'.write) : ∃ (j : Nat) (r : Rq), pickM l t' now = j ∧ l[j]? = some r ∧ j < l.length := by
  obtain ⟨o, r, ho, hr, hw, hlt⟩ := oldest_ok h
  unfold pickM
  split
  · exact ⟨o, r, ho, hr, hlt⟩
  · split
    · have h0 : 0 ≤ fromI l t'.write 0 := fromI_some hr hw (good_mem hg hr).span.1
      obtain ⟨j, r', hj, hr', _, _, hl⟩ := fromI_ok h0
      exact ⟨j, r', hj, hr', hl⟩
    · rename_i hn
      obtain ⟨j, r', hj, hr', _, _, hl⟩ := fromI_ok (Int.not_lt.1 hn)
      exact ⟨j, r', hj, hr', hl⟩

set_option maxRecDepth 100000 in
set_option maxHeartbeats 4000000 in
theorem next_new1 (S : Nat → Prop) (l : List Rq) (v : Value) (t : Tn) (now : Int) (w : World) (h : ReqsAt S w v l) (hg : goodReqs l = true) (hne : l ≠ []) (hst : i64 t.starved) (hn1 : 0 ≤ now) (hn2 : now ≤ 1000000000)
    (q : t.gone ≤ 0) :
    Calls Try.prog 54 #[v, tnV t, .int .i64 now] w (Ret (nextV l t now) w) := by
  have H := Lib.hid h
  obtain ⟨A, cap, rfl, h1, h2⟩ := h.form
  unfold maxLen at h2
  clear h
  have ev : nextV l t now = .tuple #[.int .i64 (pickM l (turnedM l t) now), tnV { turnedM l t with gone := 1, wh := endOf l (pickM l (turnedM l t) now) }] := by unfold nextV; rw [nextM_new (by omega)]
  go_enter Try.func54, Try.ntmps54
  go_wp2_with fail
  have hT := Box2.start w t
  generalize ((w.alloc (Obj.cells #[Value.bool t.write, Value.int IntKind.i64 t.gone, Value.int IntKind.i64 t.starved, Value.int IntKind.i64 t.wh] 74)).alloc
    (Obj.cells #[Value.bool false, Value.int IntKind.i64 0, Value.int IntKind.i64 0, Value.int IntKind.i64 0] 74)) = W at hT ⊢
  refine (turned_any S l _ t _ (H.out.below hT.below) hst (kinds hne)).mono ?_
  rintro e w1 ⟨rfl, hb1⟩
  have hT1 := hT.step hb1
  clear hT hb1
  have hold := turned_kind (t := t) hne
  generalize turnedM l t = t' at hold ev ⊢
  have c0 := hT1.c 0
  have c1 := hT1.c 1
  have c2 := hT1.c 2
  have c3 := hT1.c 3
  have f0 := hT1.fc 0
  have f1 := hT1.fc 1
  have f2 := hT1.fc 2
  have f3 := hT1.fc 3
  have d0 := hT1.d 0
  have d1 := hT1.d 1
  have d2 := hT1.d 2
  have d3 := hT1.d 3
  have e0 := hT1.fd 0
  have e1 := hT1.fd 1
  have e2 := hT1.fd 2
  have e3 := hT1.fd 3
  simp [tnCells, zeroTn] at c0 c1 c2 c3 d0 d1 d2 d3
  go_wp2_with fail
  have hT2 := (((hT1.set 0 (.bool t'.write)).set 1 (.int .i64 t'.gone)).set 2 (.int .i64 t'.starved)).set 3 (.int .i64 t'.wh)
  clear c0 c1 c2 c3 d0 d1 d2 d3 f0 f1 f2 f3 e0 e1 e2 e3
  generalize (((w1.setCell ⟨w.heap.size, 0, none⟩ (.bool t'.write)).setCell ⟨w.heap.size, 1, none⟩ (.int .i64 t'.gone)).setCell ⟨w.heap.size, 2, none⟩ (.int .i64 t'.starved)).setCell ⟨w.heap.size, 3, none⟩ (.int .i64 t'.wh) = w2 at hT2 ⊢
  have hT2 : Box2 w.heap.size w w2 (tnCells t') zeroTn := hT2
  have c0 := hT2.c 0
  have c1 := hT2.c 1
  have c2 := hT2.c 2
  have c3 := hT2.c 3
  have f0 := hT2.fc 0
  have f1 := hT2.fc 1
  have f2 := hT2.fc 2
  have f3 := hT2.fc 3
  have d0 := hT2.d 0
  have d1 := hT2.d 1
  have d2 := hT2.d 2
  have d3 := hT2.d 3
  have e0 := hT2.fd 0
  have e1 := hT2.fd 1
  have e2 := hT2.fd 2
  have e3 := hT2.fd 3
  simp [tnCells, zeroTn] at c0 c1 c2 c3 d0 d1 d2 d3
  go_wp2_with fail
  refine (oldest_any S l _ t'.write _ (H.out.below hT2.below)).mono ?_
  rintro e w3 ⟨rfl, hb3⟩
  have hT3 := hT2.step hb3
  clear hT2 hb3
  clear c0 c1 c2 c3 d0 d1 d2 d3 f0 f1 f2 f3 e0 e1 e2 e3
  have c0 := hT3.c 0
  have c1 := hT3.c 1
  have c2 := hT3.c 2
  have c3 := hT3.c 3
  have f0 := hT3.fc 0
  have f1 := hT3.fc 1
  have f2 := hT3.fc 2
  have f3 := hT3.fc 3
  have d0 := hT3.d 0
  have d1 := hT3.d 1
  have d2 := hT3.d 2
  have d3 := hT3.d 3
  have e0 := hT3.fd 0
  have e1 := hT3.fd 1
  have e2 := hT3.fd 2
  have e3 := hT3.fd 3
  simp [tnCells, zeroTn] at c0 c1 c2 c3 d0 d1 d2 d3
  obtain ⟨o, ro, ho, hro, how, hol⟩ := oldest_ok hold
  have hpick : pickM l t' now = if expB ro now then oldest l t'.write else if fromI l t'.write t'.wh < 0 then fromI l t'.write 0 else fromI l t'.write t'.wh := by
    unfold pickM
    rw [ho, Int.toNat_natCast, List.getD_eq_getElem?_getD, hro]; rfl
  rw [ho] at hpick ⊢
  have hbo := (good_mem hg hro).born
  have Hro := Lib.hid hro
  have How := Lib.hid how
  have Ho := Lib.hid ho
  clear hro how ho hold
  obtain ⟨b, off, rfl, _, hbl, hc⟩ := (H.out.below hT3.below).at_ (by omega)
  have hbB : b < w.heap.size := by
    obtain ⟨b', off', e, _, hb', _⟩ := H.out.at_ (by omega)
    cases e; exact hb'
  obtain ⟨Ad, cd, At, ct, hreq, k0, k1, k2, k3, k4, k5⟩ := hc o ro Hro.out
  clear hc
  have hoi : (o : Int) < (l.length : Int) := by omega
  have Hbo := Lib.hid hbo
  clear hbo
  cases hexp : expB ro now with
  | true =>
    rw [hexp, if_pos rfl] at hpick
    rw [hpick, endOf_at Hro.out] at ev
    have EV := Lib.hid ev
    clear ev hpick
    go_wp2_with fail
    refine (expired_any S ro _ now _ hreq hn1 hn2 Hbo.out).mono ?_
    rintro e w4 ⟨rfl, hb4⟩
    have hT4 := hT3.step hb4
    clear hT3 hb4 k0 k1 k2 k3 k4 k5 hreq hbl
    clear c0 c1 c2 c3 d0 d1 d2 d3 f0 f1 f2 f3 e0 e1 e2 e3
    obtain ⟨j, hj⟩ : ∃ j, j = o := ⟨_, rfl⟩
    subst hj
    obtain ⟨r, hr⟩ : ∃ r, r = ro := ⟨_, rfl⟩
    subst hr
    have Hr := Hro
    obtain ⟨s1, s2, s3, s4, s5⟩ := (good_mem hg Hr.out).span
    obtain ⟨b', off', e, _, hbl, hc⟩ := (H.out.below hT4.below).at_ (by omega)
    cases e
    obtain ⟨_, _, _, _, _, _, k1, k2, _, _, _⟩ := hc j r Hr.out
    clear hc
    have hji : (j : Int) < (l.length : Int) := by omega
    have hs : IntKind.i64.wrap (r.lo + r.many) = r.lo + r.many := IntWalk.i64_in _ (by omega)
    have c0 := hT4.c 0
    have c1 := hT4.c 1
    have c2 := hT4.c 2
    have c3 := hT4.c 3
    have f0 := hT4.fc 0
    have f1 := hT4.fc 1
    have f2 := hT4.fc 2
    have f3 := hT4.fc 3
    have d0 := hT4.d 0
    have d1 := hT4.d 1
    have d2 := hT4.d 2
    have d3 := hT4.d 3
    have e0 := hT4.fd 0
    have e1 := hT4.fd 1
    have e2 := hT4.fd 2
    have e3 := hT4.fd 3
    simp [tnCells, zeroTn] at c0 c1 c2 c3 d0 d1 d2 d3
    go_wp2_with fail
    go_region
    go_wp2_with fail
    go_region
    go_wp2
    rw [EV.out]
    refine bodyPost_ret (v := .tuple #[_, tnV _]) (by simp [results, Try.results54, go_sem, d0, d1, d2, d3, e0, e1, e2, e3, c0, c1, c2, c3, f0, f1, f2, f3]) rfl ⟨rfl, ?_⟩
    repeat (first | (with_reducible refine Below.drew ?_) | ((with_reducible refine Below.setCell ?_ ?hp _); case hp => simp))
    exact hT4.below
  | false =>
    rw [hexp] at hpick
    have Hpick := Lib.hid hpick
    have Ev := Lib.hid ev
    clear hpick ev
    go_wp2_with fail
    refine (expired_any S ro _ now _ hreq hn1 hn2 Hbo.out).mono ?_
    rintro e w4 ⟨rfl, hb4⟩
    have hT4 := hT3.step hb4
    clear hT3 hb4 k0 k1 k2 k3 k4 k5 hreq hbl
    clear c0 c1 c2 c3 d0 d1 d2 d3 f0 f1 f2 f3 e0 e1 e2 e3
    have c0 := hT4.c 0
    have c1 := hT4.c 1
    have c2 := hT4.c 2
    have c3 := hT4.c 3
    have f0 := hT4.fc 0
    have f1 := hT4.fc 1
    have f2 := hT4.fc 2
    have f3 := hT4.fc 3
    have d0 := hT4.d 0
    have d1 := hT4.d 1
    have d2 := hT4.d 2
    have d3 := hT4.d 3
    have e0 := hT4.fd 0
    have e1 := hT4.fd 1
    have e2 := hT4.fd 2
    have e3 := hT4.fd 3
    simp [tnCells, zeroTn] at c0 c1 c2 c3 d0 d1 d2 d3
    go_wp2_with fail
    refine (from_any S l _ t'.write t'.wh _ (H.out.below hT4.below)).mono ?_
    rintro e w5 ⟨rfl, hb5⟩
    have hT5 := hT4.step hb5
    clear hT4 hb5
    clear c0 c1 c2 c3 d0 d1 d2 d3 f0 f1 f2 f3 e0 e1 e2 e3
    have c0 := hT5.c 0
    have c1 := hT5.c 1
    have c2 := hT5.c 2
    have c3 := hT5.c 3
    have f0 := hT5.fc 0
    have f1 := hT5.fc 1
    have f2 := hT5.fc 2
    have f3 := hT5.fc 3
    have d0 := hT5.d 0
    have d1 := hT5.d 1
    have d2 := hT5.d 2
    have d3 := hT5.d 3
    have e0 := hT5.fd 0
    have e1 := hT5.fd 1
    have e2 := hT5.fd 2
    have e3 := hT5.fd 3
    simp [tnCells, zeroTn] at c0 c1 c2 c3 d0 d1 d2 d3
    by_cases hf : fromI l t'.write t'.wh < 0
    · have h0 : 0 ≤ fromI l t'.write 0 := fromI_some Hro.out How.out (good_mem hg Hro.out).span.1
      obtain ⟨j, r, hj, hr, _, _, hjl⟩ := fromI_ok h0
      have e1 : pickM l t' now = j := by rw [Hpick.out, if_neg (by simp), if_pos hf, hj]
      have ev := Ev.out
      rw [e1, endOf_at hr] at ev
      have EV := Lib.hid ev
      have Hr := Lib.hid hr
      have Hj := Lib.hid hj
      clear ev Hpick Ev hj hr h0 e1
      go_wp2_with fail
      refine (from_any S l _ t'.write 0 _ (H.out.below hT5.below)).mono ?_
      rintro e w6 ⟨rfl, hb6⟩
      have hT6 := hT5.step hb6
      clear hT5 hb6 hf
      rw [Hj.out]
      clear c0 c1 c2 c3 d0 d1 d2 d3 f0 f1 f2 f3 e0 e1 e2 e3
      obtain ⟨s1, s2, s3, s4, s5⟩ := (good_mem hg Hr.out).span
      obtain ⟨b', off', e, _, hbl, hc⟩ := (H.out.below hT6.below).at_ (by omega)
      cases e
      obtain ⟨_, _, _, _, _, _, k1, k2, _, _, _⟩ := hc j r Hr.out
      clear hc
      have hji : (j : Int) < (l.length : Int) := by omega
      have hs : IntKind.i64.wrap (r.lo + r.many) = r.lo + r.many := IntWalk.i64_in _ (by omega)
      have c0 := hT6.c 0
      have c1 := hT6.c 1
      have c2 := hT6.c 2
      have c3 := hT6.c 3
      have f0 := hT6.fc 0
      have f1 := hT6.fc 1
      have f2 := hT6.fc 2
      have f3 := hT6.fc 3
      have d0 := hT6.d 0
      have d1 := hT6.d 1
      have d2 := hT6.d 2
      have d3 := hT6.d 3
      have e0 := hT6.fd 0
      have e1 := hT6.fd 1
      have e2 := hT6.fd 2
      have e3 := hT6.fd 3
      simp [tnCells, zeroTn] at c0 c1 c2 c3 d0 d1 d2 d3
      go_wp2_with fail
      go_region
      go_wp2_with fail
      go_region
      go_wp2
      rw [EV.out]
      refine bodyPost_ret (v := .tuple #[_, tnV _]) (by simp [results, Try.results54, go_sem, d0, d1, d2, d3, e0, e1, e2, e3, c0, c1, c2, c3, f0, f1, f2, f3]) rfl ⟨rfl, ?_⟩
      repeat (first | (with_reducible refine Below.drew ?_) | ((with_reducible refine Below.setCell ?_ ?hp _); case hp => simp))
      exact hT6.below
    · obtain ⟨j, r, hj, hr, _, _, hjl⟩ := fromI_ok (Int.not_lt.1 hf)
      have e1 : pickM l t' now = j := by rw [Hpick.out, if_neg (by simp), if_neg hf, hj]
      have ev := Ev.out
      rw [e1, endOf_at hr] at ev
      have EV := Lib.hid ev
      have Hr := Lib.hid hr
      rw [hj]
      clear ev Hpick Ev hj hr e1 hf
      clear c0 c1 c2 c3 d0 d1 d2 d3 f0 f1 f2 f3 e0 e1 e2 e3
      obtain ⟨s1, s2, s3, s4, s5⟩ := (good_mem hg Hr.out).span
      obtain ⟨b', off', e, _, hbl, hc⟩ := (H.out.below hT5.below).at_ (by omega)
      cases e
      obtain ⟨_, _, _, _, _, _, k1, k2, _, _, _⟩ := hc j r Hr.out
      clear hc
      have hji : (j : Int) < (l.length : Int) := by omega
      have hs : IntKind.i64.wrap (r.lo + r.many) = r.lo + r.many := IntWalk.i64_in _ (by omega)
      have c0 := hT5.c 0
      have c1 := hT5.c 1
      have c2 := hT5.c 2
      have c3 := hT5.c 3
      have f0 := hT5.fc 0
      have f1 := hT5.fc 1
      have f2 := hT5.fc 2
      have f3 := hT5.fc 3
      have d0 := hT5.d 0
      have d1 := hT5.d 1
      have d2 := hT5.d 2
      have d3 := hT5.d 3
      have e0 := hT5.fd 0
      have e1 := hT5.fd 1
      have e2 := hT5.fd 2
      have e3 := hT5.fd 3
      simp [tnCells, zeroTn] at c0 c1 c2 c3 d0 d1 d2 d3
      go_wp2_with fail
      go_region
      go_wp2_with fail
      go_region
      go_wp2
      rw [EV.out]
      refine bodyPost_ret (v := .tuple #[_, tnV _]) (by simp [results, Try.results54, go_sem, d0, d1, d2, d3, e0, e1, e2, e3, c0, c1, c2, c3, f0, f1, f2, f3]) rfl ⟨rfl, ?_⟩
      repeat (first | (with_reducible refine Below.drew ?_) | ((with_reducible refine Below.setCell ?_ ?hp _); case hp => simp))
      exact hT5.below
set_option maxRecDepth 100000 in
set_option maxHeartbeats 4000000 in
theorem next_new2 (S : Nat → Prop) (l : List Rq) (v : Value) (t : Tn) (now : Int) (w : World) (h : ReqsAt S w v l) (hg : goodReqs l = true) (hne : l ≠ []) (hst : i64 t.starved) (hn1 : 0 ≤ now) (hn2 : now ≤ 1000000000)
    (q : 3 ≤ t.gone) :
    Calls Try.prog 54 #[v, tnV t, .int .i64 now] w (Ret (nextV l t now) w) := by
  have H := Lib.hid h
  obtain ⟨A, cap, rfl, h1, h2⟩ := h.form
  unfold maxLen at h2
  clear h
  have ev : nextV l t now = .tuple #[.int .i64 (pickM l (turnedM l t) now), tnV { turnedM l t with gone := 1, wh := endOf l (pickM l (turnedM l t) now) }] := by unfold nextV; rw [nextM_new (by omega)]
  go_enter Try.func54, Try.ntmps54
  go_wp2_with fail
  have hT := Box2.start w t
  generalize ((w.alloc (Obj.cells #[Value.bool t.write, Value.int IntKind.i64 t.gone, Value.int IntKind.i64 t.starved, Value.int IntKind.i64 t.wh] 74)).alloc
    (Obj.cells #[Value.bool false, Value.int IntKind.i64 0, Value.int IntKind.i64 0, Value.int IntKind.i64 0] 74)) = W at hT ⊢
  refine (turned_any S l _ t _ (H.out.below hT.below) hst (kinds hne)).mono ?_
  rintro e w1 ⟨rfl, hb1⟩
  have hT1 := hT.step hb1
  clear hT hb1
  have hold := turned_kind (t := t) hne
  generalize turnedM l t = t' at hold ev ⊢
  have c0 := hT1.c 0
  have c1 := hT1.c 1
  have c2 := hT1.c 2
  have c3 := hT1.c 3
  have f0 := hT1.fc 0
  have f1 := hT1.fc 1
  have f2 := hT1.fc 2
  have f3 := hT1.fc 3
  have d0 := hT1.d 0
  have d1 := hT1.d 1
  have d2 := hT1.d 2
  have d3 := hT1.d 3
  have e0 := hT1.fd 0
  have e1 := hT1.fd 1
  have e2 := hT1.fd 2
  have e3 := hT1.fd 3
  simp [tnCells, zeroTn] at c0 c1 c2 c3 d0 d1 d2 d3
  go_wp2_with fail
  have hT2 := (((hT1.set 0 (.bool t'.write)).set 1 (.int .i64 t'.gone)).set 2 (.int .i64 t'.starved)).set 3 (.int .i64 t'.wh)
  clear c0 c1 c2 c3 d0 d1 d2 d3 f0 f1 f2 f3 e0 e1 e2 e3
  generalize (((w1.setCell ⟨w.heap.size, 0, none⟩ (.bool t'.write)).setCell ⟨w.heap.size, 1, none⟩ (.int .i64 t'.gone)).setCell ⟨w.heap.size, 2, none⟩ (.int .i64 t'.starved)).setCell ⟨w.heap.size, 3, none⟩ (.int .i64 t'.wh) = w2 at hT2 ⊢
  have hT2 : Box2 w.heap.size w w2 (tnCells t') zeroTn := hT2
  have c0 := hT2.c 0
  have c1 := hT2.c 1
  have c2 := hT2.c 2
  have c3 := hT2.c 3
  have f0 := hT2.fc 0
  have f1 := hT2.fc 1
  have f2 := hT2.fc 2
  have f3 := hT2.fc 3
  have d0 := hT2.d 0
  have d1 := hT2.d 1
  have d2 := hT2.d 2
  have d3 := hT2.d 3
  have e0 := hT2.fd 0
  have e1 := hT2.fd 1
  have e2 := hT2.fd 2
  have e3 := hT2.fd 3
  simp [tnCells, zeroTn] at c0 c1 c2 c3 d0 d1 d2 d3
  go_wp2_with fail
  refine (oldest_any S l _ t'.write _ (H.out.below hT2.below)).mono ?_
  rintro e w3 ⟨rfl, hb3⟩
  have hT3 := hT2.step hb3
  clear hT2 hb3
  clear c0 c1 c2 c3 d0 d1 d2 d3 f0 f1 f2 f3 e0 e1 e2 e3
  have c0 := hT3.c 0
  have c1 := hT3.c 1
  have c2 := hT3.c 2
  have c3 := hT3.c 3
  have f0 := hT3.fc 0
  have f1 := hT3.fc 1
  have f2 := hT3.fc 2
  have f3 := hT3.fc 3
  have d0 := hT3.d 0
  have d1 := hT3.d 1
  have d2 := hT3.d 2
  have d3 := hT3.d 3
  have e0 := hT3.fd 0
  have e1 := hT3.fd 1
  have e2 := hT3.fd 2
  have e3 := hT3.fd 3
  simp [tnCells, zeroTn] at c0 c1 c2 c3 d0 d1 d2 d3
  obtain ⟨o, ro, ho, hro, how, hol⟩ := oldest_ok hold
  have hpick : pickM l t' now = if expB ro now then oldest l t'.write else if fromI l t'.write t'.wh < 0 then fromI l t'.write 0 else fromI l t'.write t'.wh := by
    unfold pickM
    rw [ho, Int.toNat_natCast, List.getD_eq_getElem?_getD, hro]; rfl
  rw [ho] at hpick ⊢
  have hbo := (good_mem hg hro).born
  have Hro := Lib.hid hro
  have How := Lib.hid how
  have Ho := Lib.hid ho
  clear hro how ho hold
  obtain ⟨b, off, rfl, _, hbl, hc⟩ := (H.out.below hT3.below).at_ (by omega)
  have hbB : b < w.heap.size := by
    obtain ⟨b', off', e, _, hb', _⟩ := H.out.at_ (by omega)
    cases e; exact hb'
  obtain ⟨Ad, cd, At, ct, hreq, k0, k1, k2, k3, k4, k5⟩ := hc o ro Hro.out
  clear hc
  have hoi : (o : Int) < (l.length : Int) := by omega
  have Hbo := Lib.hid hbo
  clear hbo
  cases hexp : expB ro now with
  | true =>
    rw [hexp, if_pos rfl] at hpick
    rw [hpick, endOf_at Hro.out] at ev
    have EV := Lib.hid ev
    clear ev hpick
    go_wp2_with fail
    refine (expired_any S ro _ now _ hreq hn1 hn2 Hbo.out).mono ?_
    rintro e w4 ⟨rfl, hb4⟩
    have hT4 := hT3.step hb4
    clear hT3 hb4 k0 k1 k2 k3 k4 k5 hreq hbl
    clear c0 c1 c2 c3 d0 d1 d2 d3 f0 f1 f2 f3 e0 e1 e2 e3
    obtain ⟨j, hj⟩ : ∃ j, j = o := ⟨_, rfl⟩
    subst hj
    obtain ⟨r, hr⟩ : ∃ r, r = ro := ⟨_, rfl⟩
    subst hr
    have Hr := Hro
    obtain ⟨s1, s2, s3, s4, s5⟩ := (good_mem hg Hr.out).span
    obtain ⟨b', off', e, _, hbl, hc⟩ := (H.out.below hT4.below).at_ (by omega)
    cases e
    obtain ⟨_, _, _, _, _, _, k1, k2, _, _, _⟩ := hc j r Hr.out
    clear hc
    have hji : (j : Int) < (l.length : Int) := by omega
    have hs : IntKind.i64.wrap (r.lo + r.many) = r.lo + r.many := IntWalk.i64_in _ (by omega)
    have c0 := hT4.c 0
    have c1 := hT4.c 1
    have c2 := hT4.c 2
    have c3 := hT4.c 3
    have f0 := hT4.fc 0
    have f1 := hT4.fc 1
    have f2 := hT4.fc 2
    have f3 := hT4.fc 3
    have d0 := hT4.d 0
    have d1 := hT4.d 1
    have d2 := hT4.d 2
    have d3 := hT4.d 3
    have e0 := hT4.fd 0
    have e1 := hT4.fd 1
    have e2 := hT4.fd 2
    have e3 := hT4.fd 3
    simp [tnCells, zeroTn] at c0 c1 c2 c3 d0 d1 d2 d3
    go_wp2_with fail
    go_region
    go_wp2_with fail
    go_region
    go_wp2
    rw [EV.out]
    refine bodyPost_ret (v := .tuple #[_, tnV _]) (by simp [results, Try.results54, go_sem, d0, d1, d2, d3, e0, e1, e2, e3, c0, c1, c2, c3, f0, f1, f2, f3]) rfl ⟨rfl, ?_⟩
    repeat (first | (with_reducible refine Below.drew ?_) | ((with_reducible refine Below.setCell ?_ ?hp _); case hp => simp))
    exact hT4.below
  | false =>
    rw [hexp] at hpick
    have Hpick := Lib.hid hpick
    have Ev := Lib.hid ev
    clear hpick ev
    go_wp2_with fail
    refine (expired_any S ro _ now _ hreq hn1 hn2 Hbo.out).mono ?_
    rintro e w4 ⟨rfl, hb4⟩
    have hT4 := hT3.step hb4
    clear hT3 hb4 k0 k1 k2 k3 k4 k5 hreq hbl
    clear c0 c1 c2 c3 d0 d1 d2 d3 f0 f1 f2 f3 e0 e1 e2 e3
    have c0 := hT4.c 0
    have c1 := hT4.c 1
    have c2 := hT4.c 2
    have c3 := hT4.c 3
    have f0 := hT4.fc 0
    have f1 := hT4.fc 1
    have f2 := hT4.fc 2
    have f3 := hT4.fc 3
    have d0 := hT4.d 0
    have d1 := hT4.d 1
    have d2 := hT4.d 2
    have d3 := hT4.d 3
    have e0 := hT4.fd 0
    have e1 := hT4.fd 1
    have e2 := hT4.fd 2
    have e3 := hT4.fd 3
    simp [tnCells, zeroTn] at c0 c1 c2 c3 d0 d1 d2 d3
    go_wp2_with fail
    refine (from_any S l _ t'.write t'.wh _ (H.out.below hT4.below)).mono ?_
    rintro e w5 ⟨rfl, hb5⟩
    have hT5 := hT4.step hb5
    clear hT4 hb5
    clear c0 c1 c2 c3 d0 d1 d2 d3 f0 f1 f2 f3 e0 e1 e2 e3
    have c0 := hT5.c 0
    have c1 := hT5.c 1
    have c2 := hT5.c 2
    have c3 := hT5.c 3
    have f0 := hT5.fc 0
    have f1 := hT5.fc 1
    have f2 := hT5.fc 2
    have f3 := hT5.fc 3
    have d0 := hT5.d 0
    have d1 := hT5.d 1
    have d2 := hT5.d 2
    have d3 := hT5.d 3
    have e0 := hT5.fd 0
    have e1 := hT5.fd 1
    have e2 := hT5.fd 2
    have e3 := hT5.fd 3
    simp [tnCells, zeroTn] at c0 c1 c2 c3 d0 d1 d2 d3
    by_cases hf : fromI l t'.write t'.wh < 0
    · have h0 : 0 ≤ fromI l t'.write 0 := fromI_some Hro.out How.out (good_mem hg Hro.out).span.1
      obtain ⟨j, r, hj, hr, _, _, hjl⟩ := fromI_ok h0
      have e1 : pickM l t' now = j := by rw [Hpick.out, if_neg (by simp), if_pos hf, hj]
      have ev := Ev.out
      rw [e1, endOf_at hr] at ev
      have EV := Lib.hid ev
      have Hr := Lib.hid hr
      have Hj := Lib.hid hj
      clear ev Hpick Ev hj hr h0 e1
      go_wp2_with fail
      refine (from_any S l _ t'.write 0 _ (H.out.below hT5.below)).mono ?_
      rintro e w6 ⟨rfl, hb6⟩
      have hT6 := hT5.step hb6
      clear hT5 hb6 hf
      rw [Hj.out]
      clear c0 c1 c2 c3 d0 d1 d2 d3 f0 f1 f2 f3 e0 e1 e2 e3
      obtain ⟨s1, s2, s3, s4, s5⟩ := (good_mem hg Hr.out).span
      obtain ⟨b', off', e, _, hbl, hc⟩ := (H.out.below hT6.below).at_ (by omega)
      cases e
      obtain ⟨_, _, _, _, _, _, k1, k2, _, _, _⟩ := hc j r Hr.out
      clear hc
      have hji : (j : Int) < (l.length : Int) := by omega
      have hs : IntKind.i64.wrap (r.lo + r.many) = r.lo + r.many := IntWalk.i64_in _ (by omega)
      have c0 := hT6.c 0
      have c1 := hT6.c 1
      have c2 := hT6.c 2
      have c3 := hT6.c 3
      have f0 := hT6.fc 0
      have f1 := hT6.fc 1
      have f2 := hT6.fc 2
      have f3 := hT6.fc 3
      have d0 := hT6.d 0
      have d1 := hT6.d 1
      have d2 := hT6.d 2
      have d3 := hT6.d 3
      have e0 := hT6.fd 0
      have e1 := hT6.fd 1
      have e2 := hT6.fd 2
      have e3 := hT6.fd 3
      simp [tnCells, zeroTn] at c0 c1 c2 c3 d0 d1 d2 d3
      go_wp2_with fail
      go_region
      go_wp2_with fail
      go_region
      go_wp2
      rw [EV.out]
      refine bodyPost_ret (v := .tuple #[_, tnV _]) (by simp [results, Try.results54, go_sem, d0, d1, d2, d3, e0, e1, e2, e3, c0, c1, c2, c3, f0, f1, f2, f3]) rfl ⟨rfl, ?_⟩
      repeat (first | (with_reducible refine Below.drew ?_) | ((with_reducible refine Below.setCell ?_ ?hp _); case hp => simp))
      exact hT6.below
    · obtain ⟨j, r, hj, hr, _, _, hjl⟩ := fromI_ok (Int.not_lt.1 hf)
      have e1 : pickM l t' now = j := by rw [Hpick.out, if_neg (by simp), if_neg hf, hj]
      have ev := Ev.out
      rw [e1, endOf_at hr] at ev
      have EV := Lib.hid ev
      have Hr := Lib.hid hr
      rw [hj]
      clear ev Hpick Ev hj hr e1 hf
      clear c0 c1 c2 c3 d0 d1 d2 d3 f0 f1 f2 f3 e0 e1 e2 e3
      obtain ⟨s1, s2, s3, s4, s5⟩ := (good_mem hg Hr.out).span
      obtain ⟨b', off', e, _, hbl, hc⟩ := (H.out.below hT5.below).at_ (by omega)
      cases e
      obtain ⟨_, _, _, _, _, _, k1, k2, _, _, _⟩ := hc j r Hr.out
      clear hc
      have hji : (j : Int) < (l.length : Int) := by omega
      have hs : IntKind.i64.wrap (r.lo + r.many) = r.lo + r.many := IntWalk.i64_in _ (by omega)
      have c0 := hT5.c 0
      have c1 := hT5.c 1
      have c2 := hT5.c 2
      have c3 := hT5.c 3
      have f0 := hT5.fc 0
      have f1 := hT5.fc 1
      have f2 := hT5.fc 2
      have f3 := hT5.fc 3
      have d0 := hT5.d 0
      have d1 := hT5.d 1
      have d2 := hT5.d 2
      have d3 := hT5.d 3
      have e0 := hT5.fd 0
      have e1 := hT5.fd 1
      have e2 := hT5.fd 2
      have e3 := hT5.fd 3
      simp [tnCells, zeroTn] at c0 c1 c2 c3 d0 d1 d2 d3
      go_wp2_with fail
      go_region
      go_wp2_with fail
      go_region
      go_wp2
      rw [EV.out]
      refine bodyPost_ret (v := .tuple #[_, tnV _]) (by simp [results, Try.results54, go_sem, d0, d1, d2, d3, e0, e1, e2, e3, c0, c1, c2, c3, f0, f1, f2, f3]) rfl ⟨rfl, ?_⟩
      repeat (first | (with_reducible refine Below.drew ?_) | ((with_reducible refine Below.setCell ?_ ?hp _); case hp => simp))
      exact hT5.below
set_option maxRecDepth 100000 in
set_option maxHeartbeats 4000000 in
theorem next_new3 (S : Nat → Prop) (l : List Rq) (v : Value) (t : Tn) (now : Int) (w : World) (h : ReqsAt S w v l) (hg : goodReqs l = true) (hne : l ≠ []) (hst : i64 t.starved) (hn1 : 0 ≤ now) (hn2 : now ≤ 1000000000)
    (q1 : 0 < t.gone) (q2 : t.gone < 3) (q3 : fromI l t.write t.wh < 0) :
    Calls Try.prog 54 #[v, tnV t, .int .i64 now] w (Ret (nextV l t now) w) := by
  have H := Lib.hid h
  obtain ⟨A, cap, rfl, h1, h2⟩ := h.form
  unfold maxLen at h2
  clear h
  have ev : nextV l t now = .tuple #[.int .i64 (pickM l (turnedM l t) now), tnV { turnedM l t with gone := 1, wh := endOf l (pickM l (turnedM l t) now) }] := by unfold nextV; rw [nextM_new (by omega)]
  go_enter Try.func54, Try.ntmps54
  go_wp2_with fail
  have hT := Box2.start w t
  generalize ((w.alloc (Obj.cells #[Value.bool t.write, Value.int IntKind.i64 t.gone, Value.int IntKind.i64 t.starved, Value.int IntKind.i64 t.wh] 74)).alloc
    (Obj.cells #[Value.bool false, Value.int IntKind.i64 0, Value.int IntKind.i64 0, Value.int IntKind.i64 0] 74)) = W at hT ⊢
  refine (from_any S l _ t.write t.wh _ (H.out.below hT.below)).mono ?_
  rintro e w0 ⟨rfl, hb0⟩
  have hT0 := hT.step hb0
  clear hT hb0
  have hT := hT0
  clear hT0
  have c0 := hT.c 0
  have c1 := hT.c 1
  have c2 := hT.c 2
  have c3 := hT.c 3
  simp [tnCells, zeroTn] at c0 c1 c2 c3
  go_wp2_with fail
  clear c0 c1 c2 c3
  refine (turned_any S l _ t _ (H.out.below hT.below) hst (kinds hne)).mono ?_
  rintro e w1 ⟨rfl, hb1⟩
  have hT1 := hT.step hb1
  clear hT hb1
  have hold := turned_kind (t := t) hne
  generalize turnedM l t = t' at hold ev ⊢
  have c0 := hT1.c 0
  have c1 := hT1.c 1
  have c2 := hT1.c 2
  have c3 := hT1.c 3
  have f0 := hT1.fc 0
  have f1 := hT1.fc 1
  have f2 := hT1.fc 2
  have f3 := hT1.fc 3
  have d0 := hT1.d 0
  have d1 := hT1.d 1
  have d2 := hT1.d 2
  have d3 := hT1.d 3
  have e0 := hT1.fd 0
  have e1 := hT1.fd 1
  have e2 := hT1.fd 2
  have e3 := hT1.fd 3
  simp [tnCells, zeroTn] at c0 c1 c2 c3 d0 d1 d2 d3
  go_wp2_with fail
  have hT2 := (((hT1.set 0 (.bool t'.write)).set 1 (.int .i64 t'.gone)).set 2 (.int .i64 t'.starved)).set 3 (.int .i64 t'.wh)
  clear c0 c1 c2 c3 d0 d1 d2 d3 f0 f1 f2 f3 e0 e1 e2 e3
  generalize (((w1.setCell ⟨w.heap.size, 0, none⟩ (.bool t'.write)).setCell ⟨w.heap.size, 1, none⟩ (.int .i64 t'.gone)).setCell ⟨w.heap.size, 2, none⟩ (.int .i64 t'.starved)).setCell ⟨w.heap.size, 3, none⟩ (.int .i64 t'.wh) = w2 at hT2 ⊢
  have hT2 : Box2 w.heap.size w w2 (tnCells t') zeroTn := hT2
  have c0 := hT2.c 0
  have c1 := hT2.c 1
  have c2 := hT2.c 2
  have c3 := hT2.c 3
  have f0 := hT2.fc 0
  have f1 := hT2.fc 1
  have f2 := hT2.fc 2
  have f3 := hT2.fc 3
  have d0 := hT2.d 0
  have d1 := hT2.d 1
  have d2 := hT2.d 2
  have d3 := hT2.d 3
  have e0 := hT2.fd 0
  have e1 := hT2.fd 1
  have e2 := hT2.fd 2
  have e3 := hT2.fd 3
  simp [tnCells, zeroTn] at c0 c1 c2 c3 d0 d1 d2 d3
  go_wp2_with fail
  refine (oldest_any S l _ t'.write _ (H.out.below hT2.below)).mono ?_
  rintro e w3 ⟨rfl, hb3⟩
  have hT3 := hT2.step hb3
  clear hT2 hb3
  clear c0 c1 c2 c3 d0 d1 d2 d3 f0 f1 f2 f3 e0 e1 e2 e3
  have c0 := hT3.c 0
  have c1 := hT3.c 1
  have c2 := hT3.c 2
  have c3 := hT3.c 3
  have f0 := hT3.fc 0
  have f1 := hT3.fc 1
  have f2 := hT3.fc 2
  have f3 := hT3.fc 3
  have d0 := hT3.d 0
  have d1 := hT3.d 1
  have d2 := hT3.d 2
  have d3 := hT3.d 3
  have e0 := hT3.fd 0
  have e1 := hT3.fd 1
  have e2 := hT3.fd 2
  have e3 := hT3.fd 3
  simp [tnCells, zeroTn] at c0 c1 c2 c3 d0 d1 d2 d3
  obtain ⟨o, ro, ho, hro, how, hol⟩ := oldest_ok hold
  have hpick : pickM l t' now = if expB ro now then oldest l t'.write else if fromI l t'.write t'.wh < 0 then fromI l t'.write 0 else fromI l t'.write t'.wh := by
    unfold pickM
    rw [ho, Int.toNat_natCast, List.getD_eq_getElem?_getD, hro]; rfl
  rw [ho] at hpick ⊢
  have hbo := (good_mem hg hro).born
  have Hro := Lib.hid hro
  have How := Lib.hid how
  have Ho := Lib.hid ho
  clear hro how ho hold
  obtain ⟨b, off, rfl, _, hbl, hc⟩ := (H.out.below hT3.below).at_ (by omega)
  have hbB : b < w.heap.size := by
    obtain ⟨b', off', e, _, hb', _⟩ := H.out.at_ (by omega)
    cases e; exact hb'
  obtain ⟨Ad, cd, At, ct, hreq, k0, k1, k2, k3, k4, k5⟩ := hc o ro Hro.out
  clear hc
  have hoi : (o : Int) < (l.length : Int) := by omega
  have Hbo := Lib.hid hbo
  clear hbo
  cases hexp : expB ro now with
  | true =>
    rw [hexp, if_pos rfl] at hpick
    rw [hpick, endOf_at Hro.out] at ev
    have EV := Lib.hid ev
    clear ev hpick
    go_wp2_with fail
    refine (expired_any S ro _ now _ hreq hn1 hn2 Hbo.out).mono ?_
    rintro e w4 ⟨rfl, hb4⟩
    have hT4 := hT3.step hb4
    clear hT3 hb4 k0 k1 k2 k3 k4 k5 hreq hbl
    clear c0 c1 c2 c3 d0 d1 d2 d3 f0 f1 f2 f3 e0 e1 e2 e3
    obtain ⟨j, hj⟩ : ∃ j, j = o := ⟨_, rfl⟩
    subst hj
    obtain ⟨r, hr⟩ : ∃ r, r = ro := ⟨_, rfl⟩
    subst hr
    have Hr := Hro
    obtain ⟨s1, s2, s3, s4, s5⟩ := (good_mem hg Hr.out).span
    obtain ⟨b', off', e, _, hbl, hc⟩ := (H.out.below hT4.below).at_ (by omega)
    cases e
    obtain ⟨_, _, _, _, _, _, k1, k2, _, _, _⟩ := hc j r Hr.out
    clear hc
    have hji : (j : Int) < (l.length : Int) := by omega
    have hs : IntKind.i64.wrap (r.lo + r.many) = r.lo + r.many := IntWalk.i64_in _ (by omega)
    have c0 := hT4.c 0
    have c1 := hT4.c 1
    have c2 := hT4.c 2
    have c3 := hT4.c 3
    have f0 := hT4.fc 0
    have f1 := hT4.fc 1
    have f2 := hT4.fc 2
    have f3 := hT4.fc 3
    have d0 := hT4.d 0
    have d1 := hT4.d 1
    have d2 := hT4.d 2
    have d3 := hT4.d 3
    have e0 := hT4.fd 0
    have e1 := hT4.fd 1
    have e2 := hT4.fd 2
    have e3 := hT4.fd 3
    simp [tnCells, zeroTn] at c0 c1 c2 c3 d0 d1 d2 d3
    go_wp2_with fail
    go_region
    go_wp2_with fail
    go_region
    go_wp2
    rw [EV.out]
    refine bodyPost_ret (v := .tuple #[_, tnV _]) (by simp [results, Try.results54, go_sem, d0, d1, d2, d3, e0, e1, e2, e3, c0, c1, c2, c3, f0, f1, f2, f3]) rfl ⟨rfl, ?_⟩
    repeat (first | (with_reducible refine Below.drew ?_) | ((with_reducible refine Below.setCell ?_ ?hp _); case hp => simp))
    exact hT4.below
  | false =>
    rw [hexp] at hpick
    have Hpick := Lib.hid hpick
    have Ev := Lib.hid ev
    clear hpick ev
    go_wp2_with fail
    refine (expired_any S ro _ now _ hreq hn1 hn2 Hbo.out).mono ?_
    rintro e w4 ⟨rfl, hb4⟩
    have hT4 := hT3.step hb4
    clear hT3 hb4 k0 k1 k2 k3 k4 k5 hreq hbl
    clear c0 c1 c2 c3 d0 d1 d2 d3 f0 f1 f2 f3 e0 e1 e2 e3
    have c0 := hT4.c 0
    have c1 := hT4.c 1
    have c2 := hT4.c 2
    have c3 := hT4.c 3
    have f0 := hT4.fc 0
    have f1 := hT4.fc 1
    have f2 := hT4.fc 2
    have f3 := hT4.fc 3
    have d0 := hT4.d 0
    have d1 := hT4.d 1
    have d2 := hT4.d 2
    have d3 := hT4.d 3
    have e0 := hT4.fd 0
    have e1 := hT4.fd 1
    have e2 := hT4.fd 2
    have e3 := hT4.fd 3
    simp [tnCells, zeroTn] at c0 c1 c2 c3 d0 d1 d2 d3
    go_wp2_with fail
    refine (from_any S l _ t'.write t'.wh _ (H.out.below hT4.below)).mono ?_
    rintro e w5 ⟨rfl, hb5⟩
    have hT5 := hT4.step hb5
    clear hT4 hb5
    clear c0 c1 c2 c3 d0 d1 d2 d3 f0 f1 f2 f3 e0 e1 e2 e3
    have c0 := hT5.c 0
    have c1 := hT5.c 1
    have c2 := hT5.c 2
    have c3 := hT5.c 3
    have f0 := hT5.fc 0
    have f1 := hT5.fc 1
    have f2 := hT5.fc 2
    have f3 := hT5.fc 3
    have d0 := hT5.d 0
    have d1 := hT5.d 1
    have d2 := hT5.d 2
    have d3 := hT5.d 3
    have e0 := hT5.fd 0
    have e1 := hT5.fd 1
    have e2 := hT5.fd 2
    have e3 := hT5.fd 3
    simp [tnCells, zeroTn] at c0 c1 c2 c3 d0 d1 d2 d3
    by_cases hf : fromI l t'.write t'.wh < 0
    · have h0 : 0 ≤ fromI l t'.write 0 := fromI_some Hro.out How.out (good_mem hg Hro.out).span.1
      obtain ⟨j, r, hj, hr, _, _, hjl⟩ := fromI_ok h0
      have e1 : pickM l t' now = j := by rw [Hpick.out, if_neg (by simp), if_pos hf, hj]
      have ev := Ev.out
      rw [e1, endOf_at hr] at ev
      have EV := Lib.hid ev
      have Hr := Lib.hid hr
      have Hj := Lib.hid hj
      clear ev Hpick Ev hj hr h0 e1
      go_wp2_with fail
      refine (from_any S l _ t'.write 0 _ (H.out.below hT5.below)).mono ?_
      rintro e w6 ⟨rfl, hb6⟩
      have hT6 := hT5.step hb6
      clear hT5 hb6 hf
      rw [Hj.out]
      clear c0 c1 c2 c3 d0 d1 d2 d3 f0 f1 f2 f3 e0 e1 e2 e3
      obtain ⟨s1, s2, s3, s4, s5⟩ := (good_mem hg Hr.out).span
      obtain ⟨b', off', e, _, hbl, hc⟩ := (H.out.below hT6.below).at_ (by omega)
      cases e
      obtain ⟨_, _, _, _, _, _, k1, k2, _, _, _⟩ := hc j r Hr.out
      clear hc
      have hji : (j : Int) < (l.length : Int) := by omega
      have hs : IntKind.i64.wrap (r.lo + r.many) = r.lo + r.many := IntWalk.i64_in _ (by omega)
      have c0 := hT6.c 0
      have c1 := hT6.c 1
      have c2 := hT6.c 2
      have c3 := hT6.c 3
      have f0 := hT6.fc 0
      have f1 := hT6.fc 1
      have f2 := hT6.fc 2
      have f3 := hT6.fc 3
      have d0 := hT6.d 0
      have d1 := hT6.d 1
      have d2 := hT6.d 2
      have d3 := hT6.d 3
      have e0 := hT6.fd 0
      have e1 := hT6.fd 1
      have e2 := hT6.fd 2
      have e3 := hT6.fd 3
      simp [tnCells, zeroTn] at c0 c1 c2 c3 d0 d1 d2 d3
      go_wp2_with fail
      go_region
      go_wp2_with fail
      go_region
      go_wp2
      rw [EV.out]
      refine bodyPost_ret (v := .tuple #[_, tnV _]) (by simp [results, Try.results54, go_sem, d0, d1, d2, d3, e0, e1, e2, e3, c0, c1, c2, c3, f0, f1, f2, f3]) rfl ⟨rfl, ?_⟩
      repeat (first | (with_reducible refine Below.drew ?_) | ((with_reducible refine Below.setCell ?_ ?hp _); case hp => simp))
      exact hT6.below
    · obtain ⟨j, r, hj, hr, _, _, hjl⟩ := fromI_ok (Int.not_lt.1 hf)
      have e1 : pickM l t' now = j := by rw [Hpick.out, if_neg (by simp), if_neg hf, hj]
      have ev := Ev.out
      rw [e1, endOf_at hr] at ev
      have EV := Lib.hid ev
      have Hr := Lib.hid hr
      rw [hj]
      clear ev Hpick Ev hj hr e1 hf
      clear c0 c1 c2 c3 d0 d1 d2 d3 f0 f1 f2 f3 e0 e1 e2 e3
      obtain ⟨s1, s2, s3, s4, s5⟩ := (good_mem hg Hr.out).span
      obtain ⟨b', off', e, _, hbl, hc⟩ := (H.out.below hT5.below).at_ (by omega)
      cases e
      obtain ⟨_, _, _, _, _, _, k1, k2, _, _, _⟩ := hc j r Hr.out
      clear hc
      have hji : (j : Int) < (l.length : Int) := by omega
      have hs : IntKind.i64.wrap (r.lo + r.many) = r.lo + r.many := IntWalk.i64_in _ (by omega)
      have c0 := hT5.c 0
      have c1 := hT5.c 1
      have c2 := hT5.c 2
      have c3 := hT5.c 3
      have f0 := hT5.fc 0
      have f1 := hT5.fc 1
      have f2 := hT5.fc 2
      have f3 := hT5.fc 3
      have d0 := hT5.d 0
      have d1 := hT5.d 1
      have d2 := hT5.d 2
      have d3 := hT5.d 3
      have e0 := hT5.fd 0
      have e1 := hT5.fd 1
      have e2 := hT5.fd 2
      have e3 := hT5.fd 3
      simp [tnCells, zeroTn] at c0 c1 c2 c3 d0 d1 d2 d3
      go_wp2_with fail
      go_region
      go_wp2_with fail
      go_region
      go_wp2
      rw [EV.out]
      refine bodyPost_ret (v := .tuple #[_, tnV _]) (by simp [results, Try.results54, go_sem, d0, d1, d2, d3, e0, e1, e2, e3, c0, c1, c2, c3, f0, f1, f2, f3]) rfl ⟨rfl, ?_⟩
      repeat (first | (with_reducible refine Below.drew ?_) | ((with_reducible refine Below.setCell ?_ ?hp _); case hp => simp))
      exact hT5.below

theorem next_any' (S : Nat → Prop) (l : List Rq) (v : Value) (t : Tn) (now : Int) (w : World) (h : ReqsAt S w v l) (hg : goodReqs l = true) (hne : l ≠ []) (hst : i64 t.starved) (hn1 : 0 ≤ now) (hn2 : now ≤ 1000000000) :
    Calls Try.prog 54 #[v, tnV t, .int .i64 now] w (Ret (nextV l t now) w) := by
  by_cases q1 : 0 < t.gone
  · by_cases q2 : t.gone < 3
    · by_cases q3 : 0 ≤ fromI l t.write t.wh
      · exact next_on S l v t now w h hg q1 q2 q3
      · exact next_new3 S l v t now w h hg hne hst hn1 hn2 q1 q2 (by omega)
    · exact next_new2 S l v t now w h hg hne hst hn1 hn2 (by omega)
  · exact next_new1 S l v t now w h hg hne hst hn1 hn2 (by omega)
end Go.Proofs.Ytojmnfelecnenaa
namespace Go.Proofs.Ytojmnfelecnenaa
set_option linter.unusedSimpArgs false
set_option linter.unusedVariables false
open Go.RowKit Go.Sort
end Go.Proofs.Ytojmnfelecnenaa
namespace Go.Proofs.Ytojmnfelecnenaa
set_option linter.unusedSimpArgs false
set_option linter.unusedVariables false
open Go.RowKit Go.Sort
end Go.Proofs.Ytojmnfelecnenaa
namespace Go.Proofs.Ytojmnfelecnenaa
set_option linter.unusedSimpArgs false
set_option linter.unusedVariables false
open Go.RowKit Go.Sort
end Go.Proofs.Ytojmnfelecnenaa
namespace Go.Proofs.Ytojmnfelecnenaa
open Go.RowKit Go.Sort
end Go.Proofs.Ytojmnfelecnenaa
namespace Go.Proofs.Ytojmnfelecnenaa
open Go.RowKit Go.Sort

/-- What is known of a world in a round: the two spans lie in the call's own blocks. -/
structure TwoSpans (B : Nat) (w wr : World) (af am bf bm : Int) : Prop where
  below : Below B w wr
  lt : B + 1 < wr.heap.size
  b1 : wr.heap[B]? = some (.cells #[.int .i64 af, .int .i64 am] 40 (0, 0))
  b2 : wr.heap[B + 1]? = some (.cells #[.int .i64 bf, .int .i64 bm] 40 (0, 0))
theorem TwoSpans.c {B : Nat} {w wr : World} {af am bf bm : Int} (h : TwoSpans B w wr af am bf bm) :
    wr.cell? ⟨B, 0, none⟩ = some (.int .i64 af) ∧ wr.cell? ⟨B, 1, none⟩ = some (.int .i64 am) ∧ wr.cell? ⟨B + 1, 0, none⟩ = some (.int .i64 bf) ∧ wr.cell? ⟨B + 1, 1, none⟩ = some (.int .i64 bm) :=
  ⟨cell_of_row _ _ 0 _ _ _ h.b1, cell_of_row _ _ 1 _ _ _ h.b1, cell_of_row _ _ 0 _ _ _ h.b2, cell_of_row _ _ 1 _ _ _ h.b2⟩
theorem TwoSpans.next {B : Nat} {w wr w' : World} {af am bf bm : Int} (h : TwoSpans B w wr af am bf bm) (hb : Below wr.heap.size wr w') (hB : B ≤ wr.heap.size := by omega) : TwoSpans B w w' af am bf bm :=
  ⟨h.below.trans (hb.mono hB), by have := hb.size; have := h.lt; omega, (hb.block _ (by have := h.lt; omega)).trans h.b1, (hb.block _ h.lt).trans h.b2⟩

theorem TwoSpans.step {B : Nat} {w wr w' : World} {af am bf bm : Int} (h : TwoSpans B w wr af am bf bm) (hb : Below wr.heap.size wr w') : TwoSpans B w w' af am bf bm :=
  h.next hb (by have := h.lt; omega)
theorem TwoSpans.rg {B : Nat} {w wr : World} {af am bf bm : Int} (h : TwoSpans B w wr af am bf bm) :
    (∀ d os, (grow (redrawn wr d) os).cell? ⟨B, 0, none⟩ = some (.int .i64 af)) ∧ (∀ d os, (grow (redrawn wr d) os).cell? ⟨B, 1, none⟩ = some (.int .i64 am)) ∧
    (∀ d os, (grow (redrawn wr d) os).cell? ⟨B + 1, 0, none⟩ = some (.int .i64 bf)) ∧ (∀ d os, (grow (redrawn wr d) os).cell? ⟨B + 1, 1, none⟩ = some (.int .i64 bm)) :=
  ⟨fun _ _ => cell_regrown h.c.1 _ _, fun _ _ => cell_regrown h.c.2.1 _ _, fun _ _ => cell_regrown h.c.2.2.1 _ _, fun _ _ => cell_regrown h.c.2.2.2 _ _⟩
theorem meet_of_has {af am bf bm k : Int} (hx : hasB af am k = true) (hy : hasB bf bm k = true) : meetB af am bf bm = true := by
  simp [hasB, meetB] at *; omega
theorem not_meet {af am bf bm : Int} (ha : SpanOk af am 32) (hb : SpanOk bf bm 32) (h : ∀ k, 0 ≤ k → k < 32 → ¬ (hasB af am k = true ∧ hasB bf bm k = true)) : meetB af am bf bm = false := by
  obtain ⟨a1, a2, a3, a4, a5⟩ := ha
  obtain ⟨b1, b2, b3, b4, b5⟩ := hb
  have h1 := h (if af ≤ bf then bf else af) (by split <;> omega) (by split <;> omega)
  by_cases c : af ≤ bf
  · rw [if_pos c] at h1
    simp [hasB] at h1
    simp [meetB]; omega
  · rw [if_neg c] at h1
    simp [hasB] at h1
    simp [meetB]; omega

end Go.Proofs.Ytojmnfelecnenaa
namespace Go.Proofs.Ytojmnfelecnenaa
open Go.RowKit Go.Sort

end Go.Proofs.Ytojmnfelecnenaa
namespace Go.Proofs.Ytojmnfelecnenaa
open Go.RowKit Go.Sort

/-- A list of one request without data, with one tag, as a literal makes it. -/
theorem reqs_one {S : Nat → Prop} {w : World} {g g0 : Nat} {wb : Bool} {lo many tag born : Int} {T T' : TypeId} (hS : ∀ b, S b)
    (h1 : w.heap[g]? = some (.cells #[.bool wb, .int .i64 lo, .int .i64 many, .slice none 0 0, .slice (some ⟨g0, 0, none⟩) 1 1, .int .i64 born] T (0, 0)))
    (h0 : w.heap[g0]? = some (.cells #[.int .i64 tag] T' (0, 0))) (b1 : i64 lo) (b2 : i64 many) (b3 : i64 tag) (b4 : i64 born) :
    ReqsAt S w (.slice (some ⟨g, 0, none⟩) 1 1) [⟨wb, lo, many, [], [tag], born⟩] := by
  refine ⟨[⟨⟨wb, lo, many, [], [tag], born⟩, .slice none 0 0, .slice (some ⟨g0, 0, none⟩) 1 1⟩], rfl, ⟨some ⟨g, 0, none⟩, 1, rfl, Nat.le_refl _, by simp [maxLen], rfl, fun _ => ⟨g, 0, rfl, hS _, fun j u hj => ?_⟩⟩, ?_⟩
  · rw [cell_of_row _ _ _ _ _ _ h1]
    simpa [Rc.cells] using hj
  · intro c hc
    simp at hc
    subst hc
    exact ⟨⟨Rd.nil, by simp⟩, ⟨⟨some ⟨g0, 0, none⟩, 1, rfl, Nat.le_refl _, by simp [maxLen], rfl, fun _ => ⟨g0, 0, rfl, hS _, fun j u hj => by rw [cell_of_row _ _ _ _ _ _ h0]; simpa using hj⟩⟩, by intro x hx; simp at hx; subst hx; exact b3⟩, b1, b2, b4⟩

abbrev oneR : Rq := ⟨false, 3, 1, [], [1], 0⟩
theorem one_good : goodReqs [oneR] = true := by decide
theorem one_next : nextV [oneR] ⟨false, 0, 0, 0⟩ 0 = .tuple #[.int .i64 0, tnV ⟨false, 1, 0, 4⟩] := by
  have : nextM [oneR] ⟨false, 0, 0, 0⟩ 0 = (0, ⟨false, 1, 0, 4⟩) := by decide
  unfold nextV; rw [this]

/-- A turn lies in the call's own block. -/
structure TnBox (B : Nat) (w wr : World) (t : Tn) : Prop where
  below : Below B w wr
  lt : B < wr.heap.size
  b1 : wr.heap[B]? = some (.cells (tnCells t) 74 (0, 0))
theorem TnBox.c {B : Nat} {w wr : World} {t : Tn} (h : TnBox B w wr t) : wr.cell? ⟨B, 0, none⟩ = some (.bool t.write) ∧ wr.cell? ⟨B, 1, none⟩ = some (.int .i64 t.gone) ∧ wr.cell? ⟨B, 2, none⟩ = some (.int .i64 t.starved) ∧ wr.cell? ⟨B, 3, none⟩ = some (.int .i64 t.wh) :=
  ⟨cell_of_row _ _ 0 _ _ _ h.b1, cell_of_row _ _ 1 _ _ _ h.b1, cell_of_row _ _ 2 _ _ _ h.b1, cell_of_row _ _ 3 _ _ _ h.b1⟩
theorem TnBox.step {B : Nat} {w wr w' : World} {t : Tn} (h : TnBox B w wr t) (hb : Below wr.heap.size wr w') : TnBox B w w' t :=
  ⟨h.below.trans (hb.mono (by have := h.lt; omega)), by have := hb.size; have := h.lt; omega, (hb.block _ h.lt).trans h.b1⟩
theorem TnBox.start (w : World) (t : Tn) : TnBox w.heap.size w (w.alloc (Obj.cells #[Value.bool t.write, Value.int IntKind.i64 t.gone, Value.int IntKind.i64 t.starved, Value.int IntKind.i64 t.wh] 74)) t :=
  ⟨(Below.refl _ _).alloc (Nat.le_refl _) _, by simp, heap_alloc_new _ _⟩

end Go.Proofs.Ytojmnfelecnenaa
namespace Go.Proofs.Ytojmnfelecnenaa
set_option linter.unusedSimpArgs false
set_option linter.unusedVariables false
open Go.RowKit

def Apart (a b : Rq) : Prop := meetB b.lo b.many a.lo a.many = false
theorem meetB_comm (a b c d : Int) : meetB a b c d = meetB c d a b := by unfold meetB; exact Bool.and_comm _ _
theorem Apart.symm {a b : Rq} (h : Apart a b) : Apart b a := by unfold Apart at *; rw [meetB_comm]; exact h
theorem good_iff (l : List Rq) : goodReqs l = true ↔ (∀ r ∈ l, reqF r = 0) ∧ l.Pairwise Apart := by
  unfold goodReqs
  rw [List.all_eq_true, List.pairwise_iff_getElem]
  constructor
  · intro h
    have key : ∀ i (hi : i < l.length), reqF l[i] = 0 ∧ apartFrom l[i] (l.take i) = true := by
      intro i hi
      have := h i (List.mem_range.2 hi)
      rw [okAt_some (List.getElem?_eq_getElem hi)] at this
      simpa using this
    constructor
    · intro r hr
      obtain ⟨i, hi, rfl⟩ := List.getElem_of_mem hr
      exact (key i hi).1
    · intro i j hi hj hij
      have := (key j hj).2
      unfold apartFrom at this
      rw [List.all_eq_true] at this
      have h2 := this l[i] (List.mem_iff_getElem?.2 ⟨i, by rw [List.getElem?_take, if_pos hij]; exact List.getElem?_eq_getElem hi⟩)
      simpa [Apart] using h2
  · rintro ⟨h1, h2⟩ i hi
    rw [List.mem_range] at hi
    rw [okAt_some (List.getElem?_eq_getElem hi)]
    simp only [Bool.and_eq_true, decide_eq_true_eq]
    refine ⟨h1 _ (List.getElem_mem hi), ?_⟩
    unfold apartFrom
    rw [List.all_eq_true]
    intro q hq
    obtain ⟨j, hj⟩ := List.mem_iff_getElem?.1 hq
    rw [List.getElem?_take] at hj
    split at hj
    · rename_i hji
      rw [List.getElem?_eq_getElem (by omega)] at hj
      cases hj
      have := h2 j i (by omega) hi hji
      simpa [Apart] using this
    · cases hj
theorem good_erase {l : List Rq} (h : goodReqs l = true) (i : Nat) : goodReqs (l.eraseIdx i) = true := by
  rw [good_iff] at *
  exact ⟨fun r hr => h.1 r (List.mem_of_mem_eraseIdx hr), h.2.sublist (List.eraseIdx_sublist _ _)⟩
theorem pairwise_perm {l l' : List Rq} (h : l.Perm l') (hp : l.Pairwise Apart) : l'.Pairwise Apart :=
  (h.pairwise_iff (fun {a b} hab => Apart.symm hab)).1 hp
theorem good_perm {l l' : List Rq} (h : l.Perm l') (hg : goodReqs l = true) : goodReqs l' = true := by
  rw [good_iff] at *
  exact ⟨fun r hr => hg.1 r (h.mem_iff.2 hr), pairwise_perm h hg.2⟩
theorem perm_back {l : List Rq} {i : Nat} {r : Rq} (h : l[i]? = some r) : l.Perm (l.eraseIdx i ++ [r]) := by
  have hi : i < l.length := by
    rcases Nat.lt_or_ge i l.length with h1 | h1
    · exact h1
    · rw [List.getElem?_eq_none h1] at h; cases h
  have e : r = l[i] := by rw [List.getElem?_eq_getElem hi] at h; cases h; rfl
  rw [e, List.eraseIdx_eq_take_drop_succ]
  have h2 : l = l.take i ++ (l[i] :: l.drop (i + 1)) := by rw [← List.drop_eq_getElem_cons hi, List.take_append_drop]
  rw [List.append_assoc]
  conv => lhs; rw [h2]
  exact List.Perm.append_left _ (List.perm_append_comm (l₁ := [l[i]]))

theorem pick_kind {l : List Rq} {t' : Tn} {now : Int} (hg : goodReqs l = true) (h : 0 ≤ oldest l t'.write) : ∃ (j : Nat) (r : Rq), pickM l t' now = j ∧ l[j]? = some r ∧ j < l.length ∧ r.write = t'.write := by
  obtain ⟨o, r, ho, hr, hw, hlt⟩ := oldest_ok h
  unfold pickM
  split
  · exact ⟨o, r, ho, hr, hlt, hw⟩
  · split
    · have h0 : 0 ≤ fromI l t'.write 0 := fromI_some hr hw (good_mem hg hr).span.1
      obtain ⟨j, r', hj, hr', hw', _, hl⟩ := fromI_ok h0
      exact ⟨j, r', hj, hr', hl, hw'⟩
    · rename_i hn
      obtain ⟨j, r', hj, hr', hw', _, hl⟩ := fromI_ok (Int.not_lt.1 hn)
      exact ⟨j, r', hj, hr', hl, hw'⟩

/-- What is known of the one that is next. -/
structure NextIs (l : List Rq) (t : Tn) (now : Int) (j : Nat) (r : Rq) (t' : Tn) : Prop where
  eq : nextM l t now = ((j : Int), t')
  get : l[j]? = some r
  lt : j < l.length
  kind : r.write = t'.write
  gone : 1 ≤ t'.gone ∧ t'.gone ≤ 3
  wh : t'.wh = r.lo + r.many
  on : 1 < t'.gone → t'.write = t.write ∧ t.wh ≤ r.lo
  st : 0 ≤ t.starved → t.starved ≤ 2 → 0 ≤ t'.starved ∧ t'.starved ≤ 2
  st64 : i64 t.starved → i64 t'.starved
theorem turned_starved (l : List Rq) (t : Tn) : ((turnedM l t).starved = t.starved) ∨ (turnedM l t).starved = 0 ∨ ((turnedM l t).starved = t.starved + 1 ∧ t.starved < 2) ∨ (oldest l false < 0 ∧ oldest l true < 0) := by
  unfold turnedM
  split
  · left; rfl
  · rename_i h1
    split
    · right; left; rfl
    · rename_i h2
      right; right
      rcases Int.lt_or_le (oldest l true) 0 with h3 | h3
      · rcases Int.lt_or_le (oldest l false) 0 with h4 | h4
        · right; exact ⟨h4, h3⟩
        · exact absurd ⟨h4, by omega⟩ h1
      · left
        refine ⟨rfl, ?_⟩
        rcases Int.lt_or_le t.starved 2 with h4 | h4
        · exact h4
        · exact absurd ⟨h3, .inr h4⟩ h2
theorem next_is {l : List Rq} (t : Tn) (now : Int) (hg : goodReqs l = true) (hne : l ≠ []) : ∃ j r t', NextIs l t now j r t' := by
  by_cases h : 0 < t.gone ∧ t.gone < 3 ∧ 0 ≤ fromI l t.write t.wh
  · obtain ⟨h1, h2, h3⟩ := h
    obtain ⟨j, r, hj, hr, hw, hlo, hl⟩ := fromI_ok h3
    refine ⟨j, r, { t with gone := t.gone + 1, wh := endOf l (fromI l t.write t.wh) }, ⟨?_, hr, hl, hw, by simp; omega, ?_, fun _ => ⟨rfl, hlo⟩, fun a b => ⟨a, b⟩, id⟩⟩
    · rw [nextM_on h1 h2 h3, hj]
    · show endOf l (fromI l t.write t.wh) = _
      rw [hj, endOf_at hr]
  · obtain ⟨j, r, hj, hr, hl, hw⟩ := pick_kind (now := now) hg (turned_kind (t := t) hne)
    have hk := kinds hne
    refine ⟨j, r, { turnedM l t with gone := 1, wh := endOf l (pickM l (turnedM l t) now) }, ⟨?_, hr, hl, hw, by simp, ?_, by simp, fun a b => ?_, fun a => ?_⟩⟩
    · rw [nextM_new h, hj]
    · show endOf l (pickM l (turnedM l t) now) = _
      rw [hj, endOf_at hr]
    · show 0 ≤ (turnedM l t).starved ∧ (turnedM l t).starved ≤ 2
      rcases turned_starved l t with h | h | h | h <;> omega
    · show i64 (turnedM l t).starved
      unfold i64 at *
      rcases turned_starved l t with h | h | h | h <;> omega
end Go.Proofs.Ytojmnfelecnenaa
namespace Go.Proofs.Ytojmnfelecnenaa
set_option linter.unusedSimpArgs false
set_option linter.unusedVariables false
open Go.RowKit Go.Sort

theorem TnBox.f {B : Nat} {w wr : World} {t : Tn} (h : TnBox B w wr t) : wr.frozen? ⟨B, 0, none⟩ = false ∧ wr.frozen? ⟨B, 1, none⟩ = false ∧ wr.frozen? ⟨B, 2, none⟩ = false ∧ wr.frozen? ⟨B, 3, none⟩ = false :=
  ⟨frozen_of_row _ _ 0 _ _ h.b1, frozen_of_row _ _ 1 _ _ h.b1, frozen_of_row _ _ 2 _ _ h.b1, frozen_of_row _ _ 3 _ _ h.b1⟩
theorem TnBox.put {B : Nat} {w wr : World} {t : Tn} (h : TnBox B w wr t) (t' : Tn) : TnBox B w ((((wr.setCell ⟨B, 0, none⟩ (.bool t'.write)).setCell ⟨B, 1, none⟩ (.int .i64 t'.gone)).setCell ⟨B, 2, none⟩ (.int .i64 t'.starved)).setCell ⟨B, 3, none⟩ (.int .i64 t'.wh)) t' := by
  refine ⟨((((h.below.setCell (Nat.le_refl _) _).setCell (Nat.le_refl _) _).setCell (Nat.le_refl _) _).setCell (Nat.le_refl _) _), by simpa using h.lt, ?_⟩
  have h1 := heap_setCell_same _ _ 0 _ _ (.bool t'.write) h.b1
  have h2 := heap_setCell_same _ _ 1 _ _ (.int .i64 t'.gone) h1
  have h3 := heap_setCell_same _ _ 2 _ _ (.int .i64 t'.starved) h2
  have h4 := heap_setCell_same _ _ 3 _ _ (.int .i64 t'.wh) h3
  rw [h4]; rfl
theorem put_below (B : Nat) (wr : World) (t' : Tn) : Below B wr ((((wr.setCell ⟨B, 0, none⟩ (.bool t'.write)).setCell ⟨B, 1, none⟩ (.int .i64 t'.gone)).setCell ⟨B, 2, none⟩ (.int .i64 t'.starved)).setCell ⟨B, 3, none⟩ (.int .i64 t'.wh)) := by
  repeat ((with_reducible refine Below.setCell ?_ ?hp _); case hp => simp)
  exact Below.refl _ _
theorem put_other (B : Nat) (wr : World) (t' : Tn) (b : Nat) (hb : b ≠ B) : ((((wr.setCell ⟨B, 0, none⟩ (.bool t'.write)).setCell ⟨B, 1, none⟩ (.int .i64 t'.gone)).setCell ⟨B, 2, none⟩ (.int .i64 t'.starved)).setCell ⟨B, 3, none⟩ (.int .i64 t'.wh)).heap[b]? = wr.heap[b]? := by
  repeat (rw [heap_setCell_other _ _ _ _ (by simpa using hb)])
theorem light_len {l : List Rq} (h : lightReqs l = true) : l.length ≤ 10 := by
  unfold lightReqs at h; simp at h; exact h.1

end Go.Proofs.Ytojmnfelecnenaa
