/- SameTexts, SameNumbers, SameReq, SameReqs: two lists, two requests. A stack that writes nothing any more: it stays so, and answers so. It always goes on: what is left to be done is less behind each round. It always goes on: each step, and each round. It always goes on: the end of a request; a round; all becomes quiet. While somebody waits, or something, something can be done; it becomes quiet, and is quiet again. The number of an error. -/
import Derived.Test.YtojmnfelecnenaaQ1
import Derived.Test.YtojmnfelecnenaaQ2
import Derived.Test.YtojmnfelecnenaaQ10
import Derived.Test.YtojmnfelecnenaaQ13
namespace Go.Proofs.Ytojmnfelecnenaa
set_option linter.unusedSimpArgs false
set_option linter.unusedVariables false
open Go.RowKit Go.Sort

theorem take_eq_succ {α : Type} (a b : List α) (k : Nat) (x : α) (h : a.take k = b.take k) (ha : a[k]? = some x) (hb : b[k]? = some x) : a.take (k + 1) = b.take (k + 1) := by
  rw [List.take_add_one, List.take_add_one, h, ha, hb]
theorem take_eq_end {α : Type} (a b : List α) (k : Nat) (h : a.take k = b.take k) (hl : a.length = b.length) (hk : a.length ≤ k) : a = b := by
  rwa [List.take_of_length_le hk, List.take_of_length_le (by omega)] at h
theorem ne_at {α : Type} (a b : List α) (k : Nat) (x y : α) (ha : a[k]? = some x) (hb : b[k]? = some y) (h : x ≠ y) : ¬ a = b := fun e => h (by rw [e, hb] at ha; cases ha; rfl)
theorem str_ne {s t : ByteArray} (h : ¬ s = t) : (!s.toList == t.toList) = true := by
  have : ¬ s.toList = t.toList := fun e => h (by
    rw [ByteArray.toList_eq, ByteArray.toList_eq] at e
    exact Go.WideShapes.bytes_inj e)
  simp [this]
/-- Are the two the same? -/
def eqB {α : Type} [DecidableEq α] (a b : α) : Bool := decide (a = b)
theorem eqB_true {α : Type} [DecidableEq α] {a b : α} (h : a = b) : eqB a b = true := by simp [eqB, h]
theorem eqB_false {α : Type} [DecidableEq α] {a b : α} (h : ¬ a = b) : eqB a b = false := by simp [eqB, h]

set_option maxRecDepth 100000 in
theorem sametexts_any (S : Nat → Prop) (a b : List ByteArray) (va vb : Value) (w : World) (ha : StrsAt S w va a) (hb : StrsAt S w vb b) :
    Calls Try.prog 32 #[va, vb] w (Ret (.bool (eqB a b)) w) := by
  obtain ⟨A, ca, rfl, h1, h2⟩ := ha.form
  obtain ⟨B, cb, rfl, h3, h4⟩ := hb.form
  unfold maxLen at h2 h4
  have Ha := Lib.hid ha
  have Hb := Lib.hid hb
  clear ha hb
  by_cases hn : a.length = b.length
  · have hn' : ((a.length : Int) != (b.length : Int)) = false := by simp [hn]
    go_enter Try.func32, Try.ntmps32
    go_wp2
    go_loopw [5] (fun i wr => ∃ k : Nat, k ≤ a.length ∧ i = .int .i64 k ∧ Below w.heap.size w wr ∧ Hid (a.take k = b.take k)) (fun i _ => a.length - (intOf i).toNat)
    case atStart => exact ⟨0, by omega, rfl, Below.refl _ _, rfl⟩
    case round =>
      obtain ⟨k, hk, rfl, hw, hall⟩ := hrel
      by_cases hlt : k < a.length
      · obtain ⟨ba, oa, rfl, _, hba, hca⟩ := (Ha.out.below hw).at_ (by omega)
        obtain ⟨bb, ob, rfl, _, hbb, hcb⟩ := (Hb.out.below hw).at_ (by omega)
        have hx : a[k]? = some a[k] := List.getElem?_eq_getElem hlt
        have hy : b[k]? = some (b[k]'(by omega)) := List.getElem?_eq_getElem (by omega)
        have hxc := hca k _ hx
        have hyc := hcb k _ hy
        obtain ⟨hxc, hsx⟩ := hxc
        obtain ⟨hyc, hsy⟩ := hyc
        clear hca hcb
        have Hx := Lib.hid hx
        have Hy := Lib.hid hy
        clear hx hy
        generalize a[k] = s at *
        generalize b[k]'(by omega) = t at *
        have hk1 : (k : Int) < (a.length : Int) := by omega
        have hk2 : (k : Int) < (b.length : Int) := by omega
        by_cases hs : s = t
        · subst hs
          go_wp2_with go_region
          go_roundw
          case rel => exact ⟨k + 1, by omega, by go_num, hw.drew, take_eq_succ _ _ _ _ hall.out Hx.out Hy.out⟩
          case measure => simp [intOf]; omega
        · have hs' := str_ne hs
          go_wp2_with go_region
          go_ret
          exact ⟨by rw [eqB_false (ne_at _ _ _ _ _ Hx.out Hy.out hs)]; rfl, hw.drew⟩
      · go_wp2
        go_ret
        exact ⟨by rw [eqB_true (take_eq_end _ _ _ hall.out hn (by omega))]; rfl, hw⟩
  · have hn' : ((a.length : Int) != (b.length : Int)) = true := by simp; omega
    rw [eqB_false (fun e => hn (by rw [e]))]
    go_enter Try.func32, Try.ntmps32
    go_wp2
    go_ret
    exact ⟨rfl, Below.refl _ _⟩

set_option maxRecDepth 100000 in
theorem samenumbers_any (S : Nat → Prop) (a b : List Int) (va vb : Value) (w : World) (ha : IntsAt S w va a) (hb : IntsAt S w vb b) :
    Calls Try.prog 66 #[va, vb] w (Ret (.bool (eqB a b)) w) := by
  obtain ⟨A, ca, rfl, h1, h2⟩ := ha.form
  obtain ⟨B, cb, rfl, h3, h4⟩ := hb.form
  unfold maxLen at h2 h4
  have Ha := Lib.hid ha
  have Hb := Lib.hid hb
  clear ha hb
  by_cases hn : a.length = b.length
  · have hn' : ((a.length : Int) != (b.length : Int)) = false := by simp [hn]
    go_enter Try.func66, Try.ntmps66
    go_wp2
    go_loopw [5] (fun i wr => ∃ k : Nat, k ≤ a.length ∧ i = .int .i64 k ∧ Below w.heap.size w wr ∧ Hid (a.take k = b.take k)) (fun i _ => a.length - (intOf i).toNat)
    case atStart => exact ⟨0, by omega, rfl, Below.refl _ _, rfl⟩
    case round =>
      obtain ⟨k, hk, rfl, hw, hall⟩ := hrel
      by_cases hlt : k < a.length
      · obtain ⟨ba, oa, rfl, _, hba, hca⟩ := (Ha.out.below hw).at_ (by omega)
        obtain ⟨bb, ob, rfl, _, hbb, hcb⟩ := (Hb.out.below hw).at_ (by omega)
        have hx : a[k]? = some a[k] := List.getElem?_eq_getElem hlt
        have hy : b[k]? = some (b[k]'(by omega)) := List.getElem?_eq_getElem (by omega)
        have hxc := hca k _ hx
        have hyc := hcb k _ hy
        obtain ⟨hxc, hsx⟩ := hxc
        obtain ⟨hyc, hsy⟩ := hyc
        clear hca hcb
        have Hx := Lib.hid hx
        have Hy := Lib.hid hy
        clear hx hy
        generalize a[k] = s at *
        generalize b[k]'(by omega) = t at *
        have hk1 : (k : Int) < (a.length : Int) := by omega
        have hk2 : (k : Int) < (b.length : Int) := by omega
        by_cases hs : s = t
        · subst hs
          go_wp2_with go_region
          go_roundw
          case rel => exact ⟨k + 1, by omega, by go_num, hw.drew, take_eq_succ _ _ _ _ hall.out Hx.out Hy.out⟩
          case measure => simp [intOf]; omega
        · skip
          go_wp2_with go_region
          go_ret
          exact ⟨by rw [eqB_false (ne_at _ _ _ _ _ Hx.out Hy.out hs)]; rfl, hw.drew⟩
      · go_wp2
        go_ret
        exact ⟨by rw [eqB_true (take_eq_end _ _ _ hall.out hn (by omega))]; rfl, hw⟩
  · have hn' : ((a.length : Int) != (b.length : Int)) = true := by simp; omega
    rw [eqB_false (fun e => hn (by rw [e]))]
    go_enter Try.func66, Try.ntmps66
    go_wp2
    go_ret
    exact ⟨rfl, Below.refl _ _⟩

/-- Two requests in the call's own blocks. -/
structure RSt (B : Nat) (w wr : World) (x y : Rq) (xd xt yd yt : Value) : Prop where
  below : Below B w wr
  b0 : wr.heap[B]? = some (.cells #[.bool x.write, .int .i64 x.lo, .int .i64 x.many, xd, xt, .int .i64 x.born] 44 (0, 0))
  b1 : wr.heap[B + 1]? = some (.cells #[.bool y.write, .int .i64 y.lo, .int .i64 y.many, yd, yt, .int .i64 y.born] 44 (0, 0))
  lt : B + 1 < wr.heap.size
section
variable {B : Nat} {w wr w' : World} {x y : Rq} {xd xt yd yt : Value}
theorem RSt.step (h : RSt B w wr x y xd xt yd yt) (hb : Below wr.heap.size wr w') : RSt B w w' x y xd xt yd yt :=
  have := h.lt
  ⟨h.below.trans (hb.mono (by omega)), (hb.block _ (by omega)).trans h.b0, (hb.block _ (by omega)).trans h.b1, by have := hb.size; omega⟩
theorem RSt.limbs (h : RSt B w wr x y xd xt yd yt) :
    wr.cell? ⟨B, 0, none⟩ = some (.bool x.write) ∧ wr.cell? ⟨B, 1, none⟩ = some (.int .i64 x.lo) ∧ wr.cell? ⟨B, 2, none⟩ = some (.int .i64 x.many) ∧ wr.cell? ⟨B, 3, none⟩ = some xd ∧ wr.cell? ⟨B, 4, none⟩ = some xt ∧ wr.cell? ⟨B, 5, none⟩ = some (.int .i64 x.born) ∧
    wr.cell? ⟨B + 1, 0, none⟩ = some (.bool y.write) ∧ wr.cell? ⟨B + 1, 1, none⟩ = some (.int .i64 y.lo) ∧ wr.cell? ⟨B + 1, 2, none⟩ = some (.int .i64 y.many) ∧ wr.cell? ⟨B + 1, 3, none⟩ = some yd ∧ wr.cell? ⟨B + 1, 4, none⟩ = some yt ∧ wr.cell? ⟨B + 1, 5, none⟩ = some (.int .i64 y.born) :=
  ⟨cell_of_row _ _ 0 _ _ _ h.b0, cell_of_row _ _ 1 _ _ _ h.b0, cell_of_row _ _ 2 _ _ _ h.b0, cell_of_row _ _ 3 _ _ _ h.b0, cell_of_row _ _ 4 _ _ _ h.b0, cell_of_row _ _ 5 _ _ _ h.b0,
    cell_of_row _ _ 0 _ _ _ h.b1, cell_of_row _ _ 1 _ _ _ h.b1, cell_of_row _ _ 2 _ _ _ h.b1, cell_of_row _ _ 3 _ _ _ h.b1, cell_of_row _ _ 4 _ _ _ h.b1, cell_of_row _ _ 5 _ _ _ h.b1⟩
end
theorem RSt.start (w : World) (x y : Rq) (xd xt yd yt : Value) : RSt w.heap.size w ((w.alloc (Obj.cells #[Value.bool x.write, Value.int IntKind.i64 x.lo, Value.int IntKind.i64 x.many, xd, xt, Value.int IntKind.i64 x.born] 44)).alloc (Obj.cells #[Value.bool y.write, Value.int IntKind.i64 y.lo, Value.int IntKind.i64 y.many, yd, yt, Value.int IntKind.i64 y.born] 44)) x y xd xt yd yt :=
  ⟨((Below.refl _ _).alloc (Nat.le_refl _) _).alloc (by simp) _, heap_alloc2_old _ _ _, heap_alloc2_new _ _ _, by simp⟩
def sameB (a b : Rq) : Bool := eqB a.data b.data && (eqB a.tags b.tags && (eqB a.write b.write && (eqB a.lo b.lo && (eqB a.many b.many && eqB a.born b.born))))
theorem sameB_true {a b : Rq} : sameB a b = true ↔ a = b := by
  obtain ⟨a1, a2, a3, a4, a5, a6⟩ := a
  obtain ⟨b1, b2, b3, b4, b5, b6⟩ := b
  simp [sameB, eqB]
  constructor
  · rintro ⟨rfl, rfl, rfl, rfl, rfl, rfl⟩; simp
  · rintro ⟨rfl, rfl, rfl, rfl, rfl, rfl⟩; simp
set_option maxRecDepth 100000 in
theorem samereq_any (S : Nat → Prop) (a b : Rq) (va vb : Value) (w : World) (ha : ReqAt S w va a) (hb : ReqAt S w vb b) :
    Calls Try.prog 47 #[va, vb] w (Ret (.bool (sameB a b)) w) := by
  obtain ⟨Ad, cd, At, ct, rfl, had, hat, adl, atl, _, _, _⟩ := ha.opened
  obtain ⟨Bd, dd, Bt, dt, rfl, hbd, hbt, bdl, btl, _, _, _⟩ := hb.opened
  have Had := Lib.hid had
  have Hat := Lib.hid hat
  have Hbd := Lib.hid hbd
  have Hbt := Lib.hid hbt
  clear had hat hbd hbt ha hb
  generalize hsb : sameB a b = sb
  have Hs := Lib.hid hsb
  clear hsb
  go_enter Try.func47, Try.ntmps47
  go_wp2_with fail
  have hM := RSt.start w a b (.slice Ad a.data.length cd) (.slice At a.tags.length ct) (.slice Bd b.data.length dd) (.slice Bt b.tags.length dt)
  generalize ((w.alloc (Obj.cells #[Value.bool a.write, Value.int IntKind.i64 a.lo, Value.int IntKind.i64 a.many, (Value.slice Ad a.data.length cd), (Value.slice At a.tags.length ct), Value.int IntKind.i64 a.born] 44)).alloc (Obj.cells #[Value.bool b.write, Value.int IntKind.i64 b.lo, Value.int IntKind.i64 b.many, (Value.slice Bd b.data.length dd), (Value.slice Bt b.tags.length dt), Value.int IntKind.i64 b.born] 44)) = W at hM ⊢
  refine (sametexts_any S _ _ _ _ _ (Had.out.below hM.below) (Hbd.out.below hM.below)).mono ?_
  rintro e w1 ⟨rfl, hb1⟩
  have hM1 := hM.step hb1
  clear hM hb1
  obtain ⟨⟨c0, c1, c2, c3, c4, c5, d0, d1, d2, d3, d4, d5⟩⟩ : Nonempty _ := ⟨hM1.limbs⟩
  go_wp2_with fail
  refine (samenumbers_any S _ _ _ _ _ (Hat.out.below hM1.below) (Hbt.out.below hM1.below)).mono ?_
  rintro e w2 ⟨rfl, hb2⟩
  have hM2 := hM1.step hb2
  clear hM1 hb2 c0 c1 c2 c3 c4 c5 d0 d1 d2 d3 d4 d5
  obtain ⟨⟨c0, c1, c2, c3, c4, c5, d0, d1, d2, d3, d4, d5⟩⟩ : Nonempty _ := ⟨hM2.limbs⟩
  go_wp2_with fail
  all_goals
    go_ret
    clear c0 c1 c2 c3 c4 c5 d0 d1 d2 d3 d4 d5
    refine ⟨congrArg (fun t => Ending.returned (Value.bool t)) (?_ : _ = sb), hM2.below⟩
    rw [← Hs.out]
    simp_all [sameB, eqB]

def sameLB : List Rq → List Rq → Bool
  | [], [] => true
  | a :: l, b :: m => sameB a b && sameLB l m
  | _, _ => false
theorem sameLB_true {l m : List Rq} : sameLB l m = true ↔ l = m := by
  induction l generalizing m with
  | nil => cases m <;> simp [sameLB]
  | cons a l ih => cases m <;> simp [sameLB, sameB_true, ih]
theorem sameLB_false {l m : List Rq} (h : ¬ l = m) : sameLB l m = false := by
  rw [← Bool.not_eq_true, sameLB_true]; exact h
set_option maxRecDepth 100000 in
theorem samereqs_any (S : Nat → Prop) (a b : List Rq) (va vb : Value) (w : World) (ha : ReqsAt S w va a) (hb : ReqsAt S w vb b) :
    Calls Try.prog 30 #[va, vb] w (Ret (.bool (sameLB a b)) w) := by
  obtain ⟨A, ca, rfl, h1, h2⟩ := ha.form
  obtain ⟨B, cb, rfl, h3, h4⟩ := hb.form
  unfold maxLen at h2 h4
  have Ha := Lib.hid ha
  have Hb := Lib.hid hb
  clear ha hb
  by_cases hn : a.length = b.length
  · have hn' : ((a.length : Int) != (b.length : Int)) = false := by simp [hn]
    have Hn := Lib.hid hn
    clear hn
    go_enter Try.func30, Try.ntmps30
    go_wp2
    go_loopw [5] (fun i wr => ∃ k : Nat, k ≤ a.length ∧ i = .int .i64 k ∧ Below w.heap.size w wr ∧ Hid (a.take k = b.take k)) (fun i _ => a.length - (intOf i).toNat)
    case atStart => exact ⟨0, by omega, rfl, Below.refl _ _, rfl⟩
    case round =>
      obtain ⟨k, hk, rfl, hw, hall⟩ := hrel
      by_cases hlt : k < a.length
      · obtain ⟨ba, oa, rfl, _, hba, hca⟩ := (Ha.out.below hw).at_ (by omega)
        obtain ⟨bb, ob, rfl, _, hbb, hcb⟩ := (Hb.out.below hw).at_ (by have := Hn.out; omega)
        have hx : a[k]? = some a[k] := List.getElem?_eq_getElem hlt
        have hy : b[k]? = some (b[k]'(by have := Hn.out; omega)) := List.getElem?_eq_getElem (by have := Hn.out; omega)
        obtain ⟨Ad, cd, At, ct, hokx, k0, k1, k2, k3, k4, k5⟩ := hca k _ hx
        obtain ⟨Bd, dd, Bt, dt, hoky, j0, j1, j2, j3, j4, j5⟩ := hcb k _ hy
        clear hca hcb
        have Hx := Lib.hid hx
        have Hy := Lib.hid hy
        clear hx hy
        generalize a[k] = s at *
        generalize b[k]'(by have := Hn.out; omega) = t at *
        have hk1 : (k : Int) < (a.length : Int) := by omega
        have hk2 : (k : Int) < (b.length : Int) := by have := Hn.out; omega
        have Hokx := Lib.hid hokx
        have Hoky := Lib.hid hoky
        clear hokx hoky
        go_wp2_with fail
        have k0 := cell_regrown k0
        have k1 := cell_regrown k1
        have k2 := cell_regrown k2
        have k3 := cell_regrown k3
        have k4 := cell_regrown k4
        have k5 := cell_regrown k5
        have j0 := cell_regrown j0
        have j1 := cell_regrown j1
        have j2 := cell_regrown j2
        have j3 := cell_regrown j3
        have j4 := cell_regrown j4
        have j5 := cell_regrown j5
        refine wp_region_quiet_below mixed (by kernel_rfl) ?_
        repeat (quiet_step (first | (go_at_call 47; exact Calls.rg (samereq_any S _ _ _ _ _ (Hokx.out.below (below_regrown _ _ _)) (Hoky.out.below (below_regrown _ _ _))))))
        refine wpQuiet_nil ?_
        intro _ hw'
        obtain ⟨⟨dq, osq⟩, hw''⟩ := hw'
        subst hw''
        have hb4 := hw.trans (Below.mono (below_regrown wr dq osq) hw.size)
        generalize grow (redrawn wr dq) osq = w4 at hb4 ⊢
        cases hs : sameB s t with
        | true =>
          have hs := Lib.hid hs
          go_wp2
          go_roundw
          case rel => exact ⟨k + 1, by omega, by go_num, hb4, take_eq_succ _ _ _ _ hall.out Hx.out (by rw [sameB_true.1 hs.out]; exact Hy.out)⟩
          case measure => simp [intOf]; omega
        | false =>
          have hs := Lib.hid hs
          go_wp2
          go_ret
          exact ⟨by rw [sameLB_false (ne_at _ _ _ _ _ Hx.out Hy.out (fun e => by have h1 := sameB_true.2 e; rw [hs.out] at h1; cases h1))]; rfl, hb4⟩
      · go_wp2
        go_ret
        exact ⟨by rw [sameLB_true.2 (take_eq_end _ _ _ hall.out Hn.out (by omega))]; rfl, hw⟩
  · have hn' : ((a.length : Int) != (b.length : Int)) = true := by simp; omega
    rw [sameLB_false (fun e => hn (by rw [e]))]
    go_enter Try.func30, Try.ntmps30
    go_wp2
    go_ret
    exact ⟨rfl, Below.refl _ _⟩
end Go.Proofs.Ytojmnfelecnenaa
namespace Go.Proofs.Ytojmnfelecnenaa
set_option linter.unusedSimpArgs false
set_option linter.unusedVariables false

theorem queue_dead (s : St) (w : Bool) (p : Int) (d : ByteArray) : (s.queue w p d).1.dead = s.dead := by unfold St.queue; split <;> rfl
theorem read_dead (s : St) (c : Nat) (a : Ak) : (s.read c a).dead = s.dead := by
  unfold St.read; split
  · rfl
  · split
    · rfl
    · exact queue_dead ..
theorem write_dead (s : St) (c : Nat) (a : Ak) : (s.write c a).dead = s.dead := by
  unfold St.write; split
  · rfl
  · split
    · rfl
    · split <;> rfl
theorem sync_dead (s : St) (c : Nat) (a : Ak) : (s.sync c a).dead = s.dead := by
  unfold St.sync; split
  · rfl
  · split <;> rfl
theorem serve1_dead (s : St) (c : Nat) : (s.serve1 c).dead = s.dead := by
  unfold St.serve1; split
  · rfl
  · split
    · exact read_dead ..
    · split
      · exact write_dead ..
      · split
        · exact sync_dead ..
        · rfl
theorem serve_dead (s : St) : s.serve.dead = s.dead := by unfold St.serve; rw [serve1_dead, serve1_dead, serve1_dead]
theorem ask_dead (s : St) (c k p : Int) (d : ByteArray) : (s.ask c k p d).1.dead = s.dead := by
  unfold St.ask; split
  · rfl
  · split
    · rfl
    · split
      · rfl
      · exact serve_dead _
theorem tick_dead (s : St) : s.tick.dead = s.dead := serve_dead _
theorem clean_dead (s : St) : s.clean.1.dead = s.dead := by
  unfold St.clean; split
  · rfl
  · split
    · rfl
    · exact queue_dead ..
theorem dispatch_dead (s : St) : s.dispatch.1.dead = s.dead := by unfold St.dispatch; split <;> rfl
theorem tell1_dead (p : Int) (d : ByteArray) (s : St) (c : Nat) : (St.tell1 p d s c).dead = s.dead := by
  unfold St.tell1; split
  · rfl
  · split <;> rfl
theorem tell_dead (s : St) (p : Int) (d : ByteArray) : (s.tell p d).dead = s.dead := by unfold St.tell; rw [tell1_dead, tell1_dead, tell1_dead]
theorem wrong1_dead (r : Rq) (s : St) (c : Nat) : (St.wrong1 r s c).dead = s.dead := by
  unfold St.wrong1; split
  · rfl
  · split <;> rfl
theorem wrong_dead (s : St) (r : Rq) : (s.wrong r).dead = (s.dead || r.write) := by unfold St.wrong; rw [wrong1_dead, wrong1_dead, wrong1_dead]
theorem ended1_dead (s : St) (w : Bool) (p : Int) (d : ByteArray) : (s.ended1 w p d).dead = s.dead := by
  unfold St.ended1; split
  · rfl
  · split
    · rfl
    · exact tell_dead ..
theorem endedN_dead (s : St) (w : Bool) (lo : Int) (l : List ByteArray) : ∀ n, (s.endedN w lo l n).dead = s.dead
  | 0 => rfl
  | n + 1 => by rw [St.endedN, ended1_dead, endedN_dead]
theorem end_dead {s : St} (h2 : s.v.d.l.length ≤ 2) (hd : s.dead = true) (i : Int) (f : Bool) : (s.end_ i f).1.dead = true := by
  have hE := St.ended_of s i f h2
  generalize (s.end_ i f).1 = t at hE
  generalize (s.end_ i f).2 = e at hE
  cases hE with
  | none _ => exact hd
  | again k r hk _ _ h3 => exact hd
  | gone k r hk _ _ _ => rw [serve_dead, wrong_dead]; show (s.dead || r.write) = true; rw [hd]; rfl
  | ok k r hk _ _ => rw [serve_dead, endedN_dead]; exact hd
theorem round_dead {s : St} (hI : Inv s) (hd : s.dead = true) : s.round.dead = true := by
  refine end_dead (hI.tick.clean.go.dv.two) ?_ 0 false
  unfold St.go
  rw [dispatch_dead, dispatch_dead, clean_dead, tick_dead]; exact hd
theorem stepM_dead {s : St} (hI : Inv s) (hd : s.dead = true) (z : Sp) : (stepM s z).1.dead = true := by
  unfold stepM
  split
  · rw [ask_dead]; exact hd
  · rw [ask_dead]; exact hd
  · rw [ask_dead]; exact hd
  · show s.tick.dead = true; rw [tick_dead]; exact hd
  · show s.clean.1.dead = true; rw [clean_dead]; exact hd
  · show s.dispatch.1.dead = true; rw [dispatch_dead]; exact hd
  · exact end_dead hI.dv.two hd _ _
  · exact end_dead hI.dv.two hd _ _
  · exact round_dead hI hd
  · exact hd
theorem ans_got_ne {s : St} {c j : Nat} (h : j ≠ c) (d : ByteArray) (e : Nat) : (s.answer c d e).got j = s.got j := by
  unfold St.got St.answer
  simp only [List.getD_eq_getElem?_getD]
  rw [List.getElem?_set_ne (Ne.symm h), List.getElem?_set_ne (Ne.symm h)]
theorem ans_got_c {s : St} (h : Inv s) {c : Nat} (hc : c < 3) (d : ByteArray) (e : Nat) : (s.answer c d e).got c = if e = 0 then (d, 0) else (noB, e) := by
  unfold St.got St.answer
  simp [List.getD_eq_getElem?_getD, List.getElem?_set, h.errs.1, h.done.1, hc]
theorem ans_none_c {s : St} (h : Inv s) {c : Nat} (hc : c < 3) (d : ByteArray) (e : Nat) : (s.answer c d e).askAt c = none := by
  unfold St.askAt St.answer
  simp [List.getD_eq_getElem?_getD, List.getElem?_set, h.asks, hc]
theorem read_got (s : St) {c j : Nat} (hj : j ≠ c) (a : Ak) : (s.read c a).got j = s.got j := by
  unfold St.read; split
  · exact ans_got_ne hj _ _
  · split
    · rfl
    · unfold St.queue; split <;> rfl
theorem write_got (s : St) {c j : Nat} (hj : j ≠ c) (a : Ak) : (s.write c a).got j = s.got j := by
  unfold St.write; split
  · exact ans_got_ne hj _ _
  · split
    · rfl
    · split
      · exact ans_got_ne hj _ _
      · rfl
theorem sync_got (s : St) {c j : Nat} (hj : j ≠ c) (a : Ak) : (s.sync c a).got j = s.got j := by
  unfold St.sync; split
  · exact ans_got_ne hj _ _
  · split
    · exact ans_got_ne hj _ _
    · rfl
theorem serve1_got (s : St) {c j : Nat} (hj : j ≠ c) : (s.serve1 c).got j = s.got j := by
  unfold St.serve1; split
  · rfl
  · split
    · exact read_got s hj _
    · split
      · exact write_got s hj _
      · split
        · exact sync_got s hj _
        · rfl
/-- Who writes, or syncs, is told so. -/
theorem dead_serveN {s : St} (hI : Inv s) (hd : s.dead = true) {c : Nat} (hc : c < 3) {a : Ak} (ha : s.askAt c = some a) (hk : a.kind = 2 ∨ a.kind = 3) : ∀ n, c < n → (serveN s n).askAt c = none ∧ ((serveN s n).got c).2 = 9
  | 0, h => by omega
  | n + 1, h => by
    by_cases e : n = c
    · subst e
      have h1 : (serveN s n).askAt n = some a := (serveN_ge s n n (Nat.le_refl _)).trans ha
      have hI1 := hI.serveN n
      have hd1 : (serveN s n).dead = true := by
        have : ∀ m, (serveN s m).dead = s.dead := fun m => by
          induction m with
          | zero => rfl
          | succ m ih => rw [serveN, serve1_dead, ih]
        rw [this]; exact hd
      have e1 : (serveN s n).serve1 n = (serveN s n).answer n noB 9 := by
        unfold St.serve1
        rw [h1]
        simp only
        rcases hk with hk | hk
        · rw [if_neg (by omega), if_pos hk]; unfold St.write; rw [if_pos hd1]
        · rw [if_neg (by omega), if_neg (by omega), if_pos hk]; unfold St.sync; rw [if_pos hd1]
      rw [serveN, e1]
      exact ⟨ans_none_c hI1 hc _ _, by rw [ans_got_c hI1 hc]; rfl⟩
    · obtain ⟨h1, h2⟩ := dead_serveN hI hd hc ha hk n (by omega)
      rw [serveN]
      exact ⟨serve1_nn _ _ h1, by rw [serve1_got _ (fun e' => e e'.symm)]; exact h2⟩
theorem dead_ask {s : St} (hI : Inv s) (hd : s.dead = true) {c k p : Int} {d : ByteArray} (hk : k = 2 ∨ k = 3) (he : (s.ask c k p d).2 = 0) : 0 ≤ c ∧ c < 3 ∧ (s.ask c k p d).1.askAt c.toNat = none ∧ ((s.ask c k p d).1.got c.toNat).2 = 9 := by
  have hI' := hI.ask_ c k p d
  unfold St.ask at he hI' ⊢
  split at he
  · cases he
  · rename_i h1
    rw [if_neg h1] at hI' ⊢
    split at he
    · cases he
    · rename_i h2
      rw [if_neg h2] at hI' ⊢
      split at he
      · cases he
      · rename_i h3
        rw [if_neg h3]
        refine ⟨by omega, by omega, ?_⟩
        have hIa : Inv { s with asks := s.asks.set c.toNat (some ⟨k, p, d, if k = 3 then St.dirtyAt s.bufs else []⟩) } := by
          refine hI.asked (by omega) (by omega) (by omega) ?_
          split
          · exact hI.dirtyAt_ok
          · simp
        have ha : ({ s with asks := s.asks.set c.toNat (some ⟨k, p, d, if k = 3 then St.dirtyAt s.bufs else []⟩) } : St).askAt c.toNat = some ⟨k, p, d, if k = 3 then St.dirtyAt s.bufs else []⟩ := by
          have hc : c.toNat < 3 := by omega
          unfold St.askAt
          simp [List.getD_eq_getElem?_getD, List.getElem?_set, hI.asks, hc]
        exact dead_serveN hIa hd (by omega) ha hk 3 (by omega)
theorem dead_step {s : St} (hI : Inv s) (hd : s.dead = true) {z : Sp} (hz : cmdOf z.word = .write ∨ cmdOf z.word = .sync) (he : (stepM s z).2 = 0) : 0 ≤ z.a ∧ z.a < 3 ∧ (stepM s z).1.askAt z.a.toNat = none ∧ ((stepM s z).1.got z.a.toNat).2 = 9 := by
  unfold stepM at he ⊢
  rcases hz with hz | hz
  · rw [hz] at he ⊢
    exact dead_ask hI hd (.inl rfl) he
  · rw [hz] at he ⊢
    exact dead_ask hI hd (.inr rfl) he
end Go.Proofs.Ytojmnfelecnenaa
namespace Go.Proofs.Ytojmnfelecnenaa
set_option linter.unusedSimpArgs false
set_option linter.unusedVariables false

def flS (s : St) : List Rq := s.wait ++ s.v.d.l
/-- One of them writes that of the sector; one of them reads the sector. -/
def frB (l : List Rq) (p : Int) (d : ByteArray) : Bool := l.any (fun r => r.write && (hasB r.lo r.many p && decide (r.data[(p - r.lo).toNat]? = some d)))
def rdB (l : List Rq) (p : Int) : Bool := l.any (fun r => !r.write && hasB r.lo r.many p)
theorem frB_iff {l : List Rq} {p : Int} {d : ByteArray} : frB l p d = true ↔ InW l p d := by
  unfold frB InW
  rw [List.any_eq_true]
  constructor
  · rintro ⟨r, hr, h⟩
    simp only [Bool.and_eq_true, decide_eq_true_eq] at h
    exact ⟨r, hr, h.1, h.2.1, h.2.2⟩
  · rintro ⟨r, hr, h1, h2, h3⟩
    exact ⟨r, hr, by simp [h1, h2, h3]⟩
theorem rdB_iff {l : List Rq} {p : Int} : rdB l p = true ↔ InR l p := by
  unfold rdB InR
  rw [List.any_eq_true]
  constructor
  · rintro ⟨r, hr, h⟩
    simp only [Bool.and_eq_true, Bool.not_eq_true'] at h
    exact ⟨r, hr, h.1, h.2⟩
  · rintro ⟨r, hr, h1, h2⟩
    exact ⟨r, hr, by simp [h1, h2]⟩
/-- What is at hand and dirty, and no request writes it as it is. -/
def potU (F : Int → ByteArray → Bool) (l : List Bf) : Nat := cnt (fun p d y => y && !F p d) l
theorem potU_mono {F G : Int → ByteArray → Bool} (l : List Bf) (h : ∀ p d, F p d = true → G p d = true) : potU G l ≤ potU F l := by
  unfold potU cnt
  apply List.countP_mono_left
  intro b _ hb
  simp only [Bool.and_eq_true, Bool.not_eq_true'] at hb ⊢
  refine ⟨hb.1, ?_⟩
  cases hf : F b.pos b.data with
  | false => rfl
  | true => rw [h _ _ hf] at hb; exact absurd hb.2 (by decide)
theorem potU_use (F : Int → ByteArray → Bool) (l : List Bf) (p n : Int) : potU F (useB l p n) = potU F l := cnt_use _ l p n
theorem potU_put (F : Int → ByteArray → Bool) {l m : List Bf} {b : Bf} {held : Int → Bool} (hr : Rises l) (hp : putB l b held = some m) : potU F m ≤ potU F l + 1 := by
  have := (cnt_put (fun p d y => y && !F p d) (fun _ _ => rfl) hr hp).1
  unfold potU
  split at this <;> omega
theorem potU_putc (F : Int → ByteArray → Bool) {l m : List Bf} {b : Bf} {held : Int → Bool} (hr : Rises l) (hd : b.dirty = false) (hp : putB l b held = some m) : potU F m ≤ potU F l := by
  have := (cnt_put (fun p d y => y && !F p d) (fun _ _ => rfl) hr hp).1
  unfold potU
  rw [hd] at this
  simpa using this
theorem potU_le (F : Int → ByteArray → Bool) (l : List Bf) : potU F l ≤ dirtyB l := by
  unfold potU cnt dirtyB
  apply List.countP_mono_left
  intro b _ hb
  simp only [Bool.and_eq_true] at hb
  exact hb.1
def wtO (G : Int → Bool) : Option Ak → Nat
  | none => 0
  | some a => if a.kind = 1 then (if G a.pos then 0 else 2) else if a.kind = 2 then 3 else 0
theorem wtO_none (G : Int → Bool) : wtO G none = 0 := rfl
theorem wtO_some (G : Int → Bool) (a : Ak) : wtO G (some a) = if a.kind = 1 then (if G a.pos then 0 else 2) else if a.kind = 2 then 3 else 0 := rfl
theorem wtO_le (G : Int → Bool) (o : Option Ak) : wtO G o ≤ 3 := by
  cases o with
  | none => simp [wtO]
  | some a =>
    show (if a.kind = 1 then (if G a.pos then 0 else 2) else if a.kind = 2 then 3 else 0) ≤ 3
    split
    · split <;> omega
    · split <;> omega
theorem wtO_mono {G G' : Int → Bool} (h : ∀ p, G p = true → G' p = true) (o : Option Ak) : wtO G' o ≤ wtO G o := by
  cases o with
  | none => exact Nat.le_refl _
  | some a =>
    show (if a.kind = 1 then (if G' a.pos then 0 else 2) else if a.kind = 2 then 3 else 0) ≤ (if a.kind = 1 then (if G a.pos then 0 else 2) else if a.kind = 2 then 3 else 0)
    split
    · cases hg : G a.pos with
      | true => rw [h _ hg]; simp
      | false => split <;> simp
    · exact Nat.le_refl _
def wsum (G : Int → Bool) (s : St) : Nat := wtO G (s.askAt 0) + wtO G (s.askAt 1) + wtO G (s.askAt 2)
theorem wsum_mono {G G' : Int → Bool} (h : ∀ p, G p = true → G' p = true) (s : St) : wsum G' s ≤ wsum G s := by
  unfold wsum
  have h0 := wtO_mono h (s.askAt 0)
  have h1 := wtO_mono h (s.askAt 1)
  have h2 := wtO_mono h (s.askAt 2)
  omega
theorem wsum_one {G : Int → Bool} {s t : St} {c : Nat} (hc : c < 3) (h : ∀ j, j ≠ c → t.askAt j = s.askAt j) : wsum G t + wtO G (s.askAt c) = wsum G s + wtO G (t.askAt c) := by
  unfold wsum
  match c, hc with
  | 0, _ => rw [h 1 (by decide), h 2 (by decide)]; omega
  | 1, _ => rw [h 0 (by decide), h 2 (by decide)]; omega
  | 2, _ => rw [h 0 (by decide), h 1 (by decide)]; omega
theorem wsum_same {G : Int → Bool} {s t : St} (h : ∀ j, t.askAt j = s.askAt j) : wsum G t = wsum G s := by unfold wsum; rw [h, h, h]
def GX (X : Int → Bool) (s : St) (p : Int) : Bool := rdB (flS s) p || X p
/-- What is left to be done: X: what is as good as done. -/
def potX (X : Int → Bool) (s : St) : Nat := 2 * potU (frB (flS s)) s.bufs + (flS s).length + wsum (GX X s) s
def pot (s : St) : Nat := potX (fun _ => false) s
theorem pot_le {s : St} (h : Inv s) : pot s ≤ 29 := by
  unfold pot potX
  have h1 := potU_le (frB (flS s)) s.bufs
  have h2 := h.dirty
  have h3 : (flS s).length ≤ 8 := by unfold flS; rw [List.length_append]; have := h.wait6; have := h.dv.two; omega
  have h4 : wsum (GX (fun _ => false) s) s ≤ 9 := by
    unfold wsum
    have := wtO_le (GX (fun _ => false) s) (s.askAt 0)
    have := wtO_le (GX (fun _ => false) s) (s.askAt 1)
    have := wtO_le (GX (fun _ => false) s) (s.askAt 2)
    omega
  omega
/-- What is read is not at hand, or dirty; what is dirty may be written. -/
structure Inv2 (s : St) : Prop where
  rd : ∀ p, InR (flS s) p → ∀ v, atB s.bufs p = some v → v.2 = true
  sm : ∀ p v, atB s.bufs p = some v → v.2 = true → v.1.size ≤ 4
theorem Inv2.of {s t : St} (h : Inv2 s) (hb : ∀ p v, atB t.bufs p = some v → (v.2 = true ∧ v.1.size ≤ 4) ∨ atB s.bufs p = some v ∨ (v.2 = false ∧ ¬ InR (flS t) p)) (hf : ∀ p, InR (flS t) p → InR (flS s) p ∨ atB t.bufs p = none) : Inv2 t := by
  refine ⟨fun p hp v hv => ?_, fun p v hv hd => ?_⟩
  · rcases hf p hp with h1 | h1
    · rcases hb p v hv with h2 | h2 | h2
      · exact h2.1
      · exact h.rd p h1 v h2
      · exact absurd hp h2.2
    · rw [h1] at hv; cases hv
  · rcases hb p v hv with h2 | h2 | h2
    · exact h2.2
    · exact h.sm p v h2 hd
    · rw [h2.1] at hd; cases hd
theorem Inv2.flow {s t : St} (h : Inv2 s) (hb : t.bufs = s.bufs) (hf : ∀ p, InR (flS t) p → InR (flS s) p) : Inv2 t :=
  h.of (fun p v hv => .inr (.inl (by rw [hb] at hv; exact hv))) (fun p hp => .inl (hf p hp))
theorem Inv2.answer {s : St} (h : Inv2 s) (c : Nat) (d : ByteArray) (e : Nat) : Inv2 (s.answer c d e) := h.flow rfl (fun _ h => h)
/-- What is dirty stays so. -/
def Dk (s t : St) : Prop := ∀ p d, atB s.bufs p = some (d, true) → ∃ d', atB t.bufs p = some (d', true)
theorem Dk.refl (s : St) : Dk s s := fun p d h => ⟨d, h⟩
theorem Dk.trans {s t u : St} (h : Dk s t) (k : Dk t u) : Dk s u := fun p d hp => by
  obtain ⟨d', h1⟩ := h p d hp
  exact k p d' h1
theorem Dk.of_eq {s t : St} (h : t.bufs = s.bufs) : Dk s t := fun p d hp => ⟨d, by rw [h]; exact hp⟩
def Zr (X : Int → Bool) (s : St) : Prop := ∀ c a, s.askAt c = some a → a.kind = 1 → X a.pos = true → ∃ d, atB s.bufs a.pos = some (d, true)
/-- Whoever serves a client leaves no more to be done, and what is dirty dirty. -/
structure Sv1 (X : Int → Bool) (c : Nat) (s t : St) : Prop where
  pot : potX X t ≤ potX X s
  dk : Dk s t
  len : (flS s).length ≤ (flS t).length
  inv2 : Inv2 t
  gone : ∀ a, t.askAt c = some a → a.kind = 1 → X a.pos = false
theorem flS_queue {s : St} (h : Inv s) {w : Bool} {p : Int} {d : ByteArray} (hq : (s.queue w p d).2 = true) : (flS (s.queue w p d).1).length ≤ (flS s).length + 1 ∧ (flS s).length ≤ (flS (s.queue w p d).1).length := by
  have Q := (h.queued hq).1
  unfold flS
  rw [List.length_append, List.length_append, Q.v]
  have e : (s.queue w p d).1.wait = (addM s.wait (s.reqOf w p d)).1 := by
    unfold St.queue at hq ⊢
    split at hq
    · rename_i h0; rw [if_pos h0]
    · cases hq
  have h0 : (addM s.wait (s.reqOf w p d)).2 = 0 := by
    unfold St.queue at hq
    split at hq
    · assumption
    · cases hq
  have hl : s.wait.length ≤ (addM s.wait (s.reqOf w p d)).1.length := by
    by_cases h1 : reqF (s.reqOf w p d) = 0
    rotate_left
    · rw [addM_bad h1] at h0; exact absurd h0 h1
    · cases h2 : s.wait.any (meetsR (s.reqOf w p d).lo (s.reqOf w p d).many) with
      | true => rw [addM_meets h1 h2] at h0; cases h0
      | false =>
        cases h3 : mergeIn s.wait (s.reqOf w p d) with
        | some q =>
          rw [addM_merge h1 h2 h3]
          obtain ⟨k, x, m, _, _, rfl⟩ := mergeIn_some h3
          simp
        | none =>
          by_cases h4 : 6 ≤ s.wait.length
          · rw [addM_full h1 h2 h3 h4] at h0; cases h0
          · rw [addM_new h1 h2 h3 h4]; simp
  have h5 := Q.len.1
  rw [e] at h5 ⊢
  omega
theorem frB_sub {l m : List Rq} (h : ∀ p e, InW l p e → InW m p e) : ∀ p d, frB l p d = true → frB m p d = true := fun p d hf => frB_iff.2 (h p d (frB_iff.1 hf))
theorem rdB_sub {l m : List Rq} (h : ∀ p, InR l p → InR m p) : ∀ p, rdB l p = true → rdB m p = true := fun p hf => rdB_iff.2 (h p (rdB_iff.1 hf))
theorem not_held_rd {s : St} (h : Inv s) {p : Int} (hh : s.heldP p = false) : rdB (flS s) p = false := by
  rw [Bool.eq_false_iff]
  intro hr
  rw [heldP_eq] at hh
  have : heldL' (s.wait ++ s.v.d.l) p = true := (held_or h.oks).2 (.inl (rdB_iff.1 hr))
  rw [this] at hh; cases hh
theorem sv_refl {X : Int → Bool} {c : Nat} {s : St} (h2 : Inv2 s) (hg : ∀ a, s.askAt c = some a → a.kind = 1 → X a.pos = false) : Sv1 X c s s := ⟨Nat.le_refl _, .refl s, Nat.le_refl _, h2, hg⟩
theorem sv_read {X : Int → Bool} {c : Nat} (hc : c < 3) {s : St} (h : Inv s) (h2 : Inv2 s) (hz : Zr X s) {a : Ak} (ha : s.askAt c = some a) (hk : a.kind = 1) : Sv1 X c s (s.read c a) := by
  unfold St.read
  split
  · rename_i hi
    have h3 : Inv { s with use := s.use + 1, bufs := useB s.bufs a.pos (s.use + 1) } := h.useB a.pos (s.use + 1) (by omega)
    refine ⟨?_, fun p d hp => ⟨d, by show atB (useB s.bufs a.pos (s.use + 1)) p = _; rw [atB_use h.rises]; exact hp⟩, Nat.le_refl _, ?_, fun b hb => ?_⟩
    · unfold potX
      have e1 : potU (frB (flS s)) (useB s.bufs a.pos (s.use + 1)) = potU (frB (flS s)) s.bufs := potU_use _ _ _ _
      have e2 := wsum_one (G := GX X s) (s := s) (t := ({ s with use := s.use + 1, bufs := useB s.bufs a.pos (s.use + 1) } : St).answer c (getB s.bufs a.pos).1.data 0) hc (fun j hj => ans_ne hj _ _)
      rw [ans_none_c h3 hc] at e2
      show 2 * potU (frB (flS s)) (useB s.bufs a.pos (s.use + 1)) + (flS s).length + wsum (GX X s) _ ≤ _
      rw [e1]
      rw [wtO_none] at e2
      omega
    · exact h2.of (fun p v hv => .inr (.inl (by
        have hv' : atB (useB s.bufs a.pos (s.use + 1)) p = some v := hv
        rw [atB_use h.rises] at hv'; exact hv'))) (fun p hp => .inl hp)
    · rw [ans_none_c h3 hc] at hb; cases hb
  · rename_i hi
    have hat : atB s.bufs a.pos = none := by unfold atB; rw [if_neg hi]
    have hx : X a.pos = false := by
      cases hx : X a.pos with
      | false => rfl
      | true => obtain ⟨d, hd⟩ := hz c a ha hk hx; rw [hat] at hd; cases hd
    have hgo : ∀ b, s.askAt c = some b → b.kind = 1 → X b.pos = false := fun b hb _ => by rw [ha] at hb; cases hb; exact hx
    split
    · exact sv_refl h2 hgo
    · rename_i hh
      have hh' : s.heldP a.pos = false := by simpa using hh
      cases hq : (s.queue false a.pos noB).2 with
      | false => rw [Inv.queue_no hq]; exact sv_refl h2 hgo
      | true =>
        obtain ⟨Q, _, _⟩ := h.queued hq
        have hl := flS_queue h hq
        have eb := Q.bufs
        have ea : ∀ j, (s.queue false a.pos noB).1.askAt j = s.askAt j := fun j => by unfold St.askAt; rw [Q.asks]
        refine ⟨?_, .of_eq eb, hl.2, ?_, fun b hb hkb => hgo b (by rw [ea] at hb; exact hb) hkb⟩
        · unfold potX
          rw [eb]
          have e1 : potU (frB (flS (s.queue false a.pos noB).1)) s.bufs ≤ potU (frB (flS s)) s.bufs := potU_mono _ (frB_sub fun p e hp => (Q.inw p e).2 (.inl hp))
          have hgm : ∀ p, GX X s p = true → GX X (s.queue false a.pos noB).1 p = true := fun p hp => by
            unfold GX at hp ⊢
            rw [Bool.or_eq_true] at hp ⊢
            exact hp.imp (rdB_sub (fun q hq => (Q.inr q).2 (.inl hq)) p) id
          have hg1 : GX X (s.queue false a.pos noB).1 a.pos = true := by
            unfold GX
            rw [Bool.or_eq_true]
            exact .inl (rdB_iff.2 ((Q.inr a.pos).2 (.inr ⟨rfl, rfl⟩)))
          have hg0 : GX X s a.pos = false := by unfold GX; rw [not_held_rd h hh', hx]; rfl
          have e2 : wsum (GX X (s.queue false a.pos noB).1) (s.queue false a.pos noB).1 + 2 ≤ wsum (GX X s) s := by
            rw [wsum_same ea]
            unfold wsum
            have w0 : wtO (GX X (s.queue false a.pos noB).1) (some a) = 0 := by rw [wtO_some, if_pos hk, hg1]; rfl
            have w1 : wtO (GX X s) (some a) = 2 := by rw [wtO_some, if_pos hk, hg0]; rfl
            have m0 := wtO_mono hgm (s.askAt 0)
            have m1 := wtO_mono hgm (s.askAt 1)
            have m2 := wtO_mono hgm (s.askAt 2)
            match c, hc, ha with
            | 0, _, ha => rw [ha] at m0 ⊢; omega
            | 1, _, ha => rw [ha] at m1 ⊢; omega
            | 2, _, ha => rw [ha] at m2 ⊢; omega
          omega
        · exact h2.of (fun p v hv => .inr (.inl (by rw [eb] at hv; exact hv))) (fun p hp => by
            rcases (Q.inr p).1 hp with h1 | ⟨_, rfl⟩
            · exact .inl h1
            · exact .inr (by rw [eb]; exact hat))
theorem kind_gone {X : Int → Bool} {s : St} {c : Nat} {a : Ak} (ha : s.askAt c = some a) (hk : a.kind ≠ 1) : ∀ b, s.askAt c = some b → b.kind = 1 → X b.pos = false := fun b hb hk1 => by rw [ha] at hb; cases hb; exact absurd hk1 hk
/-- Who is answered is nothing to be done. -/
theorem sv_ans {X : Int → Bool} {c : Nat} (hc : c < 3) {s : St} (h : Inv s) (h2 : Inv2 s) (d : ByteArray) (e : Nat) : Sv1 X c s (s.answer c d e) := by
  refine ⟨?_, .of_eq rfl, Nat.le_refl _, h2.answer .., fun b hb => by rw [ans_none_c h hc] at hb; cases hb⟩
  unfold potX
  have e2 := wsum_one (G := GX X s) (s := s) (t := s.answer c d e) hc (fun j hj => ans_ne hj _ _)
  rw [ans_none_c h hc] at e2
  show 2 * potU (frB (flS s)) s.bufs + (flS s).length + wsum (GX X s) _ ≤ _
  rw [wtO_none] at e2
  omega
theorem sv_write {X : Int → Bool} {c : Nat} (hc : c < 3) {s : St} (h : Inv s) (h2 : Inv2 s) {a : Ak} (ha : s.askAt c = some a) (hk : a.kind = 2) : Sv1 X c s (s.write c a) := by
  have hp := h.ask c a ha
  unfold St.write
  split
  · exact sv_ans hc h h2 _ _
  · split
    · exact sv_refl h2 (kind_gone ha (by omega))
    · rename_i h6
      split
      · rename_i m hm
        have h3 : Inv { s with use := s.use + 1, bufs := m } := by
          have hu := h.use0
          refine h.putB hm ⟨hp.lo, hp.hi⟩ (by have := hp.size; simp only; omega) (show s.use ≤ s.use + 1 by omega) (by simp only; omega) (fun _ => ?_) (.inl rfl)
          cases hs : St.still s.bufs a.pos with
          | true => exact .inl (h.still_at.1 hs)
          | false => rw [hs] at h6; right; simpa using h6
        refine ⟨?_, fun p d hpd => ?_, Nat.le_refl _, ?_, fun b hb => by rw [ans_none_c h3 hc] at hb; cases hb⟩
        · unfold potX
          have e1 := potU_put (frB (flS s)) h.rises hm
          have e2 := wsum_one (G := GX X s) (s := s) (t := ({ s with use := s.use + 1, bufs := m } : St).answer c noB 0) hc (fun j hj => ans_ne hj _ _)
          rw [ans_none_c h3 hc, ha] at e2
          have e3 : wtO (GX X s) (some a) = 3 := by rw [wtO_some, if_neg (by omega), if_pos hk]
          rw [e3] at e2
          show 2 * potU (frB (flS s)) m + (flS s).length + wsum (GX X s) _ ≤ _
          rw [wtO_none] at e2
          omega
        · show ∃ d', atB m p = some (d', true)
          by_cases hpp : p = a.pos
          · subst hpp
            exact ⟨_, atB_put h.rises h.len8 hm⟩
          · rcases atB_put_ne h.rises h.len8 hm hpp with h1 | ⟨_, _, d', h1⟩
            · exact ⟨d, h1.trans hpd⟩
            · rw [hpd] at h1; cases h1
        · refine h2.of (fun p v hv => ?_) (fun p hp => .inl hp)
          have hv' : atB m p = some v := hv
          by_cases hpp : p = a.pos
          · subst hpp
            have := atB_put h.rises h.len8 hm
            have e : atB m a.pos = some (a.data, true) := this
            rw [e] at hv'; cases hv'
            exact .inl ⟨rfl, hp.size⟩
          · rcases atB_put_ne h.rises h.len8 hm hpp with h1 | ⟨h1, _⟩
            · exact .inr (.inl (h1.symm.trans hv'))
            · rw [h1] at hv'; cases hv'
      · exact ⟨Nat.le_refl _, .of_eq rfl, Nat.le_refl _, h2.flow rfl (fun _ h => h), kind_gone (s := { s with use := s.use + 1 }) ha (by omega)⟩
theorem sv_sync {X : Int → Bool} {c : Nat} (hc : c < 3) {s : St} (h : Inv s) (h2 : Inv2 s) {a : Ak} (ha : s.askAt c = some a) (hk : a.kind = 3) : Sv1 X c s (s.sync c a) := by
  unfold St.sync
  split
  · exact sv_ans hc h h2 _ _
  · split
    · have h' := sv_ans (X := X) (s := { s with v := { s.v with d := s.v.d.flush } }) hc { h with dv := h.dv.flush } (h2.flow rfl (fun _ h => h)) noB 0
      exact ⟨h'.pot, h'.dk, h'.len, h'.inv2, h'.gone⟩
    · have e0 : ({ s with asks := s.asks.set c (some { a with left := a.left.filter (St.still s.bufs) }) } : St).askAt c = some { a with left := a.left.filter (St.still s.bufs) } := by
        unfold St.askAt
        simp [List.getD_eq_getElem?_getD, List.getElem?_set, h.asks, hc]
      refine ⟨?_, .of_eq rfl, Nat.le_refl _, h2.flow rfl (fun _ h => h), kind_gone e0 (by show a.kind ≠ 1; omega)⟩
      unfold potX
      have e2 := wsum_one (G := GX X s) (s := s) (t := { s with asks := s.asks.set c (some { a with left := a.left.filter (St.still s.bufs) }) }) hc (fun j hj => set_ne hj _)
      rw [e0, ha] at e2
      have e3 : wtO (GX X s) (some { a with left := a.left.filter (St.still s.bufs) }) = wtO (GX X s) (some a) := rfl
      rw [e3] at e2
      show 2 * potU (frB (flS s)) s.bufs + (flS s).length + wsum (GX X s) _ ≤ _
      omega
theorem sv_serve1 {X : Int → Bool} {c : Nat} (hc : c < 3) {s : St} (h : Inv s) (h2 : Inv2 s) (hz : Zr X s) : Sv1 X c s (s.serve1 c) := by
  unfold St.serve1
  cases ha : s.askAt c with
  | none => exact sv_refl h2 (fun a h1 => by rw [ha] at h1; cases h1)
  | some a =>
    simp only
    split
    · exact sv_read hc h h2 hz ha ‹_›
    · split
      · exact sv_write hc h h2 ha ‹_›
      · split
        · exact sv_sync hc h h2 ha ‹_›
        · exact sv_refl h2 (kind_gone ha ‹_›)
theorem Zr.step {X : Int → Bool} {c : Nat} {s t : St} (hz : Zr X s) (hs : Sv1 X c s t) (hne : ∀ j, j ≠ c → t.askAt j = s.askAt j) : Zr X t := fun j a ha hk hx => by
  by_cases e : j = c
  · subst e
    rw [hs.gone a ha hk] at hx; cases hx
  · rw [hne j e] at ha
    obtain ⟨d, hd⟩ := hz j a ha hk hx
    exact hs.dk _ d hd
/-- All are served. -/
theorem sv_serve {X : Int → Bool} {s : St} (h : Inv s) (h2 : Inv2 s) (hz : Zr X s) : pot s.serve ≤ potX X s ∧ Dk s s.serve ∧ (flS s).length ≤ (flS s.serve).length ∧ Inv2 s.serve := by
  have s0 := sv_serve1 (c := 0) (by omega) h h2 hz
  have z0 := hz.step s0 (fun j hj => serve1_ne s hj)
  have i0 := h.serve1 0
  have s1 := sv_serve1 (c := 1) (by omega) i0 s0.inv2 z0
  have z1 := z0.step s1 (fun j hj => serve1_ne _ hj)
  have i1 := i0.serve1 1
  have s2 := sv_serve1 (c := 2) (by omega) i1 s1.inv2 z1
  refine ⟨?_, (s0.dk.trans s1.dk).trans s2.dk, Nat.le_trans (Nat.le_trans s0.len s1.len) s2.len, s2.inv2⟩
  have hgone : ∀ c a, c < 3 → s.serve.askAt c = some a → a.kind = 1 → X a.pos = false := by
    intro c a hc ha hk
    have ha' : (((s.serve1 0).serve1 1).serve1 2).askAt c = some a := ha
    match c, hc with
    | 0, _ =>
      rw [serve1_ne _ (by decide), serve1_ne _ (by decide)] at ha'
      exact s0.gone a ha' hk
    | 1, _ =>
      rw [serve1_ne _ (by decide)] at ha'
      exact s1.gone a ha' hk
    | 2, _ => exact s2.gone a ha' hk
  have e : pot s.serve = potX X s.serve := by
    unfold pot potX
    have : wsum (GX (fun _ => false) s.serve) s.serve = wsum (GX X s.serve) s.serve := by
      have key : ∀ c, c < 3 → wtO (GX (fun _ => false) s.serve) (s.serve.askAt c) = wtO (GX X s.serve) (s.serve.askAt c) := by
        intro c hc
        cases ho : s.serve.askAt c with
        | none => rfl
        | some a =>
          rw [wtO_some, wtO_some]
          by_cases hk : a.kind = 1
          · rw [if_pos hk, if_pos hk]
            unfold GX
            rw [hgone c a hc ho hk]
          · rw [if_neg hk, if_neg hk]
      unfold wsum
      rw [key 0 (by omega), key 1 (by omega), key 2 (by omega)]
    rw [this]
  rw [e]
  show potX X (((s.serve1 0).serve1 1).serve1 2) ≤ _
  exact Nat.le_trans s2.pot (Nat.le_trans s1.pot s0.pot)
end Go.Proofs.Ytojmnfelecnenaa
namespace Go.Proofs.Ytojmnfelecnenaa
set_option linter.unusedSimpArgs false
set_option linter.unusedVariables false

theorem zr_none (s : St) : Zr (fun _ => false) s := fun _ _ _ _ hx => by cases hx
theorem pt_serve {s : St} (h : Inv s) (h2 : Inv2 s) : pot s.serve ≤ pot s ∧ Dk s s.serve ∧ (flS s).length ≤ (flS s.serve).length ∧ Inv2 s.serve := sv_serve (X := fun _ => false) h h2 (zr_none s)
theorem Inv.nowd {s : St} (h : Inv s) : Inv { s with now := min (s.now + 1) 1000000000 } := { h with now := by have := h.now; simp only; omega }
theorem pt_tick {s : St} (h : Inv s) (h2 : Inv2 s) : pot s.tick ≤ pot s ∧ (flS s).length ≤ (flS s.tick).length ∧ Inv2 s.tick := by
  have := pt_serve (s := { s with now := min (s.now + 1) 1000000000 }) h.nowd (h2.flow rfl (fun _ h => h))
  exact ⟨this.1, this.2.2.1, this.2.2.2⟩
/-- A dirty sector is asked to be written. -/
theorem pt_clean {s : St} (h : Inv s) (h2 : Inv2 s) : pot s.clean.1 ≤ pot s ∧ (flS s).length ≤ (flS s.clean.1).length ∧ Inv2 s.clean.1 := by
  unfold St.clean
  split
  · exact ⟨Nat.le_refl _, Nat.le_refl _, h2⟩
  · split
    · exact ⟨Nat.le_refl _, Nat.le_refl _, h2⟩
    · rename_i hp
      obtain ⟨x, hx, hpos, hg, hd, hh, _⟩ := pick_some h.rises hp
      have hgd : (getB s.bufs (pickB s.bufs s.heldP)).1.data = x.data := by rw [hg]
      rw [hgd, ← hpos]
      cases hq : (s.queue true x.pos x.data).2 with
      | false => rw [Inv.queue_no hq]; exact ⟨Nat.le_refl _, Nat.le_refl _, h2⟩
      | true =>
        obtain ⟨Q, _, _⟩ := h.queued hq
        have hl := flS_queue h hq
        have eb := Q.bufs
        have ea : ∀ j, (s.queue true x.pos x.data).1.askAt j = s.askAt j := fun j => by unfold St.askAt; rw [Q.asks]
        have er : ∀ q, InR (flS (s.queue true x.pos x.data).1) q ↔ InR (flS s) q := fun q => by
          have := Q.inr q
          constructor
          · intro h1
            rcases this.1 h1 with h2 | ⟨h2, _⟩
            · exact h2
            · cases h2
          · intro h1; exact this.2 (.inl h1)
        refine ⟨?_, hl.2, h2.flow eb (fun p hp => (er p).1 hp)⟩
        unfold pot potX
        rw [eb]
        have e3 : GX (fun _ => false) (s.queue true x.pos x.data).1 = GX (fun _ => false) s := by
          funext q
          unfold GX
          have : rdB (flS (s.queue true x.pos x.data).1) q = rdB (flS s) q := by
            rw [Bool.eq_iff_iff, rdB_iff, rdB_iff]; exact er q
          rw [this]
        rw [e3, wsum_same ea]
        have e1 : potU (frB (flS (s.queue true x.pos x.data).1)) s.bufs + 1 ≤ potU (frB (flS s)) s.bufs := by
          have hsub := frB_sub (l := flS s) (m := flS (s.queue true x.pos x.data).1) fun p e hp => (Q.inw p e).2 (.inl hp)
          have hfx : frB (flS (s.queue true x.pos x.data).1) x.pos x.data = true := frB_iff.2 ((Q.inw _ _).2 (.inr ⟨rfl, rfl, rfl⟩))
          have hnx : frB (flS s) x.pos x.data = false := by
            rw [Bool.eq_false_iff]
            intro hf
            rw [heldP_eq] at hh
            have : heldL' (s.wait ++ s.v.d.l) x.pos = true := (held_or h.oks).2 (.inr ⟨_, frB_iff.1 hf⟩)
            rw [this] at hh; cases hh
          obtain ⟨j, hj⟩ := List.mem_iff_getElem?.1 hx
          have c1 := cnt_erase (fun p d y => y && !frB (flS s) p d) s.bufs j x hj
          have c2 := cnt_erase (fun p d y => y && !frB (flS (s.queue true x.pos x.data).1) p d) s.bufs j x hj
          have c3 := potU_mono (s.bufs.eraseIdx j) hsub
          unfold potU at c3 ⊢
          rw [c1, c2]
          simp only [hd, hfx, hnx, Bool.not_true, Bool.not_false, Bool.and_true, Bool.and_false, if_true]
          simp only [Bool.false_eq_true, if_false]
          omega
        omega
theorem flS_dispatch {s : St} (h : Inv s) : (flS s.dispatch.1).Perm (flS s) ∧ s.dispatch.1.bufs = s.bufs ∧ s.dispatch.1.asks = s.asks := by
  by_cases hn : s.wait = [] ∨ 2 ≤ s.v.d.l.length
  · rw [Inv.dispatch_no hn]; exact ⟨.refl _, rfl, rfl⟩
  · simp only [not_or] at hn
    obtain ⟨j, r, t', hx, e⟩ := h.dispatched hn.1 (by omega)
    rw [e]
    exact ⟨Inv.perm_move (b := s.v.d.l) hx.get, rfl, rfl⟩
/-- What is on its way is what it was, in another order. -/
theorem pt_perm {s t : St} (hp : (flS t).Perm (flS s)) (hb : t.bufs = s.bufs) (ha : t.asks = s.asks) : pot t = pot s := by
  unfold pot potX
  have e1 : frB (flS t) = frB (flS s) := by
    funext p d
    rw [Bool.eq_iff_iff, frB_iff, frB_iff]; exact InW.perm hp
  have e2 : GX (fun _ => false) t = GX (fun _ => false) s := by
    funext p
    unfold GX
    have : rdB (flS t) p = rdB (flS s) p := by rw [Bool.eq_iff_iff, rdB_iff, rdB_iff]; exact InR.perm hp
    rw [this]
  rw [e1, e2, hb, hp.length_eq, wsum_same (s := s) (t := t) (fun j => by unfold St.askAt; rw [ha])]
theorem pt_dispatch {s : St} (h : Inv s) (h2 : Inv2 s) : pot s.dispatch.1 = pot s ∧ (flS s.dispatch.1).length = (flS s).length ∧ Inv2 s.dispatch.1 := by
  obtain ⟨hp, hb, ha⟩ := flS_dispatch h
  exact ⟨pt_perm hp hb ha, hp.length_eq, h2.flow hb (fun p hq => (InR.perm hp).1 hq)⟩
theorem pt_go {s : St} (h : Inv s) (h2 : Inv2 s) : pot s.go = pot s ∧ (flS s.go).length = (flS s).length ∧ Inv2 s.go := by
  obtain ⟨a1, a2, a3⟩ := pt_dispatch h h2
  obtain ⟨b1, b2, b3⟩ := pt_dispatch h.dispatch a3
  exact ⟨b1.trans a1, b2.trans a2, b3⟩
/-- When no more goes and the disk has nothing, nothing waits. -/
theorem go_idle {s : St} (h : Inv s) (hl : s.go.v.d.l = []) : flS s = [] := by
  have h1 := h.dispatch
  have hp := flS_dispatch h
  have hp1 := flS_dispatch h1
  have hw : s.wait = [] := by
    apply Classical.byContradiction
    intro hw
    by_cases h2 : 2 ≤ s.v.d.l.length
    · have e1 := Inv.dispatch_no (s := s) (.inr h2)
      have : s.go = s := by unfold St.go; rw [e1, e1]
      rw [this] at hl
      rw [hl] at h2; simp at h2
    · obtain ⟨j, r, t', hx, e⟩ := h.dispatched hw (by omega)
      have e2 : s.dispatch.1.v.d.l = s.v.d.l ++ [r] := by rw [e]
      have hmono : s.dispatch.1.v.d.l.length ≤ s.go.v.d.l.length := by
        show _ ≤ s.dispatch.1.dispatch.1.v.d.l.length
        by_cases hn : s.dispatch.1.wait = [] ∨ 2 ≤ s.dispatch.1.v.d.l.length
        · rw [Inv.dispatch_no hn]; exact Nat.le_refl _
        · simp only [not_or] at hn
          obtain ⟨j', r', t'', hx', e'⟩ := h1.dispatched hn.1 (by omega)
          rw [e']
          show _ ≤ (s.dispatch.1.v.d.l ++ [r']).length
          simp
      rw [hl, e2] at hmono
      simp at hmono
  have e1 := Inv.dispatch_no (s := s) (.inl hw)
  have : s.go = s := by unfold St.go; rw [e1, e1]
  rw [this] at hl
  unfold flS; rw [hw, hl]; rfl
/-- What is written of the sectors of a request that the disk has done. -/
def restF (F : Int → ByteArray → Bool) (r : Rq) (n : Nat) (p : Int) (d : ByteArray) : Bool := F p d || (r.write && (decide (r.lo + n ≤ p ∧ p < r.lo + r.many) && decide (r.data[(p - r.lo).toNat]? = some d)))
theorem fr_split {a l : List Rq} {k : Nat} {r : Rq} (hk : l[k]? = some r) (hr : ReqOk r) (p : Int) (d : ByteArray) : frB (a ++ l) p d = restF (frB (a ++ l.eraseIdx k)) r 0 p d := by
  rw [Bool.eq_iff_iff]
  unfold restF
  rw [Bool.or_eq_true, frB_iff, frB_iff, InW.app, InW.app]
  have hpm : InW l p d ↔ InW (l.eraseIdx k ++ [r]) p d := InW.perm (perm_back hk)
  rw [hpm, InW.app]
  have h1 : InW [r] p d ↔ (r.write && (decide (r.lo + (0 : Nat) ≤ p ∧ p < r.lo + r.many) && decide (r.data[(p - r.lo).toNat]? = some d))) = true := by
    unfold InW
    simp only [List.mem_singleton, exists_eq_left, Bool.and_eq_true, decide_eq_true_eq, hasB_iff]
    constructor
    · rintro ⟨h1, h2, h3⟩; exact ⟨h1, by omega, h3⟩
    · rintro ⟨h1, h2, h3⟩; exact ⟨h1, by omega, h3⟩
  rw [h1]
  constructor
  · rintro (h | h | h)
    · exact .inl (.inl h)
    · exact .inl (.inr h)
    · exact .inr h
  · rintro ((h | h) | h)
    · exact .inl h
    · exact .inr (.inl h)
    · exact .inr (.inr h)
theorem restF_end (F : Int → ByteArray → Bool) {r : Rq} {n : Nat} (hn : r.many ≤ n) : restF F r n = F := by
  funext p d
  unfold restF
  rw [show decide (r.lo + n ≤ p ∧ p < r.lo + r.many) = false by rw [decide_eq_false_iff_not]; omega]
  simp
/-- The requests that the disk has left. -/
def flD (s : St) (k : Nat) : List Rq := s.wait ++ s.v.d.l.eraseIdx k
theorem flS_did {s : St} {k : Nat} {r : Rq} : flS (s.did k r) = flD s k := by
  unfold flS flD St.did
  simp only [ended_l]
theorem flS_keeps {s t : St} (h : Keeps s t) : flS t = flS s := by unfold flS; rw [h.wait, h.l]
/-- The stages of a request that the disk has done. -/
structure Stg (s : St) (k : Nat) (r : Rq) (n : Nat) (t : St) : Prop where
  inv : Inv t
  inv2 : Inv2 t
  fl : flS t = flD s k
  pu : potU (restF (frB (flD s k)) r n) t.bufs ≤ potU (frB (flS s)) s.bufs
  ws : wsum (GX (fun p => !r.write && hasB r.lo r.many p) t) t ≤ wsum (GX (fun _ => false) s) s
  dk : Dk s t ∨ r.write = true
  new : r.write = false → ∀ p v, r.lo + n ≤ p → p < r.lo + r.many → atB t.bufs p = some v → v.2 = true
  gone : r.write = false → ∀ c a, t.askAt c = some a → a.kind = 1 → r.lo ≤ a.pos → a.pos < r.lo + n → ∃ d, atB t.bufs a.pos = some (d, true)
theorem stg0 {s : St} (h : Inv s) (h2 : Inv2 s) {k : Nat} {r : Rq} (hk : s.v.d.l[k]? = some r) : Stg s k r 0 (s.did k r) := by
  have hr := reqF_zero (h.dv.l r (List.mem_of_getElem? hk))
  have hsub : ∀ p, InR (flD s k) p → InR (flS s) p := fun p hp => by
    obtain ⟨q, hq, hx⟩ := hp
    exact ⟨q, (List.mem_append.1 hq).elim (fun h => List.mem_append.2 (.inl h)) (fun h => List.mem_append.2 (.inr (mem_er h))), hx⟩
  refine ⟨h.did hk, h2.flow rfl (fun p hp => hsub p (by rw [← flS_did (r := r)]; exact hp)), flS_did, ?_, ?_, .inl (.of_eq rfl), fun hw p v h1 h3 hv => ?_, fun hw c a ha hk1 h1 h3 => by omega⟩
  · have e : restF (frB (flD s k)) r 0 = frB (flS s) := by funext p d; exact (fr_split (a := s.wait) hk hr p d).symm
    rw [e]; exact Nat.le_refl _
  · refine Nat.le_trans (wsum_mono (G := GX (fun _ => false) s) (fun p hp => ?_) (s.did k r)) (Nat.le_of_eq (wsum_same (fun _ => rfl)))
    unfold GX at hp ⊢
    rw [Bool.or_false] at hp
    rw [flS_did]
    have hp' := rdB_iff.1 hp
    unfold flS at hp'
    rw [InR.app] at hp'
    have hpm : InR s.v.d.l p ↔ InR (s.v.d.l.eraseIdx k ++ [r]) p := InR.perm (perm_back hk)
    rw [hpm, InR.app] at hp'
    rw [Bool.or_eq_true]
    rcases hp' with h1 | h1 | h1
    · exact .inl (rdB_iff.2 (InR.app.2 (.inl h1)))
    · exact .inl (rdB_iff.2 (InR.app.2 (.inr h1)))
    · obtain ⟨q, hq, hw, hx⟩ := h1
      simp at hq; subst hq
      right
      show (!q.write && hasB q.lo q.many p) = true
      rw [hw, hx]; rfl
  · refine h2.rd p ?_ v hv
    exact ⟨r, List.mem_append.2 (.inr (List.mem_of_getElem? hk)), hw, by rw [hasB_iff]; omega⟩
theorem tell1_bufs (p : Int) (d : ByteArray) (s : St) (c : Nat) : (St.tell1 p d s c).bufs = s.bufs := by unfold St.tell1; split; rfl; split <;> rfl
theorem tell_bufs (s : St) (p : Int) (d : ByteArray) : (s.tell p d).bufs = s.bufs := by unfold St.tell; rw [tell1_bufs, tell1_bufs, tell1_bufs]
/-- Who is told asks for nothing more; who isn't told asks for what it did, and not for that. -/
theorem tell1_ask {s : St} (h : Inv s) (p : Int) (d : ByteArray) {c j : Nat} (hc : c < 3) : (St.tell1 p d s c).askAt j = s.askAt j ∨ (j = c ∧ (St.tell1 p d s c).askAt j = none) := by
  unfold St.tell1
  split
  · exact .inl rfl
  · split
    · by_cases e : j = c
      · subst e; exact .inr ⟨rfl, ans_none_c h hc _ _⟩
      · exact .inl (ans_ne e _ _)
    · exact .inl rfl
theorem tell1_miss2 {s : St} (h : Inv s) {p : Int} {d : ByteArray} {c : Nat} (hc : c < 3) {a : Ak} (ha : (St.tell1 p d s c).askAt c = some a) : ¬ (a.kind = 1 ∧ a.pos = p) := by
  unfold St.tell1 at ha
  cases ho : s.askAt c with
  | none => rw [ho] at ha; simp only at ha; rw [ho] at ha; cases ha
  | some b =>
    rw [ho] at ha
    simp only at ha
    split at ha
    · rw [ans_none_c h hc] at ha; cases ha
    · rename_i hn
      rw [ho] at ha; cases ha; exact hn
theorem tell_ask {s : St} (h : Inv s) {p : Int} {d : ByteArray} (hd : d.size ≤ 16) (j : Nat) : (s.tell p d).askAt j = s.askAt j ∨ (s.tell p d).askAt j = none := by
  have h0 := h.tell1 (p := p) hd 0
  have h1 := h0.tell1 (p := p) hd 1
  unfold St.tell
  rcases tell1_ask h1 p d (c := 2) (j := j) (by omega) with e | ⟨_, e⟩
  · rw [e]
    rcases tell1_ask h0 p d (c := 1) (j := j) (by omega) with e | ⟨_, e⟩
    · rw [e]
      rcases tell1_ask h p d (c := 0) (j := j) (by omega) with e | ⟨_, e⟩
      · exact .inl e
      · exact .inr e
    · exact .inr e
  · exact .inr e
theorem tell_gone {s : St} (h : Inv s) {p : Int} {d : ByteArray} (hd : d.size ≤ 16) {c : Nat} {a : Ak} (hc : c < 3) (ha : (s.tell p d).askAt c = some a) : ¬ (a.kind = 1 ∧ a.pos = p) := by
  have h0 := h.tell1 (p := p) hd 0
  have h1 := h0.tell1 (p := p) hd 1
  unfold St.tell at ha
  match c, hc with
  | 0, _ => rw [tell1_ne _ (by decide), tell1_ne _ (by decide)] at ha; exact tell1_miss2 h (by omega) ha
  | 1, _ => rw [tell1_ne _ (by decide)] at ha; exact tell1_miss2 h0 (by omega) ha
  | 2, _ => exact tell1_miss2 h1 (by omega) ha
theorem ask_lt {s : St} (h : Inv s) {c : Nat} {a : Ak} (ha : s.askAt c = some a) : c < 3 := by
  unfold St.askAt at ha
  rw [List.getD_eq_getElem?_getD] at ha
  rcases Nat.lt_or_ge c s.asks.length with h1 | h1
  · rw [h.asks] at h1; exact h1
  · rw [List.getElem?_eq_none h1] at ha; cases ha
theorem wtO_none_le (G : Int → Bool) {o o' : Option Ak} (h : o' = o ∨ o' = none) : wtO G o' ≤ wtO G o := by
  rcases h with rfl | rfl
  · exact Nat.le_refl _
  · rw [wtO_none]; exact Nat.zero_le _
theorem wsum_less (G : Int → Bool) {s t : St} (h : ∀ j, t.askAt j = s.askAt j ∨ t.askAt j = none) : wsum G t ≤ wsum G s := by
  unfold wsum
  have h0 := wtO_none_le G (h 0)
  have h1 := wtO_none_le G (h 1)
  have h2 := wtO_none_le G (h 2)
  omega
end Go.Proofs.Ytojmnfelecnenaa
namespace Go.Proofs.Ytojmnfelecnenaa
set_option linter.unusedSimpArgs false
set_option linter.unusedVariables false

theorem nheld {s t : St} (h : Inv s) {k : Nat} {r : Rq} (hk : s.v.d.l[k]? = some r) (hf : flS t = flD s k) {p : Int} (hp : hasB r.lo r.many p = true) : ¬ InR (flS t) p := by
  intro hr
  have h1 := not_held (a := s.wait) h.good hk hp
  rw [hf] at hr
  have h2 : heldL' (s.wait ++ s.v.d.l.eraseIdx k) p = true := by
    obtain ⟨q, hq, _, hx⟩ := hr
    exact held_iff.2 ⟨q, hq, hx⟩
  rw [h2] at h1; cases h1
theorem stg_w {s t : St} (h : Inv s) {k n : Nat} {r : Rq} (hk : s.v.d.l[k]? = some r) (hw : r.write = true) (hn : (n : Int) < r.many) {e : ByteArray} (he : r.data[n]? = some e) (hS : Stg s k r n t) (hI : Inv (t.ended1 true (r.lo + n) e)) : Stg s k r (n + 1) (t.ended1 true (r.lo + n) e) := by
  have hr := reqF_zero (h.dv.l r (List.mem_of_getElem? hk))
  have e0 : t.ended1 true (r.lo + n) e = { t with bufs := cleanB t.bufs (r.lo + n) e } := by unfold St.ended1; rw [if_pos rfl]
  rw [e0] at hI ⊢
  have hin : hasB r.lo r.many (r.lo + n) = true := by rw [hasB_iff]; omega
  refine ⟨hI, ?_, hS.fl, ?_, hS.ws, .inr hw, fun h => (by rw [hw] at h; cases h), fun h => (by rw [hw] at h; cases h)⟩
  · refine hS.inv2.of (fun p v hv => ?_) (fun p hp => .inl hp)
    have hv' : atB (cleanB t.bufs (r.lo + n) e) p = some v := hv
    by_cases hp : p = r.lo + n
    · subst hp
      rw [atB_clean hS.inv.rises] at hv'
      obtain ⟨u, hu, rfl⟩ := Option.map_eq_some_iff.1 hv'
      by_cases hue : u.1 = e
      · right; right
        exact ⟨by simp [hue], nheld h hk hS.fl hin⟩
      · right; left
        rw [hu, if_neg hue]
    · rw [atB_clean_ne hS.inv.rises e hp] at hv'
      exact .inr (.inl hv')
  · refine Nat.le_trans ?_ hS.pu
    show potU _ (cleanB t.bufs (r.lo + n) e) ≤ _
    unfold potU cnt cleanB
    rw [List.countP_map]
    apply List.countP_mono_left
    intro b _ hb
    simp only [Function.comp] at hb
    split at hb
    · simp at hb
    · rename_i hne
      simp only [Bool.and_eq_true, Bool.not_eq_true'] at hb ⊢
      refine ⟨hb.1, ?_⟩
      have hb2 := hb.2
      unfold restF at hb2 ⊢
      rw [Bool.or_eq_false_iff] at hb2 ⊢
      refine ⟨hb2.1, ?_⟩
      rw [Bool.eq_false_iff]
      intro hx
      simp only [Bool.and_eq_true, decide_eq_true_eq] at hx
      obtain ⟨_, hx2, hx3⟩ := hx
      have hb3 := hb2.2
      by_cases hpp : b.pos = r.lo + n
      · rw [hpp, show (r.lo + (n : Int) - r.lo).toNat = n by omega, he] at hx3
        cases hx3
        exact hne ⟨hpp, rfl⟩
      · rw [hw, show decide (r.lo + ((n + 1 : Nat) : Int) ≤ b.pos ∧ b.pos < r.lo + r.many) = true by rw [decide_eq_true_iff]; omega, show decide (r.data[(b.pos - r.lo).toNat]? = some b.data) = true by rw [decide_eq_true_iff]; exact hx3] at hb3
        exact absurd hb3 (by decide)
theorem restF_r {F : Int → ByteArray → Bool} {r : Rq} (hw : r.write = false) (n : Nat) : restF F r n = F := by
  funext p d
  unfold restF
  rw [hw]; simp
theorem stg_r {s t : St} (h : Inv s) {k n : Nat} {r : Rq} (hk : s.v.d.l[k]? = some r) (hw : r.write = false) (hn : (n : Int) < r.many) {e : ByteArray} (he : e.size ≤ 16) (hS : Stg s k r n t) (hI : Inv (t.ended1 false (r.lo + n) e)) : Stg s k r (n + 1) (t.ended1 false (r.lo + n) e) := by
  have hr := reqF_zero (h.dv.l r (List.mem_of_getElem? hk))
  obtain ⟨a1, a2, a3, a4, a5⟩ := hr.span
  have hin : hasB r.lo r.many (r.lo + n) = true := by rw [hasB_iff]; omega
  have hkeep := flS_keeps (Keeps.ended1 t false (r.lo + n) e)
  have hpu : potU (frB (flD s k)) t.bufs ≤ potU (frB (flS s)) s.bufs := by have := hS.pu; rw [restF_r hw] at this; exact this
  unfold St.ended1 at hI hkeep ⊢
  rw [if_neg (by decide)] at hI hkeep ⊢
  split
  · rename_i hg
    refine ⟨hS.inv, hS.inv2, hS.fl, by rw [restF_r hw]; exact hpu, hS.ws, hS.dk, fun _ p v h1 h2 hv => hS.new hw p v (by omega) h2 hv, fun _ c a ha hk1 h1 h2 => ?_⟩
    by_cases hp : a.pos = r.lo + n
    · obtain ⟨x, hx, hxp, _, hat⟩ := Inv.getB_atB hS.inv.rises hg
      have := hS.new hw (r.lo + n) _ (Int.le_refl _) (by omega) hat
      simp only at this
      rw [hp]
      exact ⟨x.data, by rw [hat, this]⟩
    · exact hS.gone hw c a ha hk1 h1 (by omega)
  · rename_i hg
    rw [if_neg hg] at hI hkeep
    have hat : atB t.bufs (r.lo + n) = none := by unfold atB; rw [if_neg hg]
    have hu := hS.inv.use0
    obtain ⟨m, hm⟩ : ∃ m, (putB t.bufs ⟨r.lo + n, e, false, t.use + 1⟩ t.heldP).getD t.bufs = m := ⟨_, rfl⟩
    rw [hm] at hI hkeep ⊢
    have key : Inv { t with use := t.use + 1, bufs := m } ∧ potU (frB (flD s k)) m ≤ potU (frB (flD s k)) t.bufs ∧ (∀ p v, p ≠ r.lo + n → atB m p = some v → atB t.bufs p = some v) ∧ (∀ v, atB m (r.lo + n) = some v → v.2 = false) ∧ (∀ p d, atB t.bufs p = some (d, true) → atB m p = some (d, true)) := by
      cases hp : putB t.bufs ⟨r.lo + n, e, false, t.use + 1⟩ t.heldP with
      | none =>
        rw [hp] at hm
        simp only [Option.getD_none] at hm
        subst hm
        exact ⟨hS.inv.use1 (show t.use ≤ t.use + 1 by omega), Nat.le_refl _, fun p v _ hv => hv, fun v hv => (by rw [hat] at hv; cases hv), fun p d hd => hd⟩
      | some m' =>
        rw [hp] at hm
        simp only [Option.getD_some] at hm
        subst hm
        refine ⟨hS.inv.putB hp (by simp only; omega) he (show t.use ≤ t.use + 1 by omega) (by simp only; omega) (fun h => by cases h) (.inr hat), potU_putc _ hS.inv.rises rfl hp, fun p v hne hv => ?_, fun v hv => ?_, fun p d hd => ?_⟩
        · rcases atB_put_ne hS.inv.rises hS.inv.len8 hp hne with h1 | ⟨h1, _⟩
          · exact h1.symm.trans hv
          · rw [h1] at hv; cases hv
        · have e1 := atB_put hS.inv.rises hS.inv.len8 hp
          rw [e1] at hv; cases hv; rfl
        · have hne : p ≠ r.lo + n := by rintro rfl; rw [hat] at hd; cases hd
          rcases atB_put_ne hS.inv.rises hS.inv.len8 hp hne with h1 | ⟨_, _, d', h1⟩
          · exact h1.trans hd
          · rw [hd] at h1; cases h1
    obtain ⟨hI1, k1, k2, k3, k4⟩ := key
    have hbf : (({ t with use := t.use + 1, bufs := m } : St).tell (r.lo + n) e).bufs = m := tell_bufs _ _ _
    have htk := fun j => tell_ask hI1 (p := r.lo + n) he j
    have hfl : flS (({ t with use := t.use + 1, bufs := m } : St).tell (r.lo + n) e) = flD s k := hkeep.trans hS.fl
    refine ⟨hI, ?_, hfl, ?_, ?_, ?_, fun _ p v h1 h2 hv => ?_, fun _ c a ha hk1 h1 h2 => ?_⟩
    · refine hS.inv2.of (fun p v hv => ?_) (fun p hp => .inl (by rw [hkeep] at hp; exact hp))
      rw [hbf] at hv
      by_cases hp : p = r.lo + n
      · subst hp
        exact .inr (.inr ⟨k3 v hv, nheld h hk hfl hin⟩)
      · exact .inr (.inl (k2 p v hp hv))
    · rw [restF_r hw, hbf]; exact Nat.le_trans k1 hpu
    · refine Nat.le_trans ?_ hS.ws
      have e1 : GX (fun p => !r.write && hasB r.lo r.many p) (({ t with use := t.use + 1, bufs := m } : St).tell (r.lo + n) e) = GX (fun p => !r.write && hasB r.lo r.many p) t := by
        unfold GX; rw [hfl, hS.fl]
      rw [e1]
      exact wsum_less _ htk
    · rcases hS.dk with hd | hd
      · exact .inl (hd.trans fun p d hp => ⟨d, by rw [hbf]; exact k4 p d hp⟩)
      · exact .inr hd
    · rw [hbf] at hv
      exact hS.new hw p v (by omega) h2 (k2 p v (by omega) hv)
    · rw [hbf]
      have hc3 := ask_lt hI ha
      by_cases hp : a.pos = r.lo + n
      · exact absurd ⟨hk1, hp⟩ (tell_gone hI1 he hc3 ha)
      · have ha' : t.askAt c = some a := by
          rcases htk c with e2 | e2
          · rw [e2] at ha; exact ha
          · rw [e2] at ha; cases ha
        obtain ⟨d, hd⟩ := hS.gone hw c a ha' hk1 h1 (by omega)
        exact ⟨d, k4 _ d hd⟩
theorem stgN {s : St} (h : Inv s) (h2 : Inv2 s) {k : Nat} {r : Rq} (hk : s.v.d.l[k]? = some r) : ∀ n : Nat, n ≤ r.many.toNat → Stg s k r n ((s.did k r).endedN r.write r.lo (s.outs r) n)
  | 0, _ => stg0 h h2 hk
  | n + 1, hn => by
    have hr := reqF_zero (h.dv.l r (List.mem_of_getElem? hk))
    obtain ⟨a1, a2, a3, a4, a5⟩ := hr.span
    have hS := stgN h h2 hk n (by omega)
    have hI := h.endedN hk (n + 1) hn
    rw [St.endedN] at hI ⊢
    cases hw : r.write with
    | true =>
      rw [hw] at hS hI
      have hl := hr.len hw
      have he : r.data[n]? = some ((s.outs r).getD n noB) := by
        unfold St.outs
        rw [if_pos hw, List.getD_eq_getElem?_getD, List.getElem?_eq_getElem (by omega)]; rfl
      exact stg_w h hk hw (by omega) he hS hI
    | false =>
      rw [hw] at hS hI
      exact stg_r h hk hw (by omega) (getD_size (h.outs_size hk) n) hS hI
/-- The disk has done a request: less is left to be done. -/
theorem pt_ok {s : St} (h : Inv s) (h2 : Inv2 s) {k : Nat} {r : Rq} (hk : s.v.d.l[k]? = some r) : pot ((s.did k r).endedN r.write r.lo (s.outs r) r.many.toNat).serve + 1 ≤ pot s ∧ Inv2 ((s.did k r).endedN r.write r.lo (s.outs r) r.many.toNat).serve := by
  have hr := reqF_zero (h.dv.l r (List.mem_of_getElem? hk))
  obtain ⟨a1, a2, a3, a4, a5⟩ := hr.span
  have hS := stgN h h2 hk r.many.toNat (Nat.le_refl _)
  generalize (s.did k r).endedN r.write r.lo (s.outs r) r.many.toNat = t at hS ⊢
  have hz : Zr (fun p => !r.write && hasB r.lo r.many p) t := fun c a ha hk1 hx => by
    rw [Bool.and_eq_true, Bool.not_eq_true', hasB_iff] at hx
    exact hS.gone hx.1 c a ha hk1 hx.2.1 (by omega)
  obtain ⟨s1, _, _, s4⟩ := sv_serve hS.inv hS.inv2 hz
  refine ⟨?_, s4⟩
  have hlen : (flD s k).length + 1 = (flS s).length := by
    have hk' := (List.getElem?_eq_some_iff.1 hk).1
    unfold flD flS
    rw [List.length_append, List.length_append, List.length_eraseIdx, if_pos hk']
    omega
  have hpu := hS.pu
  rw [restF_end _ (show r.many ≤ ((r.many.toNat : Nat) : Int) by omega)] at hpu
  have hws := hS.ws
  unfold potX at s1
  rw [hS.fl] at s1
  show pot t.serve + 1 ≤ potX _ s
  unfold potX
  omega
/-- Whatever is done, what is read is not at hand, or dirty. -/
theorem Inv2.end_ {s : St} (h : Inv s) (h2 : Inv2 s) (i : Int) (f : Bool) : Inv2 (s.end_ i f).1 := by
  have hE := St.ended_of s i f h.dv.two
  generalize (s.end_ i f).1 = t at hE
  generalize (s.end_ i f).2 = e at hE
  cases hE with
  | none _ => exact h2
  | again k r hk _ _ h3 => exact h2.flow rfl (fun p hp => (InR.perm (List.Perm.append_left _ (perm_back hk).symm)).1 hp)
  | gone k r hk _ _ _ =>
    have hi : Inv2 (s.gone k r) := h2.flow rfl (fun p hp => by
      obtain ⟨q, hq, hx⟩ := hp
      exact ⟨q, (List.mem_append.1 hq).elim (fun h => List.mem_append.2 (.inl h)) (fun h => List.mem_append.2 (.inr (mem_er h))), hx⟩)
    have hb : ∀ u : St, ∀ c, (St.wrong1 r u c).bufs = u.bufs := fun u c => by
      unfold St.wrong1; split
      · rfl
      · split <;> rfl
    have hk : ∀ u : St, Inv2 u → ∀ c, Inv2 (St.wrong1 r u c) := fun u hu c => hu.flow (hb u c) (fun p hp => by rw [flS_keeps (Keeps.wrong1 r u c)] at hp; exact hp)
    have h0 : Inv2 { s.gone k r with dead := (s.gone k r).dead || r.write } := hi.flow rfl (fun _ h => h)
    have hw : Inv2 ((s.gone k r).wrong r) := hk _ (hk _ (hk _ h0 0) 1) 2
    exact (pt_serve ((h.gone ‹_›).wrong r) hw).2.2.2
  | ok k r hk _ _ => exact (pt_ok h h2 hk).2
theorem Inv2.new {d : Dv} (hl : d.l = []) : Inv2 (St.new d) := by
  refine ⟨fun p hp => ?_, fun p v hv => ?_⟩
  · obtain ⟨r, hr, _⟩ := hp
    simp [flS, St.new, hl] at hr
  · simp [St.new, atB, getB] at hv
theorem Inv2.ask_ {s : St} (h : Inv s) (h2 : Inv2 s) (c k p : Int) (d : ByteArray) : Inv2 (s.ask c k p d).1 := by
  have hI := h.ask_ c k p d
  unfold St.ask at hI ⊢
  split
  · exact h2
  · rename_i h1
    split
    · exact h2
    · rename_i h3
      split
      · exact h2
      · refine (pt_serve (s := { s with asks := s.asks.set c.toNat _ }) ?_ (h2.flow rfl (fun _ h => h))).2.2.2
        refine h.asked (by omega) (by omega) (by omega) ?_
        split
        · exact h.dirtyAt_ok
        · simp
theorem Inv2.round {s : St} (h : Inv s) (h2 : Inv2 s) : Inv2 s.round :=
  Inv2.end_ h.tick.clean.go (pt_go h.tick.clean (pt_clean h.tick (pt_tick h h2).2.2).2.2).2.2 0 false
theorem Inv2.stepM {s : St} (h : Inv s) (h2 : Inv2 s) (z : Sp) : Inv2 (Go.Proofs.Ytojmnfelecnenaa.stepM s z).1 := by
  unfold Go.Proofs.Ytojmnfelecnenaa.stepM
  split
  · exact h2.ask_ h ..
  · exact h2.ask_ h ..
  · exact h2.ask_ h ..
  · exact (pt_tick h h2).2.2
  · exact (pt_clean h h2).2.2
  · exact (pt_dispatch h h2).2.2
  · exact h2.end_ h ..
  · exact h2.end_ h ..
  · exact h2.round h
  · exact h2
theorem Inv2.stepsM {s : St} (h : Inv s) (h2 : Inv2 s) : ∀ l, Inv2 (Go.Proofs.Ytojmnfelecnenaa.stepsM s l) := by
  intro l
  unfold Go.Proofs.Ytojmnfelecnenaa.stepsM
  induction l generalizing s with
  | nil => exact h2
  | cons z l ih => exact ih (h.stepM z) (h2.stepM h z)
end Go.Proofs.Ytojmnfelecnenaa
namespace Go.Proofs.Ytojmnfelecnenaa
set_option linter.unusedSimpArgs false
set_option linter.unusedVariables false

theorem flS_nil {s : St} : flS s = [] ↔ s.wait = [] ∧ s.v.d.l = [] := by unfold flS; rw [List.append_eq_nil_iff]
theorem not_heldP {s : St} (h : flS s = []) (p : Int) : s.heldP p = false := by
  rw [heldP_eq]
  show heldL' (flS s) p = false
  rw [h]; rfl
/-- Nothing is on its way: a request may be added. -/
theorem queue_ok {s : St} (h : Inv s) (hf : flS s = []) {w : Bool} {p : Int} {d : ByteArray} (hp : 0 ≤ p ∧ p ≤ 31) (hd : d.size ≤ 4) : (s.queue w p d).2 = true := by
  unfold St.queue
  have hw := (flS_nil.1 hf).1
  rw [if_pos]
  exact add_room (h.reqOf_ok hp hd) (fun x hx => by rw [hw] at hx; cases hx) (by rw [hw]; simp)
theorem queue_some {s : St} (h : Inv s) {w : Bool} {p : Int} {d : ByteArray} (hq : (s.queue w p d).2 = true) : flS (s.queue w p d).1 ≠ [] := fun hf => by
  have := (h.queued hq).1.len.2
  rw [(flS_nil.1 hf).1] at this
  simp at this
/-- Why a client isn't answered, that isn't: something is dirty, and may be written. -/
structure Blk (s : St) (a : Ak) : Prop where
  kind : a.kind = 2 ∨ a.kind = 3
  dead : s.dead = false
  dirty : ∃ p d, atB s.bufs p = some (d, true)
theorem dirty_some {s : St} (h : Inv s) (hd : 0 < dirtyB s.bufs) : ∃ p d, atB s.bufs p = some (d, true) := by
  rw [dirty_cnt] at hd
  obtain ⟨x, hx, hy⟩ := cnt_pos hd
  have hy' : x.dirty = true := hy
  exact ⟨x.pos, x.data, by rw [atB_mem h.rises hx, hy']⟩
theorem put_none_all {l : List Bf} {b : Bf} {held : Int → Bool} (hp : putB l b held = none) : ∀ x ∈ l, x.dirty = false → held x.pos = true := by
  unfold putB at hp
  split at hp
  · cases hp
  · split at hp
    · split at hp
      · rename_i hv
        intro x hx hd
        obtain ⟨i, hi⟩ := List.mem_iff_getElem?.1 hx
        have := bestB_none hv i x (List.getElem?_eq_some_iff.1 hi).1 hi
        rw [hd] at this
        simpa using this
      · cases hp
    · cases hp
theorem blk1 {s : St} (h : Inv s) {c : Nat} (hc : c < 3) (hf : flS (s.serve1 c) = []) {a : Ak} (ha : (s.serve1 c).askAt c = some a) (h2 : Inv2 s) : Blk (s.serve1 c) a := by
  have hlen := (sv_serve1 (X := fun _ => false) hc h h2 (zr_none s)).len
  rw [hf] at hlen
  have hs : flS s = [] := List.length_eq_zero_iff.1 (by simpa using hlen)
  unfold St.serve1 at ha hf ⊢
  cases ho : s.askAt c with
  | none => rw [ho] at ha; simp only at ha; rw [ho] at ha; cases ha
  | some b =>
    rw [ho] at ha hf
    simp only at ha hf ⊢
    have hp := h.ask c b ho
    split at ha
    · rename_i hk
      rw [if_pos hk] at hf ⊢
      exfalso
      unfold St.read at ha hf
      split at ha
      · rw [ans_none_c (h.useB b.pos (s.use + 1) (by omega)) hc] at ha; cases ha
      · rename_i hg
        rw [if_neg hg, not_heldP hs, if_neg (by decide)] at hf
        exact queue_some h (queue_ok h hs ⟨hp.lo, hp.hi⟩ (by decide)) hf
    · rename_i hk
      rw [if_neg hk] at hf ⊢
      split at ha
      · rename_i hk2
        rw [if_pos hk2] at hf ⊢
        unfold St.write at ha ⊢
        split at ha
        · rw [ans_none_c h hc] at ha; cases ha
        · rename_i hd
          rw [if_neg hd]
          split at ha
          · rename_i h6
            rw [if_pos h6]
            rw [ho] at ha; cases ha
            rw [Bool.and_eq_true, decide_eq_true_eq] at h6
            exact ⟨.inl hk2, by simpa using hd, dirty_some h (by omega)⟩
          · rename_i h6
            rw [if_neg h6]
            cases hm : putB s.bufs ⟨b.pos, b.data, true, s.use + 1⟩ s.heldP with
            | some m =>
              rw [hm] at ha
              simp only at ha
              have hI := h.write (c := c) hp
              unfold St.write at hI
              rw [if_neg hd, if_neg h6, hm] at hI
              have e : (({ s with use := s.use + 1, bufs := m } : St).answer c noB 0).askAt c = none := by
                unfold St.askAt St.answer
                simp [List.getD_eq_getElem?_getD, List.getElem?_set, h.asks, hc]
              rw [e] at ha; cases ha
            | none =>
              exfalso
              have h8 := put_fail hm
              have hno := put_none_all hm
              have hall : dirtyB s.bufs = s.bufs.length := by
                unfold dirtyB
                rw [List.countP_eq_length]
                intro x hx
                cases hd : x.dirty with
                | true => rfl
                | false => have := hno x hx hd; rw [not_heldP hs] at this; cases this
              have := h.dirty
              omega
      · rename_i hk2
        rw [if_neg hk2] at hf ⊢
        have hk3 : b.kind = 3 := by have := hp.kind; omega
        rw [if_pos hk3] at ha ⊢
        unfold St.sync at ha ⊢
        split at ha
        · rw [ans_none_c h hc] at ha; cases ha
        · rename_i hd
          rw [if_neg hd]
          split at ha
          · rw [ans_none_c (s := { s with v := { s.v with d := s.v.d.flush } }) { h with dv := h.dv.flush } hc] at ha; cases ha
          · rename_i hl
            rw [if_neg hl]
            have e0 : ({ s with asks := s.asks.set c (some { b with left := b.left.filter (St.still s.bufs) }) } : St).askAt c = some { b with left := b.left.filter (St.still s.bufs) } := by
              unfold St.askAt
              simp [List.getD_eq_getElem?_getD, List.getElem?_set, h.asks, hc]
            rw [e0] at ha
            cases ha
            obtain ⟨p, hpm⟩ := List.exists_mem_of_ne_nil _ hl
            obtain ⟨d, hd'⟩ := h.still_at.1 (List.mem_filter.1 hpm).2
            exact ⟨.inr hk3, by simpa using hd, p, d, hd'⟩
theorem blk_step {s t : St} {a : Ak} (h : Blk s a) (hd : t.dead = s.dead) (hk : Dk s t) : Blk t a := by
  obtain ⟨p, d, hp⟩ := h.dirty
  obtain ⟨d', hp'⟩ := hk p d hp
  exact ⟨h.kind, hd.trans h.dead, p, d', hp'⟩
/-- All were served, and nothing is on its way. -/
theorem blk_serve {s : St} (h : Inv s) (h2 : Inv2 s) (hf : flS s.serve = []) {c : Nat} {a : Ak} (hc : c < 3) (ha : s.serve.askAt c = some a) : Blk s.serve a := by
  have s0 := sv_serve1 (X := fun _ => false) (c := 0) (by omega) h h2 (zr_none s)
  have i0 := h.serve1 0
  have s1 := sv_serve1 (X := fun _ => false) (c := 1) (by omega) i0 s0.inv2 (zr_none _)
  have i1 := i0.serve1 1
  have s2 := sv_serve1 (X := fun _ => false) (c := 2) (by omega) i1 s1.inv2 (zr_none _)
  have f2 : flS (((s.serve1 0).serve1 1).serve1 2) = [] := hf
  have f1 : flS ((s.serve1 0).serve1 1) = [] := List.length_eq_zero_iff.1 (by have := s2.len; rw [f2] at this; simpa using this)
  have f0 : flS (s.serve1 0) = [] := List.length_eq_zero_iff.1 (by have := s1.len; rw [f1] at this; simpa using this)
  have ha' : (((s.serve1 0).serve1 1).serve1 2).askAt c = some a := ha
  show Blk (((s.serve1 0).serve1 1).serve1 2) a
  match c, hc with
  | 0, _ =>
    rw [serve1_ne _ (by decide), serve1_ne _ (by decide)] at ha'
    exact blk_step (blk_step (blk1 h (by omega) f0 ha' h2) (serve1_dead ..) s1.dk) (serve1_dead ..) s2.dk
  | 1, _ =>
    rw [serve1_ne _ (by decide)] at ha'
    exact blk_step (blk1 i0 (by omega) f1 ha' s0.inv2) (serve1_dead ..) s2.dk
  | 2, _ => exact blk1 i1 (by omega) f2 ha' s1.inv2
theorem pressed_ask {s : St} {c : Nat} {a : Ak} (ha : s.askAt c = some a) (hk : a.kind = 2 ∨ a.kind = 3) : s.pressed = true := by
  unfold St.pressed
  rw [Bool.or_eq_true]
  right
  rw [List.any_eq_true]
  refine ⟨some a, ?_, ?_⟩
  · unfold St.askAt at ha
    rw [List.getD_eq_getElem?_getD] at ha
    cases hj : s.asks[c]? with
    | none => rw [hj] at ha; cases ha
    | some o => rw [hj] at ha; simp only [Option.getD_some] at ha; subst ha; exact List.mem_of_getElem? hj
  · rcases hk with hk | hk <;> simp [isKind, hk]
/-- Nothing is on its way, somebody waits to write, or something is dirty: a sector is asked to be written. -/
theorem clean_true {s : St} (h : Inv s) (h2 : Inv2 s) (hf : flS s = []) (hd : s.dead = false) (hp : s.pressed = true) (hx : ∃ p d, atB s.bufs p = some (d, true)) : s.clean.2 = true := by
  unfold St.clean
  rw [hd, hp, if_neg (by decide)]
  obtain ⟨p, d, hpd⟩ := hx
  obtain ⟨x, hxm, hxp, _, hxd, _⟩ := atB_some h.rises hpd
  split
  · rename_i hn
    have := (pick_none (fun b hb => (h.inb b hb).1) hn).2.2 x hxm hxd
    rw [not_heldP hf] at this; cases this
  · rename_i hn
    obtain ⟨y, hy, hpos, hg, hyd, _⟩ := pick_some h.rises hn
    rw [hg, ← hpos]
    refine queue_ok h hf (h.inb y hy) ?_
    have := h2.sm y.pos (y.data, y.dirty) (atB_mem h.rises hy) hyd
    exact this
/-- Behind a tick nothing is on its way: a sector is asked to be written, or nobody waits. -/
theorem tick_idle {s : St} (h : Inv s) (h2 : Inv2 s) (hf : flS s.tick = []) : s.tick.clean.2 = true ∨ ∀ c, c < 3 → s.tick.askAt c = none := by
  cases hc : s.tick.clean.2 with
  | true => exact .inl rfl
  | false =>
    right
    intro c hc3
    cases ha : s.tick.askAt c with
    | none => rfl
    | some a =>
      exfalso
      have hb := blk_serve (s := { s with now := min (s.now + 1) 1000000000 }) h.nowd (h2.flow rfl (fun _ h => h)) hf hc3 ha
      have := clean_true (s := s.tick) h.tick (pt_tick h h2).2.2 hf hb.dead (pressed_ask ha hb.kind) hb.dirty
      rw [this] at hc; cases hc
theorem clean_no {s : St} (h : s.clean.2 = false) : s.clean.1 = s := by
  unfold St.clean at *
  split
  · rfl
  · rename_i h1
    rw [if_neg h1] at h
    split
    · rfl
    · rename_i h3
      rw [if_neg h3] at h
      exact Inv.queue_no h
theorem clean_asks (s : St) : s.clean.1.asks = s.asks := by
  unfold St.clean
  split
  · rfl
  · split
    · rfl
    · unfold St.queue; split <;> rfl
/-- A round leaves less to be done, or all is quiet behind it. -/
theorem round_less {s : St} (h : Inv s) (h2 : Inv2 s) : pot s.round + 1 ≤ pot s ∨ s.round.quiet = true := by
  have t1 := pt_tick h h2
  have c1 := pt_clean h.tick t1.2.2
  have g1 := pt_go h.tick.clean c1.2.2
  by_cases hl : s.tick.clean.1.go.v.d.l = []
  · right
    have hf1 := go_idle h.tick.clean hl
    have hf0 : flS s.tick = [] := List.length_eq_zero_iff.1 (by have := c1.2.1; rw [hf1] at this; simpa using this)
    have hq : s.tick.clean.2 = false := by
      cases hq : s.tick.clean.2 with
      | false => rfl
      | true =>
        exfalso
        unfold St.clean at hq hf1
        split at hq
        · cases hq
        · rename_i h3
          rw [if_neg h3] at hf1
          split at hq
          · cases hq
          · rename_i h4
            rw [if_neg h4] at hf1
            exact queue_some h.tick hq hf1
    have hn := (tick_idle h h2 hf0).resolve_left (by rw [hq]; decide)
    have hce := clean_no hq
    have hd := Inv.dispatch_no (s := s.tick) (.inl (flS_nil.1 hf0).1)
    have hg : s.tick.clean.1.go = s.tick := by rw [hce]; unfold St.go; rw [hd, hd]
    have hr : s.round = s.tick := by
      unfold St.round
      rw [hg, St.end_none _ _ (.inr (by rw [(flS_nil.1 hf0).2]; simp))]
    rw [hr]
    exact (quiet_iff h.tick.asks).2 ⟨hn, (flS_nil.1 hf0).1, (flS_nil.1 hf0).2⟩
  · left
    obtain ⟨r, hr⟩ : ∃ r, s.tick.clean.1.go.v.d.l[0]? = some r := by
      cases hx : s.tick.clean.1.go.v.d.l with
      | nil => exact absurd hx hl
      | cons r l => exact ⟨r, rfl⟩
    have e := (pt_ok h.tick.clean.go g1.2.2 hr).1
    have he := St.end_ok (s := s.tick.clean.1.go) (k := 0) hr
    have hrd : s.round = ((s.tick.clean.1.go.did 0 r).endedN r.write r.lo (s.tick.clean.1.go.outs r) r.many.toNat).serve := by
      unfold St.round
      rw [show (0 : Int) = ((0 : Nat) : Int) from rfl, he]
    rw [hrd]
    have := t1.1
    have := c1.1
    have := g1.1
    omega
/-- Behind so many rounds all is quiet. -/
theorem settle_end : ∀ {n : Nat} {s : St}, Inv s → Inv2 s → pot s < n → (St.settle n s).1.quiet = true ∧ (St.settle n s).2 ≤ n
  | 0, s, _, _, hp => by omega
  | n + 1, s, h, h2, hp => by
    cases hq : s.quiet with
    | true => rw [settle_quiet hq]; exact ⟨hq, Nat.zero_le _⟩
    | false =>
      rw [settle_step hq]
      rcases round_less h h2 with h1 | h1
      · have := settle_end (n := n) h.round (h2.round h) (by omega)
        exact ⟨this.1, by simp only; omega⟩
      · rw [settle_quiet h1]
        exact ⟨h1, by simp only; omega⟩
theorem settle_50 {s : St} (h : Inv s) (h2 : Inv2 s) : (St.settle 50 s).1.quiet = true ∧ (St.settle 50 s).2 ≤ 50 := settle_end h h2 (by have := pot_le h; omega)
theorem Inv2.settle : ∀ {n : Nat} {s : St}, Inv s → Inv2 s → Inv2 (St.settle n s).1
  | 0, _, _, h2 => h2
  | n + 1, s, h, h2 => by
    unfold St.settle
    split
    · exact h2
    · exact Inv2.settle h.round (h2.round h)
/-- Nobody waits: nobody is served. -/
theorem serve_none {s : St} (h : ∀ c, c < 3 → s.askAt c = none) : s.serve = s := by
  unfold St.serve
  rw [serve1_none (h 0 (by omega)), serve1_none (h 1 (by omega)), serve1_none (h 2 (by omega))]
theorem clean_less {l : List Bf} {x : Bf} (hr : Rises l) (hx : x ∈ l) (hd : x.dirty = true) : dirtyB (cleanB l x.pos x.data) + 1 ≤ dirtyB l := by
  obtain ⟨j, hj⟩ := List.mem_iff_getElem?.1 hx
  have e1 := cnt_erase (fun _ _ y => y) l j x hj
  have hj' : (cleanB l x.pos x.data)[j]? = some { x with dirty := false } := by
    unfold cleanB
    rw [List.getElem?_map, hj]
    simp
  have e2 := cnt_erase (fun _ _ y => y) (cleanB l x.pos x.data) j _ hj'
  have e3 : (cleanB l x.pos x.data).eraseIdx j = cleanB (l.eraseIdx j) x.pos x.data := by
    unfold cleanB
    simp only [List.eraseIdx_eq_take_drop_succ, List.map_append, List.map_take, List.map_drop]
  have e4 := cnt_clean (fun _ _ y => y) (fun _ _ => rfl) (l.eraseIdx j) x.pos x.data
  rw [dirty_cnt, dirty_cnt, e1, e2, e3, hd]
  simp only [if_true]
  simp only [Bool.false_eq_true, if_false]
  omega
/-- A round, when all is quiet: it is quiet again; too much dirty becomes less. -/
structure Idle (s t : St) : Prop where
  quiet : t.quiet = true
  le : dirtyB t.bufs ≤ dirtyB s.bufs
  less : 3 ≤ dirtyB s.bufs → s.dead = false → dirtyB t.bufs + 1 ≤ dirtyB s.bufs
  dead : t.dead = s.dead
theorem round_idle {s : St} (h : Inv s) (h2 : Inv2 s) (hq : s.quiet = true) : Idle s s.round := by
  obtain ⟨hn, hw, hl⟩ := (quiet_iff h.asks).1 hq
  have ht : s.tick = { s with now := min (s.now + 1) 1000000000 } := serve_none hn
  have htn : ∀ c, c < 3 → s.tick.askAt c = none := fun c hc => by rw [ht]; exact hn c hc
  have hft : flS s.tick = [] := by rw [ht]; exact flS_nil.2 ⟨hw, hl⟩
  have hbt : s.tick.bufs = s.bufs := by rw [ht]
  have hdt : s.tick.dead = s.dead := tick_dead s
  have t1 := pt_tick h h2
  cases hc : s.tick.clean.2 with
  | false =>
    have hce := clean_no hc
    have hd := Inv.dispatch_no (s := s.tick) (.inl (flS_nil.1 hft).1)
    have hg : s.tick.clean.1.go = s.tick := by rw [hce]; unfold St.go; rw [hd, hd]
    have hr : s.round = s.tick := by
      unfold St.round
      rw [hg, St.end_none _ _ (.inr (by rw [(flS_nil.1 hft).2]; simp))]
    rw [hr]
    refine ⟨(quiet_iff h.tick.asks).2 ⟨htn, (flS_nil.1 hft).1, (flS_nil.1 hft).2⟩, by rw [hbt]; exact Nat.le_refl _, fun h3 hdd => ?_, hdt⟩
    exfalso
    have hp : s.tick.pressed = true := by
      unfold St.pressed
      rw [hbt, show decide (3 ≤ dirtyB s.bufs) = true by simpa using h3]; rfl
    have := clean_true h.tick t1.2.2 hft (hdt.trans hdd) hp (dirty_some h.tick (by rw [hbt]; omega))
    rw [this] at hc; cases hc
  | true =>
    obtain ⟨u, hu⟩ : ∃ u, s.tick = u := ⟨_, rfl⟩
    have hIu : Inv u := hu ▸ h.tick
    rw [hu] at hc hft htn hbt hdt
    have hcl : ∃ x ∈ u.bufs, x.dirty = true ∧ u.clean = u.queue true x.pos x.data := by
      unfold St.clean at hc ⊢
      split at hc
      · cases hc
      · rename_i h1
        rw [if_neg h1]
        split at hc
        · cases hc
        · rename_i h3
          rw [if_neg h3]
          obtain ⟨x, hx, hpos, hg, hd, hh, _⟩ := pick_some hIu.rises h3
          refine ⟨x, hx, hd, ?_⟩
          rw [hg, ← hpos]
    obtain ⟨x, hx, hxd, hce⟩ := hcl
    rw [hce] at hc
    have hxr := hIu.inb x hx
    have huw := (flS_nil.1 hft).1
    have hul := (flS_nil.1 hft).2
    have hq1 : (u.queue true x.pos x.data).1 = { u with wait := [u.reqOf true x.pos x.data], tag := u.tag + 1 } := by
      have h0 : (addM u.wait (u.reqOf true x.pos x.data)).2 = 0 := by
        unfold St.queue at hc
        split at hc
        · assumption
        · cases hc
      unfold St.queue
      rw [if_pos h0]
      have hok := add_ok (q := (addM u.wait (u.reqOf true x.pos x.data)).1) (Prod.ext rfl h0)
      have e : (addM u.wait (u.reqOf true x.pos x.data)).1 = [u.reqOf true x.pos x.data] := by
        rw [huw]
        have := addM_new (l := []) (r := u.reqOf true x.pos x.data) (reqF_ok hok) rfl rfl (by simp)
        rw [this]; rfl
      rw [e]
    obtain ⟨v, hv⟩ : ∃ v : St, v = { u with wait := [u.reqOf true x.pos x.data], tag := u.tag + 1 } := ⟨_, rfl⟩
    have hcv : u.clean.1 = v := by rw [hce, hq1, hv]
    have hIv : Inv v := hcv ▸ hIu.clean
    have hvw : v.wait = [u.reqOf true x.pos x.data] := by rw [hv]
    have hvl : v.v.d.l = [] := by rw [hv]; exact hul
    obtain ⟨j, r, t', hnx, hde⟩ := hIv.dispatched (by rw [hvw]; simp) (by rw [hvl]; simp)
    have hj : j = 0 := by have := hnx.lt; rw [hvw] at this; simpa using this
    subst hj
    have hre : r = u.reqOf true x.pos x.data := by have := hnx.get; rw [hvw] at this; simpa using this.symm
    have hd1 : v.dispatch.1 = { v with wait := [], turn := t', v := { v.v with d := { v.v.d with l := [r] } } } := by
      rw [hde, hvl, hvw]; rfl
    obtain ⟨y, hy⟩ : ∃ y, v.dispatch.1 = y := ⟨_, rfl⟩
    have hIy : Inv y := hy ▸ hIv.dispatch
    have hyw : y.wait = [] := by rw [← hy, hd1]
    have hyl : y.v.d.l = [r] := by rw [← hy, hd1]
    have hyb : y.bufs = u.bufs := by rw [← hy, hd1, hv]
    have hya : y.asks = u.asks := by rw [← hy, hd1, hv]
    have hyd : y.dead = u.dead := by rw [← hy, hd1, hv]
    have hgo : v.go = y := by
      unfold St.go
      rw [hy, Inv.dispatch_no (.inl hyw)]
    have hk0 : y.v.d.l[0]? = some r := by rw [hyl]; rfl
    have he := St.end_ok (s := y) (k := 0) hk0
    have hrw : r.write = true := by rw [hre]; rfl
    have hrl : r.lo = x.pos := by rw [hre]; rfl
    have hrm : r.many = 1 := by rw [hre]; rfl
    have hrd : r.data = [x.data] := by rw [hre]; rfl
    have hends : (y.did 0 r).endedN r.write r.lo (y.outs r) r.many.toNat = { y.did 0 r with bufs := cleanB u.bufs x.pos x.data } := by
      rw [hrm]
      show (y.did 0 r).ended1 r.write (r.lo + ((0 : Nat) : Int)) ((y.outs r).getD 0 noB) = _
      unfold St.ended1 St.outs
      rw [if_pos hrw, if_pos hrw, hrd, hrl]
      have : (y.did 0 r).bufs = u.bufs := hyb
      rw [this]
      simp
    have hrnd : s.round = { y.did 0 r with bufs := cleanB u.bufs x.pos x.data } := by
      unfold St.round
      rw [hu, hcv, hgo, show (0 : Int) = ((0 : Nat) : Int) from rfl, he, hends]
      refine serve_none fun c hc => ?_
      have : y.askAt c = none := by
        have := htn c hc
        unfold St.askAt at this ⊢
        rw [hya]; exact this
      exact this
    have hdl : (y.did 0 r).v.d.l = [] := by
      show (y.v.d.ended r 0 false).1.l = []
      rw [ended_l, hyl]; rfl
    have hless := clean_less hIu.rises hx hxd
    refine ⟨?_, ?_, fun h3 hdd => ?_, ?_⟩
    · rw [hrnd]
      refine (quiet_iff (s := { y.did 0 r with bufs := cleanB u.bufs x.pos x.data }) hIy.asks).2 ⟨fun c hc => ?_, hyw, hdl⟩
      have := htn c hc
      unfold St.askAt at this ⊢
      show y.asks.getD c none = none
      rw [hya]; exact this
    · rw [hrnd]
      show dirtyB (cleanB u.bufs x.pos x.data) ≤ _
      rw [← hbt]; omega
    · rw [hrnd]
      show dirtyB (cleanB u.bufs x.pos x.data) + 1 ≤ _
      rw [← hbt]; omega
    · rw [hrnd]
      show y.dead = s.dead
      rw [hyd, hdt]
end Go.Proofs.Ytojmnfelecnenaa
namespace Go.Proofs.Ytojmnfelecnenaa
set_option linter.unusedSimpArgs false
set_option linter.unusedVariables false
open Go.RowKit

theorem number_any (n : Nat) (w : World) : Calls Try.prog 28 #[errV n] w (RetSame (.int .i64 (n : Int)) w) := by
  by_cases h : n = 0
  · subst h
    rw [errV_zero]
    go_enter Try.func28, Try.ntmps28
    go_wp2
    go_ret
    exact ⟨rfl, rfl⟩
  · rw [errV_pos h]
    go_enter Try.func28, Try.ntmps28
    go_wp2
    go_ret
    exact ⟨rfl, rfl⟩
end Go.Proofs.Ytojmnfelecnenaa
