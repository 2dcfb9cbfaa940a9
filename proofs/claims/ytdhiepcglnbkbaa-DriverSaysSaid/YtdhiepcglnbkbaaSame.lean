
/- SameTexts, SameNumbers, SameReq, SameReqs: two lists, two requests. -/
import Derived.Test.YtdhiepcglnbkbaaMem
import Derived.Test.YtdhiepcglnbkbaaQuiet
import Derived.Test.YtdhiepcglnbkbaaSpan2
namespace Go.Proofs.Ytdhiepcglnbkbaa
set_option linter.unusedSimpArgs false
set_option linter.unusedVariables false
open Go.RowKit Go.Sort

theorem take_eq_succ {α : Type} (a b : List α) (k : Nat) (x : α) (h : a.take k = b.take k) (ha : a[k]? = some x) (hb : b[k]? = some x) : a.take (k + 1) = b.take (k + 1) := by
  rw [List.take_add_one, List.take_add_one, h, ha, hb]
theorem take_eq_end {α : Type} (a b : List α) (k : Nat) (h : a.take k = b.take k) (hl : a.length = b.length) (hk : a.length ≤ k) : a = b := by
  rwa [List.take_of_length_le hk, List.take_of_length_le (by omega)] at h
theorem ne_at {α : Type} (a b : List α) (k : Nat) (x y : α) (ha : a[k]? = some x) (hb : b[k]? = some y) (h : x ≠ y) : ¬ a = b := fun e => h (by rw [e, hb] at ha; cases ha; rfl)
theorem str_ne {s t : ByteArray} (h : ¬ s = t) : (!s.toList == t.toList) = true := by
  have : ¬ s.toList = t.toList := fun e => h (by
    rw [ByteArray.toList_eq, ByteArray.toList_eq] at e
    exact Go.WideShapes.bytes_inj e)
  simp [this]
/-- Are the two the same? -/
def eqB {α : Type} [DecidableEq α] (a b : α) : Bool := decide (a = b)
theorem eqB_true {α : Type} [DecidableEq α] {a b : α} (h : a = b) : eqB a b = true := by simp [eqB, h]
theorem eqB_false {α : Type} [DecidableEq α] {a b : α} (h : ¬ a = b) : eqB a b = false := by simp [eqB, h]

set_option maxRecDepth 100000 in
theorem sametexts_any (S : Nat → Prop) (a b : List ByteArray) (va vb : Value) (w : World) (ha : StrsAt S w va a) (hb : StrsAt S w vb b) :
    Calls Try.prog 67 #[va, vb] w (Ret (.bool (eqB a b)) w) := by
  obtain ⟨A, ca, rfl, h1, h2⟩ := ha.form
  obtain ⟨B, cb, rfl, h3, h4⟩ := hb.form
  unfold maxLen at h2 h4
  have Ha := Lib.hid ha
  have Hb := Lib.hid hb
  clear ha hb
  by_cases hn : a.length = b.length
  · have hn' : ((a.length : Int) != (b.length : Int)) = false := by simp [hn]
    go_enter Try.func67, Try.ntmps67
    go_wp2
    go_loopw [5] (fun i wr => ∃ k : Nat, k ≤ a.length ∧ i = .int .i64 k ∧ Below w.heap.size w wr ∧ Hid (a.take k = b.take k)) (fun i _ => a.length - (intOf i).toNat)
    case atStart => exact ⟨0, by omega, rfl, Below.refl _ _, rfl⟩
    case round =>
      obtain ⟨k, hk, rfl, hw, hall⟩ := hrel
      by_cases hlt : k < a.length
      · obtain ⟨ba, oa, rfl, _, hba, hca⟩ := (Ha.out.below hw).at_ (by omega)
        obtain ⟨bb, ob, rfl, _, hbb, hcb⟩ := (Hb.out.below hw).at_ (by omega)
        have hx : a[k]? = some a[k] := List.getElem?_eq_getElem hlt
        have hy : b[k]? = some (b[k]'(by omega)) := List.getElem?_eq_getElem (by omega)
        have hxc := hca k _ hx
        have hyc := hcb k _ hy
        obtain ⟨hxc, hsx⟩ := hxc
        obtain ⟨hyc, hsy⟩ := hyc
        clear hca hcb
        have Hx := Lib.hid hx
        have Hy := Lib.hid hy
        clear hx hy
        generalize a[k] = s at *
        generalize b[k]'(by omega) = t at *
        have hk1 : (k : Int) < (a.length : Int) := by omega
        have hk2 : (k : Int) < (b.length : Int) := by omega
        by_cases hs : s = t
        · subst hs
          go_wp2_with go_region
          go_roundw
          case rel => exact ⟨k + 1, by omega, by go_num, hw.drew, take_eq_succ _ _ _ _ hall.out Hx.out Hy.out⟩
          case measure => simp [intOf]; omega
        · have hs' := str_ne hs
          go_wp2_with go_region
          go_ret
          exact ⟨by rw [eqB_false (ne_at _ _ _ _ _ Hx.out Hy.out hs)]; rfl, hw.drew⟩
      · go_wp2
        go_ret
        exact ⟨by rw [eqB_true (take_eq_end _ _ _ hall.out hn (by omega))]; rfl, hw⟩
  · have hn' : ((a.length : Int) != (b.length : Int)) = true := by simp; omega
    rw [eqB_false (fun e => hn (by rw [e]))]
    go_enter Try.func67, Try.ntmps67
    go_wp2
    go_ret
    exact ⟨rfl, Below.refl _ _⟩

set_option maxRecDepth 100000 in
theorem samenumbers_any (S : Nat → Prop) (a b : List Int) (va vb : Value) (w : World) (ha : IntsAt S w va a) (hb : IntsAt S w vb b) :
    Calls Try.prog 78 #[va, vb] w (Ret (.bool (eqB a b)) w) := by
  obtain ⟨A, ca, rfl, h1, h2⟩ := ha.form
  obtain ⟨B, cb, rfl, h3, h4⟩ := hb.form
  unfold maxLen at h2 h4
  have Ha := Lib.hid ha
  have Hb := Lib.hid hb
  clear ha hb
  by_cases hn : a.length = b.length
  · have hn' : ((a.length : Int) != (b.length : Int)) = false := by simp [hn]
    go_enter Try.func78, Try.ntmps78
    go_wp2
    go_loopw [5] (fun i wr => ∃ k : Nat, k ≤ a.length ∧ i = .int .i64 k ∧ Below w.heap.size w wr ∧ Hid (a.take k = b.take k)) (fun i _ => a.length - (intOf i).toNat)
    case atStart => exact ⟨0, by omega, rfl, Below.refl _ _, rfl⟩
    case round =>
      obtain ⟨k, hk, rfl, hw, hall⟩ := hrel
      by_cases hlt : k < a.length
      · obtain ⟨ba, oa, rfl, _, hba, hca⟩ := (Ha.out.below hw).at_ (by omega)
        obtain ⟨bb, ob, rfl, _, hbb, hcb⟩ := (Hb.out.below hw).at_ (by omega)
        have hx : a[k]? = some a[k] := List.getElem?_eq_getElem hlt
        have hy : b[k]? = some (b[k]'(by omega)) := List.getElem?_eq_getElem (by omega)
        have hxc := hca k _ hx
        have hyc := hcb k _ hy
        obtain ⟨hxc, hsx⟩ := hxc
        obtain ⟨hyc, hsy⟩ := hyc
        clear hca hcb
        have Hx := Lib.hid hx
        have Hy := Lib.hid hy
        clear hx hy
        generalize a[k] = s at *
        generalize b[k]'(by omega) = t at *
        have hk1 : (k : Int) < (a.length : Int) := by omega
        have hk2 : (k : Int) < (b.length : Int) := by omega
        by_cases hs : s = t
        · subst hs
          go_wp2_with go_region
          go_roundw
          case rel => exact ⟨k + 1, by omega, by go_num, hw.drew, take_eq_succ _ _ _ _ hall.out Hx.out Hy.out⟩
          case measure => simp [intOf]; omega
        · skip
          go_wp2_with go_region
          go_ret
          exact ⟨by rw [eqB_false (ne_at _ _ _ _ _ Hx.out Hy.out hs)]; rfl, hw.drew⟩
      · go_wp2
        go_ret
        exact ⟨by rw [eqB_true (take_eq_end _ _ _ hall.out hn (by omega))]; rfl, hw⟩
  · have hn' : ((a.length : Int) != (b.length : Int)) = true := by simp; omega
    rw [eqB_false (fun e => hn (by rw [e]))]
    go_enter Try.func78, Try.ntmps78
    go_wp2
    go_ret
    exact ⟨rfl, Below.refl _ _⟩

/-- Two requests in the call's own blocks. -/
structure RSt (B : Nat) (w wr : World) (x y : Rq) (xd xt yd yt : Value) : Prop where
  below : Below B w wr
  b0 : wr.heap[B]? = some (.cells #[.bool x.write, .int .i64 x.lo, .int .i64 x.many, xd, xt, .int .i64 x.born] 38 (0, 0))
  b1 : wr.heap[B + 1]? = some (.cells #[.bool y.write, .int .i64 y.lo, .int .i64 y.many, yd, yt, .int .i64 y.born] 38 (0, 0))
  lt : B + 1 < wr.heap.size
section
variable {B : Nat} {w wr w' : World} {x y : Rq} {xd xt yd yt : Value}
theorem RSt.step (h : RSt B w wr x y xd xt yd yt) (hb : Below wr.heap.size wr w') : RSt B w w' x y xd xt yd yt :=
  have := h.lt
  ⟨h.below.trans (hb.mono (by omega)), (hb.block _ (by omega)).trans h.b0, (hb.block _ (by omega)).trans h.b1, by have := hb.size; omega⟩
theorem RSt.limbs (h : RSt B w wr x y xd xt yd yt) :
    wr.cell? ⟨B, 0, none⟩ = some (.bool x.write) ∧ wr.cell? ⟨B, 1, none⟩ = some (.int .i64 x.lo) ∧ wr.cell? ⟨B, 2, none⟩ = some (.int .i64 x.many) ∧ wr.cell? ⟨B, 3, none⟩ = some xd ∧ wr.cell? ⟨B, 4, none⟩ = some xt ∧ wr.cell? ⟨B, 5, none⟩ = some (.int .i64 x.born) ∧
    wr.cell? ⟨B + 1, 0, none⟩ = some (.bool y.write) ∧ wr.cell? ⟨B + 1, 1, none⟩ = some (.int .i64 y.lo) ∧ wr.cell? ⟨B + 1, 2, none⟩ = some (.int .i64 y.many) ∧ wr.cell? ⟨B + 1, 3, none⟩ = some yd ∧ wr.cell? ⟨B + 1, 4, none⟩ = some yt ∧ wr.cell? ⟨B + 1, 5, none⟩ = some (.int .i64 y.born) :=
  ⟨cell_of_row _ _ 0 _ _ _ h.b0, cell_of_row _ _ 1 _ _ _ h.b0, cell_of_row _ _ 2 _ _ _ h.b0, cell_of_row _ _ 3 _ _ _ h.b0, cell_of_row _ _ 4 _ _ _ h.b0, cell_of_row _ _ 5 _ _ _ h.b0,
    cell_of_row _ _ 0 _ _ _ h.b1, cell_of_row _ _ 1 _ _ _ h.b1, cell_of_row _ _ 2 _ _ _ h.b1, cell_of_row _ _ 3 _ _ _ h.b1, cell_of_row _ _ 4 _ _ _ h.b1, cell_of_row _ _ 5 _ _ _ h.b1⟩
end
theorem RSt.start (w : World) (x y : Rq) (xd xt yd yt : Value) : RSt w.heap.size w ((w.alloc (Obj.cells #[Value.bool x.write, Value.int IntKind.i64 x.lo, Value.int IntKind.i64 x.many, xd, xt, Value.int IntKind.i64 x.born] 38)).alloc (Obj.cells #[Value.bool y.write, Value.int IntKind.i64 y.lo, Value.int IntKind.i64 y.many, yd, yt, Value.int IntKind.i64 y.born] 38)) x y xd xt yd yt :=
  ⟨((Below.refl _ _).alloc (Nat.le_refl _) _).alloc (by simp) _, heap_alloc2_old _ _ _, heap_alloc2_new _ _ _, by simp⟩
def sameB (a b : Rq) : Bool := eqB a.data b.data && (eqB a.tags b.tags && (eqB a.write b.write && (eqB a.lo b.lo && (eqB a.many b.many && eqB a.born b.born))))
theorem sameB_true {a b : Rq} : sameB a b = true ↔ a = b := by
  obtain ⟨a1, a2, a3, a4, a5, a6⟩ := a
  obtain ⟨b1, b2, b3, b4, b5, b6⟩ := b
  simp [sameB, eqB]
  constructor
  · rintro ⟨rfl, rfl, rfl, rfl, rfl, rfl⟩; simp
  · rintro ⟨rfl, rfl, rfl, rfl, rfl, rfl⟩; simp
set_option maxRecDepth 100000 in
theorem samereq_any (S : Nat → Prop) (a b : Rq) (va vb : Value) (w : World) (ha : ReqAt S w va a) (hb : ReqAt S w vb b) :
    Calls Try.prog 59 #[va, vb] w (Ret (.bool (sameB a b)) w) := by
  obtain ⟨Ad, cd, At, ct, rfl, had, hat, adl, atl, _, _, _⟩ := ha.opened
  obtain ⟨Bd, dd, Bt, dt, rfl, hbd, hbt, bdl, btl, _, _, _⟩ := hb.opened
  have Had := Lib.hid had
  have Hat := Lib.hid hat
  have Hbd := Lib.hid hbd
  have Hbt := Lib.hid hbt
  clear had hat hbd hbt ha hb
  generalize hsb : sameB a b = sb
  have Hs := Lib.hid hsb
  clear hsb
  go_enter Try.func59, Try.ntmps59
  go_wp2_with fail
  have hM := RSt.start w a b (.slice Ad a.data.length cd) (.slice At a.tags.length ct) (.slice Bd b.data.length dd) (.slice Bt b.tags.length dt)
  generalize ((w.alloc (Obj.cells #[Value.bool a.write, Value.int IntKind.i64 a.lo, Value.int IntKind.i64 a.many, (Value.slice Ad a.data.length cd), (Value.slice At a.tags.length ct), Value.int IntKind.i64 a.born] 38)).alloc (Obj.cells #[Value.bool b.write, Value.int IntKind.i64 b.lo, Value.int IntKind.i64 b.many, (Value.slice Bd b.data.length dd), (Value.slice Bt b.tags.length dt), Value.int IntKind.i64 b.born] 38)) = W at hM ⊢
  refine (sametexts_any S _ _ _ _ _ (Had.out.below hM.below) (Hbd.out.below hM.below)).mono ?_
  rintro e w1 ⟨rfl, hb1⟩
  have hM1 := hM.step hb1
  clear hM hb1
  obtain ⟨⟨c0, c1, c2, c3, c4, c5, d0, d1, d2, d3, d4, d5⟩⟩ : Nonempty _ := ⟨hM1.limbs⟩
  go_wp2_with fail
  refine (samenumbers_any S _ _ _ _ _ (Hat.out.below hM1.below) (Hbt.out.below hM1.below)).mono ?_
  rintro e w2 ⟨rfl, hb2⟩
  have hM2 := hM1.step hb2
  clear hM1 hb2 c0 c1 c2 c3 c4 c5 d0 d1 d2 d3 d4 d5
  obtain ⟨⟨c0, c1, c2, c3, c4, c5, d0, d1, d2, d3, d4, d5⟩⟩ : Nonempty _ := ⟨hM2.limbs⟩
  go_wp2_with fail
  all_goals
    go_ret
    clear c0 c1 c2 c3 c4 c5 d0 d1 d2 d3 d4 d5
    refine ⟨congrArg (fun t => Ending.returned (Value.bool t)) (?_ : _ = sb), hM2.below⟩
    rw [← Hs.out]
    simp_all [sameB, eqB]

def sameLB : List Rq → List Rq → Bool
  | [], [] => true
  | a :: l, b :: m => sameB a b && sameLB l m
  | _, _ => false
theorem sameLB_true {l m : List Rq} : sameLB l m = true ↔ l = m := by
  induction l generalizing m with
  | nil => cases m <;> simp [sameLB]
  | cons a l ih => cases m <;> simp [sameLB, sameB_true, ih]
theorem sameLB_false {l m : List Rq} (h : ¬ l = m) : sameLB l m = false := by
  rw [← Bool.not_eq_true, sameLB_true]; exact h
set_option maxRecDepth 100000 in
theorem samereqs_any (S : Nat → Prop) (a b : List Rq) (va vb : Value) (w : World) (ha : ReqsAt S w va a) (hb : ReqsAt S w vb b) :
    Calls Try.prog 27 #[va, vb] w (Ret (.bool (sameLB a b)) w) := by
  obtain ⟨A, ca, rfl, h1, h2⟩ := ha.form
  obtain ⟨B, cb, rfl, h3, h4⟩ := hb.form
  unfold maxLen at h2 h4
  have Ha := Lib.hid ha
  have Hb := Lib.hid hb
  clear ha hb
  by_cases hn : a.length = b.length
  · have hn' : ((a.length : Int) != (b.length : Int)) = false := by simp [hn]
    have Hn := Lib.hid hn
    clear hn
    go_enter Try.func27, Try.ntmps27
    go_wp2
    go_loopw [5] (fun i wr => ∃ k : Nat, k ≤ a.length ∧ i = .int .i64 k ∧ Below w.heap.size w wr ∧ Hid (a.take k = b.take k)) (fun i _ => a.length - (intOf i).toNat)
    case atStart => exact ⟨0, by omega, rfl, Below.refl _ _, rfl⟩
    case round =>
      obtain ⟨k, hk, rfl, hw, hall⟩ := hrel
      by_cases hlt : k < a.length
      · obtain ⟨ba, oa, rfl, _, hba, hca⟩ := (Ha.out.below hw).at_ (by omega)
        obtain ⟨bb, ob, rfl, _, hbb, hcb⟩ := (Hb.out.below hw).at_ (by have := Hn.out; omega)
        have hx : a[k]? = some a[k] := List.getElem?_eq_getElem hlt
        have hy : b[k]? = some (b[k]'(by have := Hn.out; omega)) := List.getElem?_eq_getElem (by have := Hn.out; omega)
        obtain ⟨Ad, cd, At, ct, hokx, k0, k1, k2, k3, k4, k5⟩ := hca k _ hx
        obtain ⟨Bd, dd, Bt, dt, hoky, j0, j1, j2, j3, j4, j5⟩ := hcb k _ hy
        clear hca hcb
        have Hx := Lib.hid hx
        have Hy := Lib.hid hy
        clear hx hy
        generalize a[k] = s at *
        generalize b[k]'(by have := Hn.out; omega) = t at *
        have hk1 : (k : Int) < (a.length : Int) := by omega
        have hk2 : (k : Int) < (b.length : Int) := by have := Hn.out; omega
        have Hokx := Lib.hid hokx
        have Hoky := Lib.hid hoky
        clear hokx hoky
        go_wp2_with fail
        have k0 := cell_regrown k0
        have k1 := cell_regrown k1
        have k2 := cell_regrown k2
        have k3 := cell_regrown k3
        have k4 := cell_regrown k4
        have k5 := cell_regrown k5
        have j0 := cell_regrown j0
        have j1 := cell_regrown j1
        have j2 := cell_regrown j2
        have j3 := cell_regrown j3
        have j4 := cell_regrown j4
        have j5 := cell_regrown j5
        refine wp_region_quiet_below mixed (by kernel_rfl) ?_
        repeat (quiet_step (first | (go_at_call 59; exact Calls.rg (samereq_any S _ _ _ _ _ (Hokx.out.below (below_regrown _ _ _)) (Hoky.out.below (below_regrown _ _ _))))))
        refine wpQuiet_nil ?_
        intro _ hw'
        obtain ⟨⟨dq, osq⟩, hw''⟩ := hw'
        subst hw''
        have hb4 := hw.trans (Below.mono (below_regrown wr dq osq) hw.size)
        generalize grow (redrawn wr dq) osq = w4 at hb4 ⊢
        cases hs : sameB s t with
        | true =>
          have hs := Lib.hid hs
          go_wp2
          go_roundw
          case rel => exact ⟨k + 1, by omega, by go_num, hb4, take_eq_succ _ _ _ _ hall.out Hx.out (by rw [sameB_true.1 hs.out]; exact Hy.out)⟩
          case measure => simp [intOf]; omega
        | false =>
          have hs := Lib.hid hs
          go_wp2
          go_ret
          exact ⟨by rw [sameLB_false (ne_at _ _ _ _ _ Hx.out Hy.out (fun e => by have h1 := sameB_true.2 e; rw [hs.out] at h1; cases h1))]; rfl, hb4⟩
      · go_wp2
        go_ret
        exact ⟨by rw [sameLB_true.2 (take_eq_end _ _ _ hall.out Hn.out (by omega))]; rfl, hw⟩
  · have hn' : ((a.length : Int) != (b.length : Int)) = true := by simp; omega
    rw [sameLB_false (fun e => hn (by rw [e]))]
    go_enter Try.func27, Try.ntmps27
    go_wp2
    go_ret
    exact ⟨rfl, Below.refl _ _⟩
end Go.Proofs.Ytdhiepcglnbkbaa
