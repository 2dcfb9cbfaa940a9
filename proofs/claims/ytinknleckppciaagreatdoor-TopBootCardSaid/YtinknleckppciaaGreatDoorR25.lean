/- The small methods of a stack: answer, used, Waits, Dead, Got. -/
import Derived.Test.YtinknleckppciaaGreatDoorR24
import Derived.BigRegion
import Derived.Outline
namespace Go.Proofs.YtinknleckppciaaGreatDoor
set_option linter.unusedSimpArgs false
set_option linter.unusedVariables false
open Go.RowKit

/-- It returns v; of what was there only the stack's own block was written. -/
def Ret1 (T : Tys) (col : Nat → Nat) (w : World) (b bd N : Nat) (y : Sv) (t : St) (v : Value) : Ending → World → Prop := fun e w' => e = .returned v ∧ Same1 b w w' ∧ StAt T col w' b bd N y t
def Sv.ans (x : Sv) (c : Nat) (d : ByteArray) (e : Nat) : Sv := match c with
  | 0 => { x with a0 := .pointer none, d0 := d, e0 := e }
  | 1 => { x with a1 := .pointer none, d1 := d, e1 := e }
  | _ => { x with a2 := .pointer none, d2 := d, e2 := e }
section
variable {T : Tys} {col : Nat → Nat} {w w' : World} {b bd N : Nat} {x : Sv} {s : St}
theorem askAt_answer {c j : Nat} {d : ByteArray} {e : Nat} (h3 : s.asks.length = 3) (hc : c < 3) : (s.answer c d e).askAt j = if j = c then none else s.askAt j := by
  unfold St.askAt St.answer
  simp only [List.getD_eq_getElem?_getD, List.getElem?_set]
  by_cases h : c = j
  · subst h; simp [h3, hc]
  · simp [h, Ne.symm h]
theorem StAt.ans (h : StAt T col w b bd N x s) (hb : Same1 b w w') {c : Nat} (hc : c < 3) {d : ByteArray} {e : Nat} (hrow : w'.heap[b]? = some (.cells ((x.ans c d e).row s bd) T.S (0, 0))) : StAt T col w' b bd N (x.ans c d e) (s.answer c d e) := by
  have hask : ∀ j, j < 3 → AskAt T.A (Fa col j) w ((x.ans c d e).av j) ((s.answer c d e).askAt j) := by
    intro j hj
    rw [askAt_answer h.asks hc]
    have := h.ask j hj
    match c, hc with
    | 0, _ => match j, hj with
      | 0, _ => rfl
      | 1, _ => exact this
      | 2, _ => exact this
    | 1, _ => match j, hj with
      | 0, _ => exact this
      | 1, _ => rfl
      | 2, _ => exact this
    | 2, _ => match j, hj with
      | 0, _ => exact this
      | 1, _ => exact this
      | 2, _ => rfl
  refine h.turn1 hb hrow ?_ ?_ ?_ rfl ?_ ?_ ?_ hask ?_ ?_
  · match c, hc with | 0, _ => rfl | 1, _ => rfl | 2, _ => rfl
  · match c, hc with | 0, _ => rfl | 1, _ => rfl | 2, _ => rfl
  · match c, hc with | 0, _ => rfl | 1, _ => rfl | 2, _ => rfl
  · have := h.bufs; match c, hc with | 0, _ => exact this | 1, _ => exact this | 2, _ => exact this
  · have := h.wait; match c, hc with | 0, _ => exact this | 1, _ => exact this | 2, _ => exact this
  · show (s.asks.set c none).length = 3
    rw [List.length_set]; exact h.asks
  · show s.done.set c d = _
    rw [h.done]
    match c, hc with | 0, _ => rfl | 1, _ => rfl | 2, _ => rfl
  · show s.errs.set c e = _
    rw [h.errs]
    match c, hc with | 0, _ => rfl | 1, _ => rfl | 2, _ => rfl
end
set_option maxRecDepth 100000 in
set_option maxHeartbeats 1000000 in
theorem answer_any (col : Nat → Nat) (w : World) (b bd N : Nat) (x : Sv) (s : St) (c : Nat) (d : ByteArray) (e : Nat) (h : StAt Ts col w b bd N x s) (hc : c < 3) :
    Calls Tryz.prog 79 #[.pointer (some ⟨b, 0, none⟩), .int .i64 (c : Int), .string d, .int .i64 (e : Int)] w (Ret1 Ts col w b bd N (x.ans c d e) (s.answer c d e) (.tuple #[])) := by
  have H := Lib.hid h
  have c11 : w.cell? ⟨b, 11, none⟩ = some x.a0 := h.cell 11
  have c12 : w.cell? ⟨b, 12, none⟩ = some x.a1 := h.cell 12
  have c13 : w.cell? ⟨b, 13, none⟩ = some x.a2 := h.cell 13
  have c14 : w.cell? ⟨b, 14, none⟩ = some (.string x.d0) := h.cell 14
  have c15 : w.cell? ⟨b, 15, none⟩ = some (.string x.d1) := h.cell 15
  have c16 : w.cell? ⟨b, 16, none⟩ = some (.string x.d2) := h.cell 16
  have c17 : w.cell? ⟨b, 17, none⟩ = some (.int .i64 (x.e0 : Int)) := h.cell 17
  have c18 : w.cell? ⟨b, 18, none⟩ = some (.int .i64 (x.e1 : Int)) := h.cell 18
  have c19 : w.cell? ⟨b, 19, none⟩ = some (.int .i64 (x.e2 : Int)) := h.cell 19
  have hfr := fun k => h.frozen k
  clear h
  match c, hc with
  | 0, _ =>
    go_enter Tryz.func79, Tryz.ntmps79
    go_wp2_with fail
    go_region
    go_end0
    have hrow := heap_setCell_same _ _ 17 _ _ (.int .i64 (e : Int)) (heap_setCell_same _ _ 14 _ _ (.string d) (heap_setCell_same _ _ 11 _ _ (.pointer none) H.out.row))
    have hb := (((Same1.refl (b := b) (w := w)).setCell 11 (.pointer none)).setCell 14 (.string d)).setCell 17 (.int .i64 (e : Int))
    exact ⟨rfl, hb.drew, H.out.ans hb.drew (by omega) hrow⟩
  | 1, _ =>
    go_enter Tryz.func79, Tryz.ntmps79
    go_wp2_with fail
    go_region
    go_end0
    have hrow := heap_setCell_same _ _ 18 _ _ (.int .i64 (e : Int)) (heap_setCell_same _ _ 15 _ _ (.string d) (heap_setCell_same _ _ 12 _ _ (.pointer none) H.out.row))
    have hb := (((Same1.refl (b := b) (w := w)).setCell 12 (.pointer none)).setCell 15 (.string d)).setCell 18 (.int .i64 (e : Int))
    exact ⟨rfl, hb.drew, H.out.ans hb.drew (by omega) hrow⟩
  | 2, _ =>
    go_enter Tryz.func79, Tryz.ntmps79
    go_wp2_with fail
    go_region
    go_end0
    have hrow := heap_setCell_same _ _ 19 _ _ (.int .i64 (e : Int)) (heap_setCell_same _ _ 16 _ _ (.string d) (heap_setCell_same _ _ 13 _ _ (.pointer none) H.out.row))
    have hb := (((Same1.refl (b := b) (w := w)).setCell 13 (.pointer none)).setCell 16 (.string d)).setCell 19 (.int .i64 (e : Int))
    exact ⟨rfl, hb.drew, H.out.ans hb.drew (by omega) hrow⟩
/-- A moment of use. -/
theorem StAt.used {T : Tys} {col : Nat → Nat} {w w' : World} {b bd N : Nat} {x : Sv} {s : St} (h : StAt T col w b bd N x s) (hb : Same1 b w w') {n : Int} (hrow : w'.heap[b]? = some (.cells (x.row { s with use := n } bd) T.S (0, 0))) : StAt T col w' b bd N x { s with use := n } :=
  h.turn1 hb hrow rfl rfl rfl rfl h.bufs h.wait h.asks h.ask h.done h.errs
set_option maxRecDepth 100000 in
theorem used_any (col : Nat → Nat) (w : World) (b bd N : Nat) (x : Sv) (s : St) (h : StAt Ts col w b bd N x s) (hu : 0 ≤ s.use ∧ s.use ≤ 1000000000) :
    Calls Tryz.prog 53 #[.pointer (some ⟨b, 0, none⟩)] w (Ret1 Ts col w b bd N x { s with use := s.use + 1 } (.int .i64 (s.use + 1))) := by
  have H := Lib.hid h
  have c9 : w.cell? ⟨b, 9, none⟩ = some (.int .i64 s.use) := h.cell 9
  have hfr := h.frozen 9
  have hw : IntKind.i64.wrap (s.use + 1) = s.use + 1 := by rw [IntKind.wrap_i64]; omega
  clear h
  go_enter Tryz.func53, Tryz.ntmps53
  go_wp2_with fail
  go_ret
  exact ⟨rfl, Same1.refl.setCell 9 _, H.out.used (Same1.refl.setCell 9 _) (heap_setCell_same _ _ 9 _ _ _ H.out.row)⟩
set_option maxRecDepth 100000 in
theorem waits_any (col : Nat → Nat) (w : World) (b bd N : Nat) (x : Sv) (s : St) (c : Nat) (h : StAt Ts col w b bd N x s) (hc : c < 3) :
    Calls Tryz.prog 36 #[.pointer (some ⟨b, 0, none⟩), .int .i64 (c : Int)] w (RetSame (.bool (s.askAt c).isSome) w) := by
  have c11 : w.cell? ⟨b, 11, none⟩ = some x.a0 := h.cell 11
  have c12 : w.cell? ⟨b, 12, none⟩ = some x.a1 := h.cell 12
  have c13 : w.cell? ⟨b, 13, none⟩ = some x.a2 := h.cell 13
  have ha := h.ask c hc
  match c, hc with
  | 0, _ =>
    cases ho : s.askAt 0 with
    | none =>
      rw [ho] at ha
      rw [show x.a0 = .pointer none from ha] at c11
      clear h ha ho
      go_enter Tryz.func36, Tryz.ntmps36
      go_wp2_with fail
      go_ret
      exact ⟨rfl, rfl⟩
    | some a =>
      rw [ho] at ha
      obtain ⟨ba, lv, h1, _⟩ := ha
      rw [show x.a0 = _ from h1] at c11
      clear h ho h1
      go_enter Tryz.func36, Tryz.ntmps36
      go_wp2_with fail
      go_ret
      exact ⟨rfl, rfl⟩
  | 1, _ =>
    cases ho : s.askAt 1 with
    | none =>
      rw [ho] at ha
      rw [show x.a1 = .pointer none from ha] at c12
      clear h ha ho
      go_enter Tryz.func36, Tryz.ntmps36
      go_wp2_with fail
      go_ret
      exact ⟨rfl, rfl⟩
    | some a =>
      rw [ho] at ha
      obtain ⟨ba, lv, h1, _⟩ := ha
      rw [show x.a1 = _ from h1] at c12
      clear h ho h1
      go_enter Tryz.func36, Tryz.ntmps36
      go_wp2_with fail
      go_ret
      exact ⟨rfl, rfl⟩
  | 2, _ =>
    cases ho : s.askAt 2 with
    | none =>
      rw [ho] at ha
      rw [show x.a2 = .pointer none from ha] at c13
      clear h ha ho
      go_enter Tryz.func36, Tryz.ntmps36
      go_wp2_with fail
      go_ret
      exact ⟨rfl, rfl⟩
    | some a =>
      rw [ho] at ha
      obtain ⟨ba, lv, h1, _⟩ := ha
      rw [show x.a2 = _ from h1] at c13
      clear h ho h1
      go_enter Tryz.func36, Tryz.ntmps36
      go_wp2_with fail
      go_ret
      exact ⟨rfl, rfl⟩
set_option maxRecDepth 100000 in
theorem dead_any (col : Nat → Nat) (w : World) (b bd N : Nat) (x : Sv) (s : St) (h : StAt Ts col w b bd N x s) :
    Calls Tryz.prog 12 #[.pointer (some ⟨b, 0, none⟩)] w (RetSame (.bool s.dead) w) := by
  have c20 : w.cell? ⟨b, 20, none⟩ = some (.bool s.dead) := h.cell 20
  clear h
  go_enter Tryz.func12, Tryz.ntmps12
  go_wp2_with fail
  go_ret
  exact ⟨rfl, rfl⟩
set_option maxRecDepth 100000 in
theorem stdirty_any (col : Nat → Nat) (w : World) (b bd N : Nat) (x : Sv) (s : St) (h : StAt Ts col w b bd N x s) (h8 : s.bufs.length ≤ 8) :
    Calls Tryz.prog 11 #[.pointer (some ⟨b, 0, none⟩)] w (Ret (.int .i64 (dirtyB s.bufs : Nat)) w) := by
  have c2 : w.cell? ⟨b, 2, none⟩ = some x.bufs := h.cell 2
  have H := Lib.hid h.bufs
  clear h
  go_enter Tryz.func11, Tryz.ntmps11
  go_wp2_with fail
  refine (dirty_any _ _ _ _ H.out (by omega)).mono ?_
  rintro e w1 ⟨rfl, hb1⟩
  go_wp2_with fail
  go_ret
  exact ⟨rfl, hb1⟩
end Go.Proofs.YtinknleckppciaaGreatDoor
