
/- A step among the arguments is read. -/
import Derived.Test.YtecnpdkoodfemaaDoorLawKit
import Derived.Test.YtecnpdkoodfemaaDoorCheckS
namespace Go.Proofs.YtecnpdkoodfemaaDoor
set_option linter.unusedVariables false
open Go.ChangeShapes Go.WideShapes Go.ChangeAt Go.RowKit Go.Joins

theorem cells_stp : Tryd.prog.cellsOf 32 = 4 := by kernel_rfl
set_option maxRecDepth 100000 in
theorem open_stp {H : Type} {enc : TypeId × Value → H} {W : World} {base b0 : Nat} {v : Value} {d : DataW H} {p : List MemPlace}
    (hv : Value.okWide Tryd.prog W .any b0 32 v) (h : DataW.Trod enc Tryd.prog W base (fun _ => true) true 32 v d p) :
    ∃ z : Stp, v = stpV z ∧ (-9223372036854775808 ≤ z.a ∧ z.a ≤ 9223372036854775807) ∧ (-9223372036854775808 ≤ z.b ∧ z.b ≤ 9223372036854775807) ∧ z.word.size ≤ maxLen ∧ z.data.size ≤ maxLen := by
  obtain ⟨c0, c1, c2, c3, y0, y1, y2, y3, m, rfl, rfl, rfl, hy0, hy1, hy2, hy3⟩ := open_agg4 Tryd.underlying32 (by kernel_rfl) cells_stp hv h
  obtain ⟨s0, e0, _, w0⟩ := DataW.trod_string Tryd.underlying9 hy0
  obtain ⟨a, e1, _, wa⟩ := DataW.trod_int Tryd.underlying3 hy1
  obtain ⟨b, e2, _, wb⟩ := DataW.trod_int Tryd.underlying3 hy2
  obtain ⟨s3, e3, _, w3⟩ := DataW.trod_string Tryd.underlying9 hy3
  simp at e0 e1 e2 e3
  subst e0 e1 e2 e3
  exact ⟨⟨s0, a, b, s3⟩, rfl, bounds_i64 wa, bounds_i64 wb, w0, w3⟩
end Go.Proofs.YtecnpdkoodfemaaDoor
