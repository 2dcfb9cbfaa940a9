
/- Closed facts on the program's types, and the words in which the contracts are said. -/
import Derived.Test.YtecnpdkoodfemaaDoorRows
import Derived.WalkKit
import Derived.WalkLawsBesides
import Derived.WalkSpells
import Derived.Lib.Hide
import Derived.WideLaws
import Derived.LaidEql
import Derived.Deep.QuietTactic
import Derived.BigQuiet
import Derived.Deep.RegionWith
namespace Go.Proofs.YtecnpdkoodfemaaDoor
open Go.RowKit

theorem errIface : Tryd.prog.underlying 27 = some (.interface (Tryd.prog.methodsAt 27)) := by kernel_rfl
@[go_sem] theorem err_held_nil (u : TypeId) (x : Value) (w : World) : (binOp .eql 27 (.iface u x) .nilIface).run Tryd.prog w = .ok (.bool false) w := run_eql_held_nil _ _ _ _ errIface
@[go_sem] theorem err_held_nil' (u : TypeId) (x : Value) (w : World) : (binOp .neq 27 (.iface u x) .nilIface).run Tryd.prog w = .ok (.bool true) w := run_neq_held_nil _ _ _ _ errIface
@[go_sem] theorem err_nil_nil (w : World) : (binOp .eql 27 .nilIface .nilIface).run Tryd.prog w = .ok (.bool true) w := run_eql_nil_nil _ _ errIface
@[go_sem] theorem err_nil_nil' (w : World) : (binOp .neq 27 .nilIface .nilIface).run Tryd.prog w = .ok (.bool false) w := run_neq_nil_nil _ _ errIface
@[go_sem] theorem err_assert (x : Value) (w : World) : (Instr.typeAssert (.iface 23 x) 27 23 true).run Tryd.prog w = .ok (.tuple #[x, .bool true]) w := by kernel_rfl

abbrev spanV (f m : Int) : Value := .agg #[.int .i64 f, .int .i64 m]
def errV (n : Nat) : Value := if n = 0 then .nilIface else .iface 23 (.int .i64 n)
theorem errV_zero : errV 0 = .nilIface := rfl
theorem errV_pos {n : Nat} (h : n ≠ 0) : errV n = .iface 23 (.int .i64 n) := if_neg h
@[go_sem] theorem errV_eql (n : Nat) (w : World) : (binOp .eql 27 (errV n) .nilIface).run Tryd.prog w = .ok (.bool (n == 0)) w := by
  by_cases h : n = 0
  · subst h; exact err_nil_nil w
  · rw [errV_pos h, err_held_nil]; simp [h]
@[go_sem] theorem errV_neq (n : Nat) (w : World) : (binOp .neq 27 (errV n) .nilIface).run Tryd.prog w = .ok (.bool (!(n == 0))) w := by
  by_cases h : n = 0
  · subst h; exact err_nil_nil' w
  · rw [errV_pos h, err_held_nil']; simp [h]

@[go_sem] theorem eqGuard_err (t : TypeId) (x : Operand) (n : Nat) : eqGuard .eql t x (.const .nilIface) (errV n) .nilIface = pure () := by
  by_cases h : n = 0
  · subst h; rw [errV_zero]; simp [eqGuard]
  · rw [errV_pos h]; simp [eqGuard]
@[go_sem] theorem eqGuard_err' (t : TypeId) (x : Operand) (n : Nat) : eqGuard .neq t x (.const .nilIface) (errV n) .nilIface = pure () := by
  by_cases h : n = 0
  · subst h; rw [errV_zero]; simp [eqGuard]
  · rw [errV_pos h]; simp [eqGuard]

/-- It returns v, and writes nothing that was there. -/
def Ret (v : Value) (w : World) : Ending → World → Prop := fun e w' => e = .returned v ∧ Below w.heap.size w w'
/-- It returns v, and the world is as it was. -/
def RetSame (v : Value) (w : World) : Ending → World → Prop := fun e w' => e = .returned v ∧ w = w'
theorem RetSame.ret {v : Value} {w : World} {e : Ending} {w' : World} (h : RetSame v w e w') : Ret v w e w' := by
  obtain ⟨rfl, rfl⟩ := h; exact ⟨rfl, Below.refl _ _⟩
end Go.Proofs.YtecnpdkoodfemaaDoor
