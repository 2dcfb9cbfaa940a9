
/- The number of an error. -/
import Derived.Test.YtecnpdkoodfemaaDoorFacts
namespace Go.Proofs.YtecnpdkoodfemaaDoor
set_option linter.unusedSimpArgs false
set_option linter.unusedVariables false
open Go.RowKit

theorem number_any (n : Nat) (w : World) : Calls Tryd.prog 16 #[errV n] w (RetSame (.int .i64 (n : Int)) w) := by
  by_cases h : n = 0
  · subst h
    rw [errV_zero]
    go_enter Tryd.func16, Tryd.ntmps16
    go_wp2
    go_ret
    exact ⟨rfl, rfl⟩
  · rw [errV_pos h]
    go_enter Tryd.func16, Tryd.ntmps16
    go_wp2
    go_ret
    exact ⟨rfl, rfl⟩
end Go.Proofs.YtecnpdkoodfemaaDoor
