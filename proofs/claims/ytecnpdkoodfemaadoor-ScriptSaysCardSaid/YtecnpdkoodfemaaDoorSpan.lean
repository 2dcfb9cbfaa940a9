
/- The package span and the reference's spans: what each function returns, at spans that may be. -/
import Derived.Test.YtecnpdkoodfemaaDoorMod
namespace Go.Proofs.YtecnpdkoodfemaaDoor
open Go.RowKit


theorem same_nil (f : Int) (w : World) :
    Calls Tryd.prog 6 #[.nilIface, .int .i64 f] w (RetSame (.bool (f == 0)) w) := by
  go_enter Tryd.func6, Tryd.ntmps6
  go_wp2
  go_ret
  exact ⟨rfl, rfl⟩

theorem same_err (n f : Int) (w : World) (h : 0 < n) :
    Calls Tryd.prog 6 #[.iface 23 (.int .i64 n), .int .i64 f] w (RetSame (.bool (n == f)) w) := by
  by_cases h1 : 0 < f
  · go_enter Tryd.func6, Tryd.ntmps6
    go_wp2
    go_ret
    exact ⟨rfl, rfl⟩
  · have h2 : (n == f) = false := by simp; omega
    rw [h2]
    go_enter Tryd.func6, Tryd.ntmps6
    go_wp2
    go_ret
    exact ⟨rfl, rfl⟩

theorem same_any (n : Nat) (f : Int) (w : World) :
    Calls Tryd.prog 6 #[errV n, .int .i64 f] w (RetSame (.bool ((n : Int) == f)) w) := by
  unfold errV
  by_cases h : n = 0
  · subst h
    rw [if_pos rfl]
    refine (same_nil f w).mono ?_
    rintro e w' ⟨rfl, rfl⟩
    refine ⟨?_, rfl⟩
    have : (f == 0) = (((0 : Nat) : Int) == f) := by
      rw [Bool.eq_iff_iff]; simp; omega
    rw [this]
  · rw [if_neg h]
    exact same_err n f w (by omega)

end Go.Proofs.YtecnpdkoodfemaaDoor
