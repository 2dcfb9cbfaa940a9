
/- clear of the tail of a row, whatever the size of its elements. -/
import Derived.Test.YtdhiepcglnbkbaaOwn
namespace Go.Proofs.Ytdhiepcglnbkbaa
open Go.RowKit

theorem run_clear_row {P : Program} (w : World) (t e ty : TypeId) (z : Value) (size : Nat) (ht : P.underlying t = some (.slice e)) (hv : ∀ w, (zeroValue e).run P w = .ok z w) (hz : z.cells.size = size)
    (h1 : ∀ n, ∀ u ∈ (Builtin.zeroCells z.cells n).toList, u.oneCell' = true) (g o n c : Nat) (T : TypeId) (cur : Array Value) (hg : w.heap[g]? = some (.cells cur T (0, 0))) (hfit : o + n * size ≤ cur.size) :
    ∃ cur', (Builtin.clear_ #[t] ty #[.slice (some ⟨g, o, none⟩) n c]).run P w = .ok (.tuple #[]) (w.setRow g cur') ∧ cur'.size = cur.size ∧ cur'.toList.take o = cur.toList.take o := by
  cases n with
  | zero =>
    refine ⟨cur, ?_, rfl, rfl⟩
    rw [setRow_self w g cur T (0, 0) hg]
    simp [Builtin.clear_, run_underlying ht]
  | succ m =>
    have hlen : (Builtin.zeroCells z.cells (m + 1)).toList.length = (m + 1) * size := by rw [Array.length_toList, size_zeroCells, hz]
    have hst := run_storeCells_at P g o T (Builtin.zeroCells z.cells (m + 1)).toList 0 cur w hg (by rw [hlen]; simpa using hfit) (h1 _)
    refine ⟨(cur.toList.take (o + 0) ++ (Builtin.zeroCells z.cells (m + 1)).toList ++ cur.toList.drop (o + 0 + (Builtin.zeroCells z.cells (m + 1)).toList.length)).toArray, ?_, ?_, ?_⟩
    · simp [Builtin.clear_, run_underlying ht, hv, hst]
    · simp only [List.size_toArray, List.length_append, List.length_take, List.length_drop, hlen, Array.length_toList]
      omega
    · simp only [Nat.add_zero, List.append_assoc]
      rw [List.take_append_of_le_length (by simp; omega)]
      simp [List.take_take]
end Go.Proofs.Ytdhiepcglnbkbaa
