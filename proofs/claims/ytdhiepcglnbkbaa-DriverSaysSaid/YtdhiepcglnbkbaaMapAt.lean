
/- A map from numbers to numbers, as a function. -/
import Derived.Test.YtdhiepcglnbkbaaDevRest
import Derived.Maps.OwnSet
namespace Go.Proofs.Ytdhiepcglnbkbaa
set_option linter.unusedSimpArgs false
set_option linter.unusedVariables false
open Go.RowKit

abbrev tMap : TypeId := 63
theorem tMap_u : Try.prog.underlying tMap = some (.map 3 3) := Try.underlying63
theorem int_u : Try.prog.underlying 3 = some (.int .i64) := Try.underlying3
theorem int_zero (w : World) : (zeroValue 3).run Try.prog w = .ok (.int .i64 0) w := by kernel_rfl
/-- The block b is a map of at most n entries that gives f k at k. -/
def MapAt (w : World) (b n : Nat) (f : Int → Int) : Prop :=
  ∃ D : DataW Unit, w.ownsMap Try.prog 3 (plainElem Try.prog 3) b n D ∧ Maps.IsMap D ∧ ∀ k : Int, i64 k → D.atKey (.int .i64 k) (.lit (.int .i64 0)) = .lit (.int .i64 (f k))
theorem wf_i64 {n : Int} (h : i64 n) : (Lit.int .i64 n).wf = true := by
  unfold i64 at h
  simp [Lit.wf, IntKind.min, IntKind.max, IntKind.signed, IntKind.bits]
  omega
theorem key_i64 {n : Int} (h : i64 n) : keyOf Try.prog 3 (.int .i64 n) = some (.int .i64 n) := by
  simp [keyOf, mapKey, int_u, wf_i64 h]
def upd (f : Int → Int) (k v : Int) : Int → Int := fun j => if j = k then v else f j
section
variable {w w' : World} {b n : Nat} {f : Int → Int} {k v : Int}
theorem MapAt.made (w : World) : MapAt (w.alloc (.map #[] 0)) w.heap.size 0 (fun _ => 0) := ⟨.map [], World.ownsMap_made _ _ _ _, Maps.isMap_empty, fun k _ => rfl⟩
theorem MapAt.mono {m : Nat} (h : MapAt w b n f) (hm : n ≤ m) : MapAt w b m f := by
  obtain ⟨D, h1, h2⟩ := h
  exact ⟨D, h1.mono hm, h2⟩
theorem MapAt.lt (h : MapAt w b n f) : b < w.heap.size := by obtain ⟨D, h, _⟩ := h; exact h.lt
theorem MapAt.keep (h : MapAt w b n f) (hk : w'.heap[b]? = w.heap[b]?) : MapAt w' b n f := by
  obtain ⟨D, ⟨es, clock, hb, rest⟩, h2⟩ := h
  exact ⟨D, ⟨es, clock, hk.trans hb, rest⟩, h2⟩
theorem MapAt.lookup (h : MapAt w b n f) (hk : i64 k) : (Instr.lookup tMap (.map (some b)) (.int .i64 k) false).run Try.prog w = .ok (.int .i64 (f k)) w := by
  obtain ⟨D, h1, h2, h3⟩ := h
  obtain ⟨c, hrun, hat, _⟩ := h1.lookup_int (Maps.int_keyed int_u) tMap_u int_u (int_zero w) (key_i64 hk)
  rw [h3 k hk] at hat
  simp only [DataW.lit.injEq, Lit.int.injEq, true_and] at hat
  rw [hrun, hat]
theorem MapAt.update (h : MapAt w b n f) (hk : i64 k) (hv : i64 v) (hn : n < 1000000000) : ∃ w', (Instr.mapUpdate tMap (.map (some b)) (.int .i64 k) (.int .i64 v)).run Try.prog w = .ok () w' ∧ MapAt w' b (n + 1) (upd f k v) ∧ w.grownBy w' (some b) := by
  obtain ⟨D, h1, h2, h3⟩ := h
  obtain ⟨w', hrun, ho, hg⟩ := h1.update (Maps.int_keyed int_u) tMap_u (by simp only [maxLen]; omega) (key_i64 hk) (plainElem_int int_u (wf_i64 hv))
  refine ⟨w', hrun, ⟨_, ho, h2.put _ _, fun j hj => ?_⟩, hg⟩
  unfold upd
  by_cases e : j = k
  · subst e
    rw [if_pos rfl, Maps.atKey_put_same h2 ((Maps.int_keyed int_u).key (key_i64 hk))]
  · rw [if_neg e, Maps.atKey_put_other (by simpa using e)]
    exact h3 j hj
theorem MapAt.drop (h : MapAt w b n f) (hk : i64 k) (ty : TypeId) : ∃ w', (Builtin.delete_ #[tMap, 3] ty #[.map (some b), .int .i64 k]).run Try.prog w = .ok (.tuple #[]) w' ∧ MapAt w' b n (upd f k 0) ∧ w.grownBy w' (some b) := by
  obtain ⟨D, h1, h2, h3⟩ := h
  obtain ⟨w', hrun, ho, ht⟩ := h1.drop (Maps.int_keyed int_u) tMap_u (key_i64 hk) ty
  refine ⟨w', hrun, ⟨_, ho, h2.del _, fun j hj => ?_⟩, ?_⟩
  · unfold upd
    by_cases e : j = k
    · subst e
      rw [if_pos rfl, Maps.atKey_del_same]
    · rw [if_neg e, Maps.atKey_del_other (by simpa using e)]
      exact h3 j hj
  · exact ht.grown
end
/-- 'delete(m, k)' at the operation. -/
theorem wpList_drop {ops : Array Oper} {rest : List Oper} {o : Oper} {a : Act} {Q : Exit → Act → World → Prop} (w : World) (hg : o.guard = none) (m x : Operand) (hop : o.op = Op.call { callee := Callee.builtin Builtin.delete, args := #[m, x], argTypes := #[tMap, 3] })
    (b n : Nat) (f : Int → Int) (k : Int) (hm : a.eval m = .map (some b)) (hx : a.eval x = .int .i64 k) (h : MapAt w b n f) (hk : i64 k)
    (hK : ∀ w', MapAt w' b n (upd f k 0) → w.grownBy w' (some b) → wpList Try.prog ops Q rest (a.put o.dst (.tuple #[])) w') : wpList Try.prog ops Q (o :: rest) a w := by
  refine wpList_plain hg fun K' hK' => ?_
  obtain ⟨w', hrun, r1, r2⟩ := h.drop hk o.type
  unfold Oper.wp
  simp [execOp, hop, resolve, invoke, builtin, hm, hx, hrun, Result.andThen]
  exact hK' _ _ (hK w' r1 r2)
/-- 'm[k] = v' at the operation. -/
theorem wpList_upd {ops : Array Oper} {rest : List Oper} {o : Oper} {a : Act} {Q : Exit → Act → World → Prop} (w : World) (hg : o.guard = none) (m x y : Operand) (hop : o.op = Op.mapUpdate tMap m x y)
    (b n : Nat) (f : Int → Int) (k v : Int) (hm : a.eval m = .map (some b)) (hx : a.eval x = .int .i64 k) (hy : a.eval y = .int .i64 v) (h : MapAt w b n f) (hk : i64 k) (hv : i64 v) (hn : n < 1000000000)
    (hK : ∀ w', MapAt w' b (n + 1) (upd f k v) → w.grownBy w' (some b) → wpList Try.prog ops Q rest (a.put o.dst undef) w') : wpList Try.prog ops Q (o :: rest) a w := by
  refine wpList_plain hg fun K' hK' => ?_
  obtain ⟨w', hrun, r1, r2⟩ := h.update hk hv hn
  unfold Oper.wp
  simp [execOp, hop, hm, hx, hy, hrun, Result.andThen]
  exact hK' _ _ (hK w' r1 r2)
end Go.Proofs.Ytdhiepcglnbkbaa
