/- Plain: the tags with commas, as Join has them. -/
import Derived.Test.YtfklcfpkbnddfaaRText
namespace Go.Proofs.Ytfklcfpkbnddfaa
set_option linter.unusedSimpArgs false
set_option linter.unusedVariables false

/-- The texts of the first k numbers. -/
def decs (l : List Int) (k : Nat) : List ByteArray := (l.take k).map decI
theorem decs_succ {l : List Int} {k : Nat} {x : Int} (h : l[k]? = some x) : decs l (k + 1) = decs l k ++ [decI x] := by
  unfold decs; rw [List.take_add_one, h]; simp
theorem decs_len {l : List Int} {k : Nat} (h : k ≤ l.length) : (decs l k).length = k := by unfold decs; simp; omega
theorem join_snoc (xs : List (List UInt8)) (y sep : List UInt8) (h : xs ≠ []) : Lib.join (xs ++ [y]) sep = Lib.join xs sep ++ sep ++ y := by
  induction xs with
  | nil => exact absurd rfl h
  | cons a r ih =>
    cases r with
    | nil => simp [Lib.join, List.intercalate]
    | cons b r =>
      have := ih (by simp)
      simp only [Lib.join, List.intercalate, List.cons_append, List.intersperse] at this ⊢
      simp at this ⊢
      rw [this]
theorem bytes_eq {a b : ByteArray} (h : a.data.toList = b.data.toList) : a = b := Go.WideShapes.bytes_inj h
theorem data_append (a b : ByteArray) : (a ++ b).data.toList = a.data.toList ++ b.data.toList := by simp
theorem tagsT_join {l : List Int} (hd : ByteArray) : ∀ {k : Nat}, k ≤ l.length → (tagsT l k hd).data.toList = hd.data.toList ++ Lib.join ((decs l k).map (·.data.toList)) [44]
  | 0, _ => by simp [tagsT, decs, Lib.join, List.intercalate]
  | k + 1, hk => by
    have hx : l[k]? = some l[k] := List.getElem?_eq_getElem (by omega)
    rw [decs_succ hx, List.map_append]
    by_cases h0 : k = 0
    · subst h0
      rw [tagsT_zero _ _ hx, data_append]
      simp [decs, Lib.join, List.intercalate]
    · rw [tagsT_succ _ _ _ (by omega) hx, data_append, data_append, tagsT_join hd (by omega), List.map_cons, List.map_nil, join_snoc _ _ _ (by
        intro h
        have := congrArg List.length h
        rw [List.length_map, decs_len (by omega)] at this
        exact h0 this)]
      simp
theorem join_len : ∀ (xs : List (List UInt8)) (B : Nat), (∀ x ∈ xs, x.length ≤ B) → (Lib.join xs [44]).length ≤ xs.length * (B + 1)
  | [], B, _ => by simp [Lib.join, List.intercalate]
  | [a], B, h => by
    have := h a (by simp)
    simp [Lib.join, List.intercalate]; omega
  | a :: b :: r, B, h => by
    have h1 := h a (by simp)
    have h2 := join_len (b :: r) B (fun x hx => h x (by simp [hx]))
    simp only [Lib.join, List.intercalate, List.intersperse, List.flatten_cons, List.length_append, List.length_cons] at h2 ⊢
    simp only [List.length_nil]
    have : (r.length + 1 + 1) * (B + 1) = (r.length + 1) * (B + 1) + (B + 1) := by rw [Nat.add_mul (r.length + 1) 1]; omega
    omega
end Go.Proofs.Ytfklcfpkbnddfaa
