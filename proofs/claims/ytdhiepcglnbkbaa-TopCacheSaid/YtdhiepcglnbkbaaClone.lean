
/- slices.Clone of requests. -/
import Derived.Test.YtdhiepcglnbkbaaOwn
import Derived.Outline
namespace Go.Proofs.Ytdhiepcglnbkbaa
open Go.RowKit

/-- It returns a row of the call's own, that holds xs. -/
def RetOwn (e : TypeId) (size n : Nat) (xs : List Value) (w : World) : Ending → World → Prop := fun E w' => ∃ v, E = .returned v ∧ w'.ownsRow w.heap.size e size v n xs ∧ Below w.heap.size w w'

theorem reqInfo : (Try.prog.info? 38).map (fun i => (i.zero, i.size, i.bytes)) = some (some (.agg #[.bool false, .int .i64 0, .int .i64 0, .slice none 0 0, .slice none 0 0, .int .i64 0]), 6, 80) := by kernel_rfl
theorem nil_reqs (a : Option Addr) (n c : Nat) (w : World) : (binOp .eql 30 (.slice a n c) (.slice none 0 0)).run Try.prog w = .ok (.bool a.isNone) w := Lib.run_eql_slice_nil w _ _ a n c 0 0 Try.underlying30

set_option maxRecDepth 100000 in
theorem clone_any (S : Nat → Prop) (v : Value) (n : Nat) (xs : List Value) (w : World) (h : Rd S w 6 v n xs) (h1 : ∀ u ∈ xs, u.oneCell' = true) (hn : n ≤ 65536) :
    Calls Try.prog 65 #[v] w (RetOwn 38 6 n xs w) := by
  obtain ⟨i0, hi0, hz0, hz1, hz2⟩ := info_parts reqInfo
  have H := Lib.hid h
  obtain ⟨A, c, rfl, hm, hc⟩ := h.form
  clear h
  have hnil := nil_reqs A n c w
  cases A with
  | none =>
    have hn0 : n = 0 := by
      obtain ⟨A', c', e, _, _, _, h4⟩ := H.out
      cases e
      rcases Nat.eq_zero_or_pos n with h | h
      · exact h
      · obtain ⟨_, _, h, _⟩ := h4 h; cases h
    subst hn0
    have hx : xs = [] := List.eq_nil_of_length_eq_zero (by obtain ⟨_, _, _, _, _, h, _⟩ := H.out; simpa using h)
    subst hx
    go_enter Try.func65, Try.ntmps65
    go_wp2_with fail
    go_ret
    exact ⟨_, rfl, World.ownsRow_nil _ _ _ _, Below.refl _ _⟩
  | some ad =>
    go_enter Try.func65, Try.ntmps65
    go_wp2_with (at_builtin; refine wpList_append_rd (S := S) _ rfl (.tmp 5) (.tmp 6) _ rfl w.heap.size 38 i0 _ 6 80 Try.underlying30 hi0 hz0 hz1 hz2 rfl (by omega) (.slice (some ⟨w.heap.size, 0, none⟩) 0 0) 0 [] rfl (World.ownsRow_lit w #[] 0 (Nat.le_refl _) (by simp [maxLen]) (by simp)) (.slice (some ad) n c) n xs rfl (H.out.below ((Below.refl _ _).alloc (Nat.le_refl _) _)) h1 (by simp only [maxLen]; omega) (by omega) (by simp) ?_; intro v1 w1 hown1 hg1 hat1)
    go_ret
    refine ⟨v1, rfl, by simpa using hown1, ((Below.refl _ _).alloc (Nat.le_refl _) _).grown hg1 (by simp) (fun k hk => ?_)⟩
    simp [Value.ownBlock] at hk
    omega
end Go.Proofs.Ytdhiepcglnbkbaa
