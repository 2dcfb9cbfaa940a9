
/- The package span and the reference's spans: what each function returns, at spans that may be. -/
import Derived.Test.YtdhiepcglnbkbaaMod
namespace Go.Proofs.Ytdhiepcglnbkbaa
open Go.RowKit


theorem meet_any (af am bf bm : Int) (w : World) (h1 : 0 ≤ af) (h2 : af ≤ 40) (h3 : 0 ≤ am) (h4 : am ≤ 40) (h5 : 0 ≤ bf) (h6 : bf ≤ 40) (h7 : 0 ≤ bm) (h8 : bm ≤ 40) :
    Calls Try.prog 54 #[spanV af am, spanV bf bm] w (Ret (.bool (meetB af am bf bm)) w) := by
  go_enter Try.func54, Try.ntmps54
  go_wp2
  all_goals
    go_ret
    refine ⟨?_, ((Below.refl _ _).alloc (Nat.le_refl _) _).alloc (by simp) _⟩
    simp [meetB, *]
    try omega

theorem has_any (f m at_ : Int) (w : World) (h1 : 0 ≤ f) (h2 : f ≤ 40) (h3 : -9223372036854775808 ≤ at_) (h4 : at_ ≤ 9223372036854775807) :
    Calls Try.prog 58 #[spanV f m, .int .i64 at_] w (Ret (.bool (hasB f m at_)) w) := by
  by_cases hc : f ≤ at_
  all_goals
    go_enter Try.func58, Try.ntmps58
    go_wp2
    go_ret
    exact ⟨by simp [hasB]; omega, ((Below.refl _ _).alloc (Nat.le_refl _) _)⟩

theorem spanfault_any (f m most : Int) (w : World) :
    Calls Try.prog 63 #[spanV f m, .int .i64 most] w (Ret (.int .i64 (spanF f m most)) w) := by
  by_cases hg : 0 ≤ f ∧ f ≤ 31 ∧ 1 ≤ m ∧ m ≤ most ∧ m ≤ 32 - f
  · have e0 : spanF f m most = 0 := spanF_pos hg
    rw [e0]
    obtain ⟨h1, h2, h3, h4, h5⟩ := hg
    go_enter Try.func63, Try.ntmps63
    go_wp2
    go_ret
    exact ⟨rfl, (Below.refl _ _).alloc (Nat.le_refl _) _⟩
  · have e0 : spanF f m most = 1 := spanF_neg hg
    rw [e0]
    clear e0
    by_cases h1 : f < 0
    · clear hg
      go_enter Try.func63, Try.ntmps63
      go_wp2
      go_ret
      exact ⟨rfl, (Below.refl _ _).alloc (Nat.le_refl _) _⟩
    · by_cases h2 : 31 < f
      · clear hg
        go_enter Try.func63, Try.ntmps63
        go_wp2
        go_ret
        exact ⟨rfl, (Below.refl _ _).alloc (Nat.le_refl _) _⟩
      · by_cases h3 : m < 1
        · clear hg
          go_enter Try.func63, Try.ntmps63
          go_wp2
          go_ret
          exact ⟨rfl, (Below.refl _ _).alloc (Nat.le_refl _) _⟩
        · by_cases h4 : most < m
          · clear hg
            go_enter Try.func63, Try.ntmps63
            go_wp2
            go_ret
            exact ⟨rfl, (Below.refl _ _).alloc (Nat.le_refl _) _⟩
          · have h5 : 32 - f < m := by omega
            have h6 : 32 - m < f := by omega
            clear hg
            go_enter Try.func63, Try.ntmps63
            go_wp2
            go_ret
            exact ⟨rfl, (Below.refl _ _).alloc (Nat.le_refl _) _⟩

theorem check_any (f m most : Int) (w : World) (hm : most ≤ 9223372036854775807) :
    Calls Try.prog 75 #[spanV f m, .int .i64 most] w (Ret (errV (spanF f m most)) w) := by
  by_cases hg : 0 ≤ f ∧ f ≤ 31 ∧ 1 ≤ m ∧ m ≤ most ∧ m ≤ 32 - f
  · have e0 : spanF f m most = 0 := spanF_pos hg
    rw [e0]
    obtain ⟨h1, h2, h3, h4, h5⟩ := hg
    go_enter Try.func75, Try.ntmps75
    go_wp2
    go_ret
    exact ⟨rfl, (Below.refl _ _).alloc (Nat.le_refl _) _⟩
  · have e0 : spanF f m most = 1 := spanF_neg hg
    rw [e0]
    clear e0
    by_cases h1 : f < 0
    · clear hg
      go_enter Try.func75, Try.ntmps75
      go_wp2
      go_ret
      exact ⟨rfl, (Below.refl _ _).alloc (Nat.le_refl _) _⟩
    · by_cases h2 : 31 < f
      · clear hg
        go_enter Try.func75, Try.ntmps75
        go_wp2
        go_ret
        exact ⟨rfl, (Below.refl _ _).alloc (Nat.le_refl _) _⟩
      · by_cases h3 : m < 1
        · clear hg
          go_enter Try.func75, Try.ntmps75
          go_wp2
          go_ret
          exact ⟨rfl, (Below.refl _ _).alloc (Nat.le_refl _) _⟩
        · by_cases h4 : most < m
          · clear hg
            go_enter Try.func75, Try.ntmps75
            go_wp2
            go_ret
            exact ⟨rfl, (Below.refl _ _).alloc (Nat.le_refl _) _⟩
          · have h5 : 32 - f < m := by omega
            have h6 : 32 - m < f := by omega
            clear hg
            go_enter Try.func75, Try.ntmps75
            go_wp2
            go_ret
            exact ⟨rfl, (Below.refl _ _).alloc (Nat.le_refl _) _⟩

theorem same_nil (f : Int) (w : World) :
    Calls Try.prog 17 #[.nilIface, .int .i64 f] w (RetSame (.bool (f == 0)) w) := by
  go_enter Try.func17, Try.ntmps17
  go_wp2
  go_ret
  exact ⟨rfl, rfl⟩

theorem same_err (n f : Int) (w : World) (h : 0 < n) :
    Calls Try.prog 17 #[.iface 47 (.int .i64 n), .int .i64 f] w (RetSame (.bool (n == f)) w) := by
  by_cases h1 : 0 < f
  · go_enter Try.func17, Try.ntmps17
    go_wp2
    go_ret
    exact ⟨rfl, rfl⟩
  · have h2 : (n == f) = false := by simp; omega
    rw [h2]
    go_enter Try.func17, Try.ntmps17
    go_wp2
    go_ret
    exact ⟨rfl, rfl⟩

theorem same_any (n : Nat) (f : Int) (w : World) :
    Calls Try.prog 17 #[errV n, .int .i64 f] w (RetSame (.bool ((n : Int) == f)) w) := by
  unfold errV
  by_cases h : n = 0
  · subst h
    rw [if_pos rfl]
    refine (same_nil f w).mono ?_
    rintro e w' ⟨rfl, rfl⟩
    refine ⟨?_, rfl⟩
    have : (f == 0) = (((0 : Nat) : Int) == f) := by
      rw [Bool.eq_iff_iff]; simp; omega
    rw [this]
  · rw [if_neg h]
    exact same_err n f w (by omega)

end Go.Proofs.Ytdhiepcglnbkbaa
