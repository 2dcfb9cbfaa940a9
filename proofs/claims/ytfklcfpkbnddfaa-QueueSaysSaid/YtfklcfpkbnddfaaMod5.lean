/- Of a request that is added: plain facts. -/
import Derived.Test.YtfklcfpkbnddfaaAdd2
import Derived.Test.YtfklcfpkbnddfaaMod3
namespace Go.Proofs.Ytfklcfpkbnddfaa
set_option linter.unusedSimpArgs false
set_option linter.unusedVariables false

theorem joined_span {p q x : Rq} (h : joinedM p q = some x) : p.lo + p.many = q.lo ∧ x.lo = p.lo ∧ x.many = p.many + q.many := by
  unfold joinedM at h
  split at h
  · rename_i hk
    obtain ⟨h1, _⟩ := hk
    cases h
    exact ⟨h1, rfl, rfl⟩
  · cases h
theorem merge_span {a b x : Rq} (h : mergeM a b = some x) : (a.lo + a.many = b.lo ∧ x.lo = a.lo ∧ x.many = a.many + b.many) ∨ (b.lo + b.many = a.lo ∧ x.lo = b.lo ∧ x.many = a.many + b.many) := by
  unfold mergeM swapM at h
  split at h
  · right
    obtain ⟨h1, h2, h3⟩ := joined_span h
    exact ⟨h1, h2, by rw [h3, Int.add_comm]⟩
  · left; exact joined_span h
theorem meetB_iff {a b c d : Int} : meetB a b c d = false ↔ ¬ (a < c + d ∧ c < a + b) := by
  unfold meetB
  by_cases h1 : a < c + d <;> by_cases h2 : c < a + b <;> simp [h1, h2]
theorem meetB_yes {a b c d : Int} : meetB a b c d = true ↔ (a < c + d ∧ c < a + b) := by
  unfold meetB; simp
def sumMany (l : List Rq) : Int := (l.map (·.many)).sum
theorem sum_take_succ {l : List Rq} {k : Nat} {x : Rq} (h : l[k]? = some x) : sumMany (l.take (k + 1)) = sumMany (l.take k) + x.many := by
  unfold sumMany
  rw [List.take_add_one, h]
  simp
theorem sum_bound {l : List Rq} (h : ∀ x ∈ l, 1 ≤ x.many ∧ x.many ≤ 4) : 0 ≤ sumMany l ∧ sumMany l ≤ 4 * l.length := by
  induction l with
  | nil => simp [sumMany]
  | cons a l ih =>
    obtain ⟨h1, h2⟩ := ih (fun x hx => h x (by simp [hx]))
    obtain ⟨h3, h4⟩ := h a (by simp)
    unfold sumMany at *
    simp only [List.map_cons, List.sum_cons, List.length_cons]
    omega
theorem sum_set {m : Rq} : ∀ {l : List Rq} {k : Nat} {x : Rq}, l[k]? = some x → sumMany (l.set k m) = sumMany l - x.many + m.many
  | [], k, x, h => by simp at h
  | a :: l, 0, x, h => by
    simp at h; subst h
    simp [sumMany]; omega
  | a :: l, k + 1, x, h => by
    have ih := sum_set (m := m) (l := l) (k := k) (x := x) (by simpa using h)
    unfold sumMany at *
    simp only [List.set_cons_succ, List.map_cons, List.sum_cons]
    omega
theorem good_two {l : List Rq} (h : goodReqs l = true) {i j : Nat} {a b : Rq} (hij : i < j) (ha : l[i]? = some a) (hb : l[j]? = some b) : Apart a b := by
  have hp := ((good_iff l).1 h).2
  rw [List.pairwise_iff_getElem] at hp
  obtain ⟨h1, e1⟩ := List.getElem?_eq_some_iff.1 ha
  obtain ⟨h2, e2⟩ := List.getElem?_eq_some_iff.1 hb
  rw [← e1, ← e2]
  exact hp i j h1 h2 hij
theorem good_only {l : List Rq} (h : goodReqs l = true) {at_ : Int} {i j : Nat} {a b : Rq} (ha : l[i]? = some a) (hb : l[j]? = some b) (h1 : hasB a.lo a.many at_ = true) (h2 : hasB b.lo b.many at_ = true) : i = j := by
  rw [hasB_iff] at h1 h2
  rcases Nat.lt_trichotomy i j with hij | hij | hij
  · have := good_two h hij ha hb
    unfold Apart at this
    rw [meetB_iff] at this
    omega
  · exact hij
  · have := good_two h hij hb ha
    unfold Apart at this
    rw [meetB_iff] at this
    omega
/-- What is added is in one of them. -/
structure Added (l : List Rq) (r : Rq) (q : List Rq) : Prop where
  good : goodReqs q = true
  len : q.length ≤ l.length + 1
  sum : sumMany q = r.many + sumMany l
  one : ∃ (i : Nat) (x : Rq), q[i]? = some x ∧ hasB x.lo x.many r.lo = true ∧ x.write = r.write ∧ (q.length = l.length + 1 ∨ r.tags.length < x.tags.length)
theorem set_rel {α : Type} (R : α → α → Prop) {l : List α} {k : Nat} {m : α} (hp : l.Pairwise R) (h1 : ∀ (j : Nat) (y : α), j < k → l[j]? = some y → R y m) (h2 : ∀ (j : Nat) (y : α), k < j → l[j]? = some y → R m y) : (l.set k m).Pairwise R := by
  rw [List.pairwise_iff_getElem] at hp ⊢
  intro i j hi hj hij
  rw [List.getElem_set, List.getElem_set]
  simp only [List.length_set] at hi hj
  split
  · rename_i e
    subst e
    rw [if_neg (by omega)]
    exact h2 j _ hij (List.getElem?_eq_getElem hj)
  · split
    · rename_i e
      subst e
      exact h1 i _ hij (List.getElem?_eq_getElem hi)
    · exact hp i j hi hj hij
theorem mergeIn_some {r : Rq} : ∀ {l q : List Rq}, mergeIn l r = some q → ∃ k x m, l[k]? = some x ∧ mergeM x r = some m ∧ q = l.set k m
  | [], q, h => by simp [mergeIn] at h
  | a :: l, q, h => by
    unfold mergeIn at h
    split at h
    · rename_i m hm
      cases h
      exact ⟨0, a, m, rfl, hm, rfl⟩
    · obtain ⟨q', hq, rfl⟩ := Option.map_eq_some_iff.1 h
      obtain ⟨k, x, m, h1, h2, rfl⟩ := mergeIn_some hq
      exact ⟨k + 1, x, m, by simpa using h1, h2, rfl⟩
theorem meets_no {l : List Rq} {r : Rq} (h : l.any (meetsR r.lo r.many) = false) {y : Rq} (hy : y ∈ l) : meetB y.lo y.many r.lo r.many = false := by
  rw [List.any_eq_false] at h
  have := h y hy
  simpa [meetsR] using this
theorem add_facts {l : List Rq} {r : Rq} {q : List Rq} (hg : goodReqs l = true) (h : addM l r = (q, 0)) : Added l r q := by
  by_cases h0 : reqF r = 0
  rotate_left
  · rw [addM_bad h0] at h
    exact absurd (congrArg Prod.snd h) h0
  cases h1 : l.any (meetsR r.lo r.many) with
  | true => rw [addM_meets h0 h1] at h; cases h
  | false =>
    have hr := reqF_zero h0
    obtain ⟨a1, a2, a3, a4, a5⟩ := hr.span
    obtain ⟨hf, hp⟩ := (good_iff l).1 hg
    have hmem : ∀ (j : Nat) (y : Rq), l[j]? = some y → meetB y.lo y.many r.lo r.many = false := fun j y hy => meets_no h1 (List.mem_of_getElem? hy)
    cases h2 : mergeIn l r with
    | some q' =>
      rw [addM_merge h0 h1 h2] at h
      cases h
      obtain ⟨k, x, m, hx, hm, rfl⟩ := mergeIn_some h2
      have hxo : ReqOk x := reqF_zero (hf x (List.mem_of_getElem? hx))
      obtain ⟨b1, b2, b3, b4, b5⟩ := hxo.span
      have hj := merge_some hxo hr hm
      have hs := merge_span hm
      have hxr := hmem k x hx
      have hkl : k < l.length := (List.getElem?_eq_some_iff.1 hx).1
      have key : ∀ y, 1 ≤ y.many → meetB y.lo y.many r.lo r.many = false → Apart y x → Apart y m := by
        intro y hy0 hy1 hy2
        unfold Apart at *
        rw [meetB_iff] at *
        omega
      refine ⟨(good_iff _).2 ⟨fun y hy => ?_, set_rel _ hp (fun j y hjk hy => ?_) (fun j y hjk hy => ?_)⟩, by simp, ?_, k, m, ?_, ?_, ?_, .inr ?_⟩
      · rcases List.mem_or_eq_of_mem_set hy with h | rfl
        · exact hf y h
        · exact reqF_ok hj.ok
      · exact key y (reqF_zero (hf y (List.mem_of_getElem? hy))).span.2.2.1 (hmem j y hy) (good_two hg hjk hy hx)
      · exact (key y (reqF_zero (hf y (List.mem_of_getElem? hy))).span.2.2.1 (hmem j y hy) (good_two hg hjk hx hy).symm).symm
      · rw [sum_set hx, hj.many]; omega
      · rw [List.getElem?_set, if_pos rfl, if_pos hkl]
      · rw [hj.has, Bool.or_eq_true]; right; rw [hasB_iff]; omega
      · rw [hj.write, hj.kind]
      · rw [hj.tags]; have := hxo.tags.1; omega
    | none =>
      by_cases h3 : 6 ≤ l.length
      · rw [addM_full h0 h1 h2 h3] at h; cases h
      · rw [addM_new h0 h1 h2 h3] at h
        cases h
        refine ⟨(good_iff _).2 ⟨fun y hy => ?_, ?_⟩, by simp, ?_, l.length, r, by simp, ?_, rfl, .inl (by simp)⟩
        · rcases List.mem_append.1 hy with h | h
          · exact hf y h
          · simp at h; subst h; exact h0
        · rw [List.pairwise_append]
          refine ⟨hp, by simp, fun y hy z hz => ?_⟩
          simp at hz; subst hz
          unfold Apart
          rw [meetB_comm]
          exact meets_no h1 hy
        · unfold sumMany; simp; omega
        · rw [hasB_iff]; omega
theorem add_ok {l : List Rq} {r : Rq} {q : List Rq} (h : addM l r = (q, 0)) : ReqOk r := by
  by_cases h0 : reqF r = 0
  · exact reqF_zero h0
  · rw [addM_bad h0] at h
    exact absurd (congrArg Prod.snd h) h0
theorem add_err {l : List Rq} {r : Rq} (h : (addM l r).2 ≠ 0) : (addM l r).1 = [] := by
  by_cases h0 : reqF r = 0
  rotate_left
  · rw [addM_bad h0]
  cases h1 : l.any (meetsR r.lo r.many) with
  | true => rw [addM_meets h0 h1]
  | false =>
    cases h2 : mergeIn l r with
    | some q => rw [addM_merge h0 h1 h2] at h; exact absurd rfl h
    | none =>
      by_cases h3 : 6 ≤ l.length
      · rw [addM_full h0 h1 h2 h3]
      · rw [addM_new h0 h1 h2 h3] at h; exact absurd rfl h
end Go.Proofs.Ytfklcfpkbnddfaa
