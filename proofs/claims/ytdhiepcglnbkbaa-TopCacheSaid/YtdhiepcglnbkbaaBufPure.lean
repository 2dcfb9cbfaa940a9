
/- What Put and Pick bring about, in plain words on lists. -/
import Derived.Test.YtdhiepcglnbkbaaBufMod
namespace Go.Proofs.Ytdhiepcglnbkbaa

theorem bestB_none {ok : Bf → Bool} {l : List Bf} : ∀ {n : Nat}, bestB ok l n < 0 → ∀ i x, i < n → l[i]? = some x → ok x = false
  | 0, _, i, x, hi, _ => by omega
  | n + 1, h, i, x, hi, hx => by
    rcases Nat.eq_or_lt_of_le (Nat.le_of_lt_succ hi) with e | e
    · subst e
      cases ho : ok x with
      | false => rfl
      | true =>
        exfalso
        by_cases hb : bestB ok l i < 0
        · rw [bestB_first hx ho hb] at h; omega
        · rw [bestB, hx] at h
          simp only at h
          split at h <;> omega
    · refine bestB_none (n := n) ?_ i x e hx
      rw [bestB] at h
      cases hn : l[n]? with
      | none => simpa [hn] using h
      | some r =>
        rw [hn] at h
        simp only at h
        split at h
        · omega
        · exact h
theorem bestB_some {ok : Bf → Bool} {l : List Bf} : ∀ {n j : Nat}, bestB ok l n = (j : Int) → ∃ x, l[j]? = some x ∧ ok x = true ∧ ∀ i y, i < n → l[i]? = some y → ok y = true → x.used ≤ y.used
  | 0, j, h => by simp [bestB] at h
  | n + 1, j, h => by
    cases hn : l[n]? with
    | none =>
      have e : bestB ok l (n + 1) = bestB ok l n := by rw [bestB, hn]
      rw [e] at h
      obtain ⟨x, h1, h2, h3⟩ := bestB_some h
      refine ⟨x, h1, h2, fun i y hi hy ho => ?_⟩
      rcases Nat.eq_or_lt_of_le (Nat.le_of_lt_succ hi) with e | e
      · subst e; rw [hn] at hy; cases hy
      · exact h3 i y e hy ho
    | some r =>
      by_cases ho : ok r = true
      · by_cases hb : bestB ok l n < 0
        · rw [bestB_first hn ho hb] at h
          obtain rfl : n = j := by omega
          refine ⟨r, hn, ho, fun i y hi hy hoy => ?_⟩
          rcases Nat.eq_or_lt_of_le (Nat.le_of_lt_succ hi) with e | e
          · subst e; rw [hn] at hy; cases hy; exact Int.le_refl _
          · have := bestB_none hb i y e hy; rw [this] at hoy; cases hoy
        · obtain ⟨k, hk⟩ : ∃ k : Nat, bestB ok l n = (k : Int) := ⟨(bestB ok l n).toNat, by omega⟩
          obtain ⟨x, h1, h2, h3⟩ := bestB_some hk
          by_cases hl : r.used < x.used
          · rw [bestB_less hn ho hk h1 hl] at h
            obtain rfl : n = j := by omega
            refine ⟨r, hn, ho, fun i y hi hy hoy => ?_⟩
            rcases Nat.eq_or_lt_of_le (Nat.le_of_lt_succ hi) with e | e
            · subst e; rw [hn] at hy; cases hy; exact Int.le_refl _
            · have := h3 i y e hy hoy; omega
          · rw [bestB_more hn hk h1 hl] at h
            obtain rfl : k = j := by omega
            refine ⟨x, h1, h2, fun i y hi hy hoy => ?_⟩
            rcases Nat.eq_or_lt_of_le (Nat.le_of_lt_succ hi) with e | e
            · subst e; rw [hn] at hy; cases hy; omega
            · exact h3 i y e hy hoy
      · have ho : ok r = false := by simpa using ho
        rw [bestB_no hn ho] at h
        obtain ⟨x, h1, h2, h3⟩ := bestB_some h
        refine ⟨x, h1, h2, fun i y hi hy hoy => ?_⟩
        rcases Nat.eq_or_lt_of_le (Nat.le_of_lt_succ hi) with e | e
        · subst e; rw [hn] at hy; cases hy; rw [ho] at hoy; cases hoy
        · exact h3 i y e hy hoy
theorem getB_mem {l : List Bf} (h : Rises l) {x : Bf} (hx : x ∈ l) : getB l x.pos = (x, true) := by
  obtain ⟨i, hi⟩ := List.mem_iff_getElem?.1 hx
  exact getB_of h hi rfl
theorem mem_insB {l : List Bf} {b y : Bf} : y ∈ insB l b ↔ y = b ∨ y ∈ l := by
  unfold insB
  constructor
  · intro h
    rcases List.mem_append.1 h with h | h
    · exact .inr (List.mem_of_mem_take h)
    · rcases List.mem_cons.1 h with rfl | h
      · exact .inl rfl
      · exact .inr (List.mem_of_mem_drop h)
  · rintro (rfl | h)
    · simp
    · have := List.take_append_drop (posB l b.pos) l
      rw [← this] at h
      rcases List.mem_append.1 h with h | h
      · exact List.mem_append.2 (.inl h)
      · exact List.mem_append.2 (.inr (List.mem_cons_of_mem _ h))
theorem insB_length (l : List Bf) (b : Bf) : (insB l b).length = l.length + 1 := by
  have := posB_le l b.pos
  unfold insB; simp; omega
/-- What Put brings about: the one of the place J goes (there is none, where the list has no such place). -/
structure PutSpec (l m : List Bf) (b : Bf) (held : Int → Bool) (J : Nat) : Prop where
  rises : Rises m
  len : m.length ≤ 8
  own : getB m b.pos = (b, true)
  stay : ∀ i x, l[i]? = some x → x.pos ≠ b.pos → i ≠ J → getB m x.pos = (x, true)
  gone : ∀ x, l[J]? = some x → x.pos ≠ b.pos ∧ getB m x.pos = (zeroBf, false) ∧ x.dirty = false ∧ held x.pos = false ∧ l.length = 8 ∧ ∀ (k : Nat) (y : Bf), l[k]? = some y → y.dirty = false → held y.pos = false → x.used ≤ y.used
theorem put_spec {l m : List Bf} {b : Bf} {held : Int → Bool} (hr : Rises l) (h8 : l.length ≤ 8) (hp : putB l b held = some m) : ∃ J, PutSpec l m b held J := by
  have hrm := putB_rises hr hp
  unfold putB at hp
  cases hi : isB l b.pos with
  | true =>
    rw [hi, if_pos rfl] at hp
    cases hp
    refine ⟨l.length, hrm, by simpa using h8, ?_, fun i x hx hne _ => ?_, fun x hx => by simp at hx⟩
    · refine getB_mem hrm ?_
      obtain ⟨c, hc, hcp⟩ := isB_iff.1 hi
      exact List.mem_map.2 ⟨c, hc, if_pos hcp⟩
    · exact getB_mem hrm (List.mem_map.2 ⟨x, List.mem_of_getElem? hx, if_neg hne⟩)
  | false =>
    rw [hi, if_neg (by simp)] at hp
    by_cases hl8 : 8 ≤ l.length
    · rw [if_pos hl8] at hp
      by_cases hv : leastB l false held < 0
      · rw [if_pos hv] at hp; cases hp
      · rw [if_neg hv] at hp
        cases hp
        obtain ⟨j, hj⟩ : ∃ j : Nat, leastB l false held = (j : Int) := ⟨(leastB l false held).toNat, by omega⟩
        rw [hj, Int.toNat_natCast] at hrm ⊢
        obtain ⟨x, hx, hox, hmin⟩ := bestB_some hj
        have hjl := (List.getElem?_eq_some_iff.1 hx).1
        refine ⟨j, hrm, ?_, getB_mem hrm (mem_insB.2 (.inl rfl)), fun i y hy hne hij => ?_, fun y hy => ?_⟩
        · rw [insB_length, List.length_eraseIdx_of_lt hjl]; omega
        · refine getB_mem hrm (mem_insB.2 (.inr ?_))
          exact List.mem_eraseIdx_iff_getElem?.2 ⟨i, hij, hy⟩
        · rw [hx] at hy
          cases hy
          simp at hox
          refine ⟨isB_false.1 hi x (List.mem_of_getElem? hx), getB_no (isB_false.2 fun y hy => ?_), hox.1, hox.2, by omega, fun k y hy hd hh => hmin k y (List.getElem?_eq_some_iff.1 hy).1 hy (by simp [hd, hh])⟩
          rcases mem_insB.1 hy with rfl | hy
          · exact fun e => isB_false.1 hi x (List.mem_of_getElem? hx) e.symm
          · obtain ⟨i, hij, hy⟩ := List.mem_eraseIdx_iff_getElem?.1 hy
            exact fun e => hij (hr.inj hy hx e)
    · rw [if_neg hl8] at hp
      cases hp
      refine ⟨l.length, hrm, by rw [insB_length]; omega, getB_mem hrm (mem_insB.2 (.inl rfl)), fun i x hx hne _ => getB_mem hrm (mem_insB.2 (.inr (List.mem_of_getElem? hx))), fun x hx => by simp at hx⟩
theorem put_fail {l : List Bf} {b : Bf} {held : Int → Bool} (hp : putB l b held = none) : 8 ≤ l.length := by
  unfold putB at hp
  split at hp
  · cases hp
  · split at hp
    · rename_i h; exact h
    · cases hp
/-- What Pick brings about. -/
theorem pick_none {l : List Bf} {held : Int → Bool} (h0 : ∀ b ∈ l, 0 ≤ b.pos) (h : pickB l held < 0) : pickB l held = -1 ∧ getB l (-1) = (zeroBf, false) ∧ ∀ x ∈ l, x.dirty = true → held x.pos = true := by
  unfold pickB at h ⊢
  by_cases hv : leastB l true held < 0
  · rw [if_pos hv]
    refine ⟨rfl, getB_no (isB_false.2 fun x hx e => by have := h0 x hx; omega), fun x hx hd => ?_⟩
    obtain ⟨i, hi⟩ := List.mem_iff_getElem?.1 hx
    have := bestB_none hv i x (List.getElem?_eq_some_iff.1 hi).1 hi
    simpa [hd] using this
  · exfalso
    rw [if_neg hv] at h
    obtain ⟨j, hj⟩ : ∃ j : Nat, leastB l true held = (j : Int) := ⟨(leastB l true held).toNat, by omega⟩
    obtain ⟨x, hx, _, _⟩ := bestB_some hj
    rw [hj, Int.toNat_natCast, List.getD_eq_getElem?_getD, hx, Option.getD_some] at h
    have := h0 x (List.mem_of_getElem? hx)
    omega
theorem pick_some {l : List Bf} {held : Int → Bool} (hr : Rises l) (h : ¬ pickB l held < 0) : ∃ x ∈ l, x.pos = pickB l held ∧ getB l (pickB l held) = (x, true) ∧ x.dirty = true ∧ held x.pos = false ∧ ∀ y ∈ l, y.dirty = true → held y.pos = false → x.used ≤ y.used := by
  unfold pickB at h ⊢
  by_cases hv : leastB l true held < 0
  · rw [if_pos hv] at h; omega
  · rw [if_neg hv]
    obtain ⟨j, hj⟩ : ∃ j : Nat, leastB l true held = (j : Int) := ⟨(leastB l true held).toNat, by omega⟩
    obtain ⟨x, hx, ho, hmin⟩ := bestB_some hj
    rw [hj, Int.toNat_natCast, List.getD_eq_getElem?_getD, hx, Option.getD_some]
    simp at ho
    refine ⟨x, List.mem_of_getElem? hx, rfl, getB_of hr hx rfl, ho.1, ho.2, fun y hy hd hh => ?_⟩
    obtain ⟨i, hi⟩ := List.mem_iff_getElem?.1 hy
    exact hmin i y (List.getElem?_eq_some_iff.1 hi).1 hi (by simp [hd, hh])
end Go.Proofs.Ytdhiepcglnbkbaa
