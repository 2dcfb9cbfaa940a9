/- Plain facts: lists of requests that may wait, taken from and added to; what Next says. -/
import Derived.Test.YtfklcfpkbnddfaaMod2
import Derived.Test.YtfklcfpkbnddfaaMem
namespace Go.Proofs.Ytfklcfpkbnddfaa
set_option linter.unusedSimpArgs false
set_option linter.unusedVariables false
open Go.RowKit

def Apart (a b : Rq) : Prop := meetB b.lo b.many a.lo a.many = false
theorem meetB_comm (a b c d : Int) : meetB a b c d = meetB c d a b := by unfold meetB; exact Bool.and_comm _ _
theorem Apart.symm {a b : Rq} (h : Apart a b) : Apart b a := by unfold Apart at *; rw [meetB_comm]; exact h
theorem good_iff (l : List Rq) : goodReqs l = true ↔ (∀ r ∈ l, reqF r = 0) ∧ l.Pairwise Apart := by
  unfold goodReqs
  rw [List.all_eq_true, List.pairwise_iff_getElem]
  constructor
  · intro h
    have key : ∀ i (hi : i < l.length), reqF l[i] = 0 ∧ apartFrom l[i] (l.take i) = true := by
      intro i hi
      have := h i (List.mem_range.2 hi)
      rw [okAt_some (List.getElem?_eq_getElem hi)] at this
      simpa using this
    constructor
    · intro r hr
      obtain ⟨i, hi, rfl⟩ := List.getElem_of_mem hr
      exact (key i hi).1
    · intro i j hi hj hij
      have := (key j hj).2
      unfold apartFrom at this
      rw [List.all_eq_true] at this
      have h2 := this l[i] (List.mem_iff_getElem?.2 ⟨i, by rw [List.getElem?_take, if_pos hij]; exact List.getElem?_eq_getElem hi⟩)
      simpa [Apart] using h2
  · rintro ⟨h1, h2⟩ i hi
    rw [List.mem_range] at hi
    rw [okAt_some (List.getElem?_eq_getElem hi)]
    simp only [Bool.and_eq_true, decide_eq_true_eq]
    refine ⟨h1 _ (List.getElem_mem hi), ?_⟩
    unfold apartFrom
    rw [List.all_eq_true]
    intro q hq
    obtain ⟨j, hj⟩ := List.mem_iff_getElem?.1 hq
    rw [List.getElem?_take] at hj
    split at hj
    · rename_i hji
      rw [List.getElem?_eq_getElem (by omega)] at hj
      cases hj
      have := h2 j i (by omega) hi hji
      simpa [Apart] using this
    · cases hj
theorem good_erase {l : List Rq} (h : goodReqs l = true) (i : Nat) : goodReqs (l.eraseIdx i) = true := by
  rw [good_iff] at *
  exact ⟨fun r hr => h.1 r (List.mem_of_mem_eraseIdx hr), h.2.sublist (List.eraseIdx_sublist _ _)⟩
theorem pairwise_perm {l l' : List Rq} (h : l.Perm l') (hp : l.Pairwise Apart) : l'.Pairwise Apart :=
  (h.pairwise_iff (fun {a b} hab => Apart.symm hab)).1 hp
theorem good_perm {l l' : List Rq} (h : l.Perm l') (hg : goodReqs l = true) : goodReqs l' = true := by
  rw [good_iff] at *
  exact ⟨fun r hr => hg.1 r (h.mem_iff.2 hr), pairwise_perm h hg.2⟩
theorem perm_back {l : List Rq} {i : Nat} {r : Rq} (h : l[i]? = some r) : l.Perm (l.eraseIdx i ++ [r]) := by
  have hi : i < l.length := by
    rcases Nat.lt_or_ge i l.length with h1 | h1
    · exact h1
    · rw [List.getElem?_eq_none h1] at h; cases h
  have e : r = l[i] := by rw [List.getElem?_eq_getElem hi] at h; cases h; rfl
  rw [e, List.eraseIdx_eq_take_drop_succ]
  have h2 : l = l.take i ++ (l[i] :: l.drop (i + 1)) := by rw [← List.drop_eq_getElem_cons hi, List.take_append_drop]
  rw [List.append_assoc]
  conv => lhs; rw [h2]
  exact List.Perm.append_left _ (List.perm_append_comm (l₁ := [l[i]]))

theorem pick_kind {l : List Rq} {t' : Tn} {now : Int} (hg : goodReqs l = true) (h : 0 ≤ oldest l t'.write) : ∃ (j : Nat) (r : Rq), pickM l t' now = j ∧ l[j]? = some r ∧ j < l.length ∧ r.write = t'.write := by
  obtain ⟨o, r, ho, hr, hw, hlt⟩ := oldest_ok h
  unfold pickM
  split
  · exact ⟨o, r, ho, hr, hlt, hw⟩
  · split
    · have h0 : 0 ≤ fromI l t'.write 0 := fromI_some hr hw (good_mem hg hr).span.1
      obtain ⟨j, r', hj, hr', hw', _, hl⟩ := fromI_ok h0
      exact ⟨j, r', hj, hr', hl, hw'⟩
    · rename_i hn
      obtain ⟨j, r', hj, hr', hw', _, hl⟩ := fromI_ok (Int.not_lt.1 hn)
      exact ⟨j, r', hj, hr', hl, hw'⟩

/-- What is known of the one that is next. -/
structure NextIs (l : List Rq) (t : Tn) (now : Int) (j : Nat) (r : Rq) (t' : Tn) : Prop where
  eq : nextM l t now = ((j : Int), t')
  get : l[j]? = some r
  lt : j < l.length
  kind : r.write = t'.write
  gone : 1 ≤ t'.gone ∧ t'.gone ≤ 3
  wh : t'.wh = r.lo + r.many
  on : 1 < t'.gone → t'.write = t.write ∧ t.wh ≤ r.lo
  st : 0 ≤ t.starved → t.starved ≤ 2 → 0 ≤ t'.starved ∧ t'.starved ≤ 2
  st64 : i64 t.starved → i64 t'.starved
theorem turned_starved (l : List Rq) (t : Tn) : ((turnedM l t).starved = t.starved) ∨ (turnedM l t).starved = 0 ∨ ((turnedM l t).starved = t.starved + 1 ∧ t.starved < 2) ∨ (oldest l false < 0 ∧ oldest l true < 0) := by
  unfold turnedM
  split
  · left; rfl
  · rename_i h1
    split
    · right; left; rfl
    · rename_i h2
      right; right
      rcases Int.lt_or_le (oldest l true) 0 with h3 | h3
      · rcases Int.lt_or_le (oldest l false) 0 with h4 | h4
        · right; exact ⟨h4, h3⟩
        · exact absurd ⟨h4, by omega⟩ h1
      · left
        refine ⟨rfl, ?_⟩
        rcases Int.lt_or_le t.starved 2 with h4 | h4
        · exact h4
        · exact absurd ⟨h3, .inr h4⟩ h2
theorem next_is {l : List Rq} (t : Tn) (now : Int) (hg : goodReqs l = true) (hne : l ≠ []) : ∃ j r t', NextIs l t now j r t' := by
  by_cases h : 0 < t.gone ∧ t.gone < 3 ∧ 0 ≤ fromI l t.write t.wh
  · obtain ⟨h1, h2, h3⟩ := h
    obtain ⟨j, r, hj, hr, hw, hlo, hl⟩ := fromI_ok h3
    refine ⟨j, r, { t with gone := t.gone + 1, wh := endOf l (fromI l t.write t.wh) }, ⟨?_, hr, hl, hw, by simp; omega, ?_, fun _ => ⟨rfl, hlo⟩, fun a b => ⟨a, b⟩, id⟩⟩
    · rw [nextM_on h1 h2 h3, hj]
    · show endOf l (fromI l t.write t.wh) = _
      rw [hj, endOf_at hr]
  · obtain ⟨j, r, hj, hr, hl, hw⟩ := pick_kind (now := now) hg (turned_kind (t := t) hne)
    have hk := kinds hne
    refine ⟨j, r, { turnedM l t with gone := 1, wh := endOf l (pickM l (turnedM l t) now) }, ⟨?_, hr, hl, hw, by simp, ?_, by simp, fun a b => ?_, fun a => ?_⟩⟩
    · rw [nextM_new h, hj]
    · show endOf l (pickM l (turnedM l t) now) = _
      rw [hj, endOf_at hr]
    · show 0 ≤ (turnedM l t).starved ∧ (turnedM l t).starved ≤ 2
      rcases turned_starved l t with h | h | h | h <;> omega
    · show i64 (turnedM l t).starved
      unfold i64 at *
      rcases turned_starved l t with h | h | h | h <;> omega
end Go.Proofs.Ytfklcfpkbnddfaa
