/- The model: which one is next. -/
import Derived.Test.YtfklcfpkbnddfaaMod
namespace Go.Proofs.Ytfklcfpkbnddfaa
open Go.RowKit

theorem bestOf_ok {ok : Rq → Bool} {key : Rq → Int} {l : List Rq} : ∀ {k j : Nat}, bestOf ok key l k = j → ∃ r, l[j]? = some r ∧ ok r = true ∧ j < k
  | 0, j, h => by simp [bestOf] at h
  | k + 1, j, h => by
    rw [bestOf] at h
    split at h
    · obtain ⟨r, h1, h2, h3⟩ := bestOf_ok h; exact ⟨r, h1, h2, by omega⟩
    · rename_i r hr
      split at h
      · rename_i hc
        obtain rfl : k = j := by omega
        simp at hc
        exact ⟨r, hr, hc.1, by omega⟩
      · obtain ⟨r, h1, h2, h3⟩ := bestOf_ok h; exact ⟨r, h1, h2, by omega⟩
theorem bestOf_some {ok : Rq → Bool} {key : Rq → Int} {l : List Rq} {r : Rq} {j : Nat} (hj : l[j]? = some r) (ho : ok r = true) : ∀ {k : Nat}, j < k → 0 ≤ bestOf ok key l k
  | 0, h => by omega
  | k + 1, h => by
    by_cases hjk : j = k
    · subst hjk
      rw [bestOf, hj]
      simp only
      split
      · omega
      · rename_i hc
        simp [ho] at hc
        omega
    · have ih := bestOf_some (key := key) hj ho (show j < k by omega)
      rw [bestOf]
      split
      · exact ih
      · split
        · omega
        · exact ih

theorem oldest_ok {l : List Rq} {wb : Bool} (h : 0 ≤ oldest l wb) : ∃ (j : Nat) (r : Rq), oldest l wb = j ∧ l[j]? = some r ∧ r.write = wb ∧ j < l.length := by
  obtain ⟨j, hj⟩ := Int.eq_ofNat_of_zero_le h
  obtain ⟨r, h1, h2, h3⟩ := bestOf_ok hj
  exact ⟨j, r, hj, h1, by simpa using h2, h3⟩
theorem fromI_ok {l : List Rq} {wb : Bool} {a : Int} (h : 0 ≤ fromI l wb a) : ∃ (j : Nat) (r : Rq), fromI l wb a = j ∧ l[j]? = some r ∧ r.write = wb ∧ a ≤ r.lo ∧ j < l.length := by
  obtain ⟨j, hj⟩ := Int.eq_ofNat_of_zero_le h
  obtain ⟨r, h1, h2, h3⟩ := bestOf_ok hj
  simp at h2
  exact ⟨j, r, hj, h1, h2.1, h2.2, h3⟩
theorem oldest_some {l : List Rq} {wb : Bool} {r : Rq} {j : Nat} (hj : l[j]? = some r) (hw : r.write = wb) : 0 ≤ oldest l wb :=
  bestOf_some hj (by simp [hw]) (by rcases Nat.lt_or_ge j l.length with h | h; exact h; rw [List.getElem?_eq_none h] at hj; cases hj)
theorem fromI_some {l : List Rq} {wb : Bool} {r : Rq} {j : Nat} {a : Int} (hj : l[j]? = some r) (hw : r.write = wb) (ha : a ≤ r.lo) : 0 ≤ fromI l wb a :=
  bestOf_some hj (by simp [hw, ha]) (by rcases Nat.lt_or_ge j l.length with h | h; exact h; rw [List.getElem?_eq_none h] at hj; cases hj)
theorem kinds {l : List Rq} (h : l ≠ []) : 0 ≤ oldest l false ∨ 0 ≤ oldest l true := by
  cases l with
  | nil => exact absurd rfl h
  | cons r l =>
    cases hw : r.write with
    | false => left; exact oldest_some (j := 0) rfl hw
    | true => right; exact oldest_some (j := 0) rfl hw

def endOf (l : List Rq) (i : Int) : Int := (l.getD i.toNat default).lo + (l.getD i.toNat default).many
theorem endOf_at {l : List Rq} {j : Nat} {r : Rq} (h : l[j]? = some r) : endOf l j = r.lo + r.many := by
  unfold endOf; rw [Int.toNat_natCast, List.getD_eq_getElem?_getD, h]; rfl
def pickM (l : List Rq) (t : Tn) (now : Int) : Int :=
  if expB (l.getD (oldest l t.write).toNat default) now then oldest l t.write
  else if fromI l t.write t.wh < 0 then fromI l t.write 0 else fromI l t.write t.wh
/-- Which one goes, and whose turn it is then. -/
def nextM (l : List Rq) (t : Tn) (now : Int) : Int × Tn :=
  if 0 < t.gone ∧ t.gone < 3 ∧ 0 ≤ fromI l t.write t.wh then (fromI l t.write t.wh, { t with gone := t.gone + 1, wh := endOf l (fromI l t.write t.wh) })
  else (pickM l (turnedM l t) now, { turnedM l t with gone := 1, wh := endOf l (pickM l (turnedM l t) now) })
theorem nextM_on {l : List Rq} {t : Tn} {now : Int} (h1 : 0 < t.gone) (h2 : t.gone < 3) (h3 : 0 ≤ fromI l t.write t.wh) :
    nextM l t now = (fromI l t.write t.wh, { t with gone := t.gone + 1, wh := endOf l (fromI l t.write t.wh) }) := if_pos ⟨h1, h2, h3⟩
theorem nextM_new {l : List Rq} {t : Tn} {now : Int} (h : ¬ (0 < t.gone ∧ t.gone < 3 ∧ 0 ≤ fromI l t.write t.wh)) :
    nextM l t now = (pickM l (turnedM l t) now, { turnedM l t with gone := 1, wh := endOf l (pickM l (turnedM l t) now) }) := if_neg h
theorem turned_kind {l : List Rq} {t : Tn} (hne : l ≠ []) : 0 ≤ oldest l (turnedM l t).write := by
  have hk := kinds hne
  unfold turnedM
  by_cases h1 : 0 ≤ oldest l false
  · by_cases h2 : 0 ≤ oldest l true
    · rw [if_neg (by simp [h2])]
      split
      · exact h2
      · exact h1
    · rw [if_pos ⟨h1, h2⟩]; exact h1
  · have h2 := hk.resolve_left h1
    rw [if_neg (by simp [h1]), if_pos ⟨h2, .inl h1⟩]; exact h2
theorem turned_wh (l : List Rq) (t : Tn) : (turnedM l t).wh = t.wh := by
  unfold turnedM; split; rfl; split <;> rfl
end Go.Proofs.Ytfklcfpkbnddfaa
