/- The model of the sectors at hand, and what is worked out of them. The stack's pure model: who asks, what is at hand, what waits, what the disk has. The disk ends a request: (*Device).End of the program. The driver ends a request: (*Driver).End of the program. The driver ends a request by a fault. -/
import Derived.Test.YtojmnfelecnenaaQ1
import Derived.Test.YtojmnfelecnenaaQ4
namespace Go.Proofs.Ytojmnfelecnenaa
open Go.RowKit

structure Bf where
  pos : Int
  data : ByteArray
  dirty : Bool
  used : Int
  deriving DecidableEq, Inhabited
def zeroBf : Bf := ⟨0, ⟨#[]⟩, false, 0⟩
/-- They rise. -/
def Rises (l : List Bf) : Prop := l.Pairwise (fun a b => a.pos < b.pos)
def isB (l : List Bf) (p : Int) : Bool := l.any (fun b => decide (b.pos = p))
def posB (l : List Bf) (p : Int) : Nat := l.countP (fun b => decide (b.pos < p))
def getB (l : List Bf) (p : Int) : Bf × Bool := match l.find? (fun b => decide (b.pos = p)) with
  | some b => (b, true)
  | none => (zeroBf, false)
def useB (l : List Bf) (p now : Int) : List Bf := l.map (fun b => if b.pos = p then { b with used := now } else b)
def cleanB (l : List Bf) (p : Int) (d : ByteArray) : List Bf := l.map (fun b => if b.pos = p ∧ b.data = d then { b with dirty := false } else b)
def dirtyB (l : List Bf) : Nat := l.countP (·.dirty)
/-- The first one that was used least, among the first k, of those that are ok; below 0: there is none. -/
def bestB (ok : Bf → Bool) (l : List Bf) : Nat → Int
  | 0 => -1
  | k + 1 => match l[k]? with
    | none => bestB ok l k
    | some r => if ok r && (decide (bestB ok l k < 0) || decide (r.used < (l.getD (bestB ok l k).toNat default).used)) then (k : Int) else bestB ok l k
theorem bestB_range (ok : Bf → Bool) (l : List Bf) : ∀ k, -1 ≤ bestB ok l k ∧ bestB ok l k < k
  | 0 => by simp [bestB]
  | k + 1 => by
    have ih := bestB_range ok l k
    unfold bestB
    split
    · omega
    · split <;> omega
theorem bestB_no {ok : Bf → Bool} {l : List Bf} {k : Nat} {r : Bf} (h : l[k]? = some r) (ho : ok r = false) : bestB ok l (k + 1) = bestB ok l k := by
  rw [bestB, h]; simp [ho]
theorem bestB_first {ok : Bf → Bool} {l : List Bf} {k : Nat} {r : Bf} (h : l[k]? = some r) (ho : ok r = true) (hb : bestB ok l k < 0) : bestB ok l (k + 1) = k := by
  rw [bestB, h]; simp [ho, hb]
theorem bestB_less {ok : Bf → Bool} {l : List Bf} {k j : Nat} {r r' : Bf} (h : l[k]? = some r) (ho : ok r = true) (hb : bestB ok l k = j) (hj : l[j]? = some r') (hk : r.used < r'.used) : bestB ok l (k + 1) = k := by
  have e : l.getD j default = r' := by rw [List.getD_eq_getElem?_getD, hj]; rfl
  rw [bestB, h, hb]; simp only [Int.toNat_natCast, e]; simp [ho, hk]
theorem bestB_more {ok : Bf → Bool} {l : List Bf} {k j : Nat} {r r' : Bf} (h : l[k]? = some r) (hb : bestB ok l k = j) (hj : l[j]? = some r') (hk : ¬ r.used < r'.used) : bestB ok l (k + 1) = j := by
  have e : l.getD j default = r' := by rw [List.getD_eq_getElem?_getD, hj]; rfl
  rw [bestB, h, hb]; simp only [Int.toNat_natCast, e]; simp; intro _ h2; omega
/-- Who is it that was used least lately, of those that are dirty, or aren't, and not held? -/
def leastB (l : List Bf) (dirty : Bool) (held : Int → Bool) : Int := bestB (fun b => (b.dirty == dirty) && !held b.pos) l l.length
def pickB (l : List Bf) (held : Int → Bool) : Int := if leastB l true held < 0 then -1 else (l.getD (leastB l true held).toNat default).pos
def insB (l : List Bf) (b : Bf) : List Bf := l.take (posB l b.pos) ++ b :: l.drop (posB l b.pos)
def putB (l : List Bf) (b : Bf) (held : Int → Bool) : Option (List Bf) :=
  if isB l b.pos then some (l.map fun x => if x.pos = b.pos then b else x)
  else if 8 ≤ l.length then (if leastB l false held < 0 then none else some (insB (l.eraseIdx (leastB l false held).toNat) b))
  else some (insB l b)
/-- The same in one pass over the list. -/
def rput (b : Bf) (gone : Int) : Int → List Bf → Bool → List Bf
  | _, [], laid => if laid then [] else [b]
  | i, x :: xs, laid => (if !laid && decide (b.pos ≤ x.pos) then [b] else []) ++ (if !decide (x.pos = b.pos) && !decide (i = gone) then [x] else []) ++ rput b gone (i + 1) xs (laid || decide (b.pos ≤ x.pos))
def goodB (l : List Bf) : Prop := l.length ≤ 8 ∧ (∀ b ∈ l, 0 ≤ b.pos ∧ b.pos ≤ 31 ∧ b.data.size ≤ 10) ∧ Rises l

theorem Rises.tail {x : Bf} {l : List Bf} (h : Rises (x :: l)) : Rises l := (List.pairwise_cons.1 h).2
theorem Rises.lt {l : List Bf} (h : Rises l) {i j : Nat} {a b : Bf} (hij : i < j) (ha : l[i]? = some a) (hb : l[j]? = some b) : a.pos < b.pos := by
  obtain ⟨h1, rfl⟩ := List.getElem?_eq_some_iff.1 ha
  obtain ⟨h2, rfl⟩ := List.getElem?_eq_some_iff.1 hb
  exact List.pairwise_iff_getElem.1 h i j h1 h2 hij
theorem Rises.inj {l : List Bf} (h : Rises l) {i j : Nat} {a b : Bf} (ha : l[i]? = some a) (hb : l[j]? = some b) (hp : a.pos = b.pos) : i = j := by
  rcases Nat.lt_trichotomy i j with h1 | h1 | h1
  · have := h.lt h1 ha hb; omega
  · exact h1
  · have := h.lt h1 hb ha; omega
theorem posB_le (l : List Bf) (p : Int) : posB l p ≤ l.length := List.countP_le_length
theorem posB_cons (x : Bf) (l : List Bf) (p : Int) : posB (x :: l) p = posB l p + if x.pos < p then 1 else 0 := by
  unfold posB; rw [List.countP_cons]; simp
theorem posB_zero : ∀ {l : List Bf} {p : Int}, (∀ b ∈ l, ¬ b.pos < p) → posB l p = 0 := by
  intro l p h; unfold posB; rw [List.countP_eq_zero]; intro b hb; simpa using h b hb
/-- Whatever stands ahead of the place is less. -/
theorem posB_ahead : ∀ {l : List Bf} {p : Int}, Rises l → ∀ {i : Nat} {b : Bf}, l[i]? = some b → i < posB l p → b.pos < p
  | [], _, _, i, b, hb, _ => by simp at hb
  | x :: l, p, h, 0, b, hb, hi => by
    simp at hb; subst hb
    by_cases hx : x.pos < p
    · exact hx
    · rw [posB_zero (fun b hb => ?_)] at hi
      · omega
      · rcases List.mem_cons.1 hb with rfl | hb
        · exact hx
        · have := (List.pairwise_cons.1 h).1 b hb; omega
  | x :: l, p, h, i + 1, b, hb, hi => by
    simp at hb
    refine posB_ahead h.tail hb ?_
    rw [posB_cons] at hi
    split at hi <;> omega
theorem posB_behind : ∀ {l : List Bf} {p : Int}, Rises l → ∀ {i : Nat} {b : Bf}, l[i]? = some b → posB l p ≤ i → p ≤ b.pos
  | [], _, _, i, b, hb, _ => by simp at hb
  | x :: l, p, h, 0, b, hb, hi => by
    simp at hb; subst hb
    rw [posB_cons] at hi
    split at hi <;> omega
  | x :: l, p, h, i + 1, b, hb, hi => by
    simp at hb
    by_cases hx : x.pos < p
    · refine posB_behind h.tail hb ?_
      rw [posB_cons, if_pos hx] at hi; omega
    · have := (List.pairwise_cons.1 h).1 b (List.mem_of_getElem? hb); omega
/-- The place is the only one that fits. -/
theorem posB_eq {l : List Bf} {p : Int} (h : Rises l) {k : Nat} (hk : k ≤ l.length) (h1 : ∀ i b, i < k → l[i]? = some b → b.pos < p) (h2 : ∀ i b, k ≤ i → l[i]? = some b → p ≤ b.pos) : posB l p = k := by
  have hle := posB_le l p
  rcases Nat.lt_trichotomy (posB l p) k with hc | hc | hc
  · have hx : l[posB l p]? = some l[posB l p] := List.getElem?_eq_getElem (by omega)
    have := h1 _ _ hc hx
    have := posB_behind h hx (Nat.le_refl _)
    omega
  · exact hc
  · have hx : l[k]? = some l[k] := List.getElem?_eq_getElem (by omega)
    have := h2 _ _ (Nat.le_refl _) hx
    have := posB_ahead h hx hc
    omega
theorem isB_iff {l : List Bf} {p : Int} : isB l p = true ↔ ∃ b ∈ l, b.pos = p := by unfold isB; simp
theorem isB_false {l : List Bf} {p : Int} : isB l p = false ↔ ∀ b ∈ l, b.pos ≠ p := by unfold isB; simp
theorem isB_at {l : List Bf} {p : Int} (h : Rises l) (hi : isB l p = true) : ∃ b, l[posB l p]? = some b ∧ b.pos = p := by
  obtain ⟨b, hb, rfl⟩ := isB_iff.1 hi
  obtain ⟨i, hi⟩ := List.mem_iff_getElem?.1 hb
  have : posB l b.pos = i := posB_eq h (Nat.le_of_lt (List.getElem?_eq_some_iff.1 hi).1) (fun j c hj hc => h.lt hj hc hi) (fun j c hj hc => by
    rcases Nat.eq_or_lt_of_le hj with e | e
    · subst e; rw [hi] at hc; cases hc; exact Int.le_refl _
    · exact Int.le_of_lt (h.lt e hi hc))
  exact ⟨b, by rw [this]; exact hi, rfl⟩
theorem isB_pos {l : List Bf} {p : Int} (h : Rises l) : isB l p = (decide (posB l p < l.length) && decide ((l.getD (posB l p) default).pos = p)) := by
  cases hi : isB l p with
  | true =>
    obtain ⟨b, hb, hp⟩ := isB_at h hi
    have := (List.getElem?_eq_some_iff.1 hb).1
    rw [List.getD_eq_getElem?_getD, hb]
    simp [this, hp]
  | false =>
    by_cases hlt : posB l p < l.length
    · have hx : l[posB l p]? = some l[posB l p] := List.getElem?_eq_getElem hlt
      have := isB_false.1 hi _ (List.mem_of_getElem? hx)
      rw [List.getD_eq_getElem?_getD, hx]
      simp [this]
    · simp [hlt]
theorem getB_of {l : List Bf} {p : Int} (h : Rises l) {i : Nat} {b : Bf} (hb : l[i]? = some b) (hp : b.pos = p) : getB l p = (b, true) := by
  unfold getB
  cases hf : l.find? (fun b => decide (b.pos = p)) with
  | none => exact absurd (List.find?_eq_none.1 hf b (List.mem_of_getElem? hb)) (by simp [hp])
  | some c =>
    have hc := List.mem_of_find?_eq_some hf
    have hcp := List.find?_some hf
    simp at hcp
    obtain ⟨j, hj⟩ := List.mem_iff_getElem?.1 hc
    have := h.inj hb hj (hp.trans hcp.symm)
    subst this
    rw [hb] at hj
    cases hj
    rfl
theorem getB_no {l : List Bf} {p : Int} (h : isB l p = false) : getB l p = (zeroBf, false) := by
  unfold getB
  have : l.find? (fun b => decide (b.pos = p)) = none := by rw [List.find?_eq_none]; intro b hb; simpa using isB_false.1 h b hb
  rw [this]
theorem getB_is {l : List Bf} {p : Int} : (getB l p).2 = isB l p := by
  unfold getB
  cases hf : l.find? (fun b => decide (b.pos = p)) with
  | none => exact (isB_false.2 (fun b hb => by simpa using List.find?_eq_none.1 hf b hb)).symm
  | some c => exact (isB_iff.2 ⟨c, List.mem_of_find?_eq_some hf, by simpa using List.find?_some hf⟩).symm
theorem map_one {l : List Bf} (h : Rises l) {p : Int} {i : Nat} {b : Bf} (hb : l[i]? = some b) (hp : b.pos = p) (f : Bf → Bf) (hf : ∀ x, x.pos ≠ p → f x = x) : l.map f = l.set i (f b) := by
  apply List.ext_getElem?
  intro j
  rw [List.getElem?_map, List.getElem?_set]
  by_cases e : i = j
  · subst e
    rw [if_pos rfl, if_pos (List.getElem?_eq_some_iff.1 hb).1, hb]; rfl
  · rw [if_neg e]
    cases hj : l[j]? with
    | none => rfl
    | some c =>
      have : c.pos ≠ p := fun hc => e (h.inj hb hj (hp.trans hc.symm))
      simp [hf c this]
theorem useB_no {l : List Bf} {p n : Int} (h : isB l p = false) : useB l p n = l := by
  unfold useB
  conv => rhs; rw [← List.map_id l]
  apply List.map_congr_left
  intro b hb
  rw [if_neg (isB_false.1 h b hb)]; rfl
theorem useB_at {l : List Bf} (h : Rises l) {p n : Int} {i : Nat} {b : Bf} (hb : l[i]? = some b) (hp : b.pos = p) : useB l p n = l.set i { b with used := n } := by
  have := map_one h hb hp (fun b => if b.pos = p then { b with used := n } else b) (fun x hx => if_neg hx)
  rw [if_pos hp] at this; exact this
theorem cleanB_no {l : List Bf} {p : Int} {d : ByteArray} (h : ∀ b ∈ l, b.pos = p → b.data ≠ d) : cleanB l p d = l := by
  unfold cleanB
  conv => rhs; rw [← List.map_id l]
  apply List.map_congr_left
  intro b hb
  rw [if_neg (fun e => h b hb e.1 e.2)]; rfl
theorem cleanB_at {l : List Bf} (h : Rises l) {p : Int} {d : ByteArray} {i : Nat} {b : Bf} (hb : l[i]? = some b) (hp : b.pos = p) (hd : b.data = d) : cleanB l p d = l.set i { b with dirty := false } := by
  have := map_one h hb hp (fun b => if b.pos = p ∧ b.data = d then { b with dirty := false } else b) (fun x hx => if_neg (fun e => hx e.1))
  rw [if_pos ⟨hp, hd⟩] at this; exact this
theorem cleanB_other {l : List Bf} (h : Rises l) {p : Int} {d : ByteArray} {i : Nat} {b : Bf} (hb : l[i]? = some b) (hp : b.pos = p) (hd : b.data ≠ d) : cleanB l p d = l :=
  cleanB_no fun c hc hcp => by
    obtain ⟨j, hj⟩ := List.mem_iff_getElem?.1 hc
    have := h.inj hb hj (hp.trans hcp.symm)
    subst this
    rw [hb] at hj
    cases hj
    exact hd
theorem mapPos_rises {l : List Bf} (h : Rises l) (f : Bf → Bf) (hf : ∀ x, (f x).pos = x.pos) : Rises (l.map f) := by
  unfold Rises
  rw [List.pairwise_map]
  exact List.Pairwise.imp (fun {a b} h => by rw [hf, hf]; exact h) h
theorem useB_rises {l : List Bf} (h : Rises l) (p n : Int) : Rises (useB l p n) := mapPos_rises h _ (fun x => by split <;> rfl)
theorem cleanB_rises {l : List Bf} (h : Rises l) (p : Int) (d : ByteArray) : Rises (cleanB l p d) := mapPos_rises h _ (fun x => by split <;> rfl)
theorem erase_rises {l : List Bf} (h : Rises l) (i : Nat) : Rises (l.eraseIdx i) := List.Pairwise.sublist (List.eraseIdx_sublist l i) h
theorem erase_no {l : List Bf} {p : Int} (h : isB l p = false) (i : Nat) : isB (l.eraseIdx i) p = false := isB_false.2 fun b hb => isB_false.1 h b (List.mem_of_mem_eraseIdx hb)
theorem insB_rises {l : List Bf} (h : Rises l) {b : Bf} (hn : isB l b.pos = false) : Rises (insB l b) := by
  unfold insB Rises
  rw [List.pairwise_append]
  refine ⟨List.Pairwise.sublist (List.take_sublist _ _) h, ?_, ?_⟩
  · rw [List.pairwise_cons]
    refine ⟨fun x hx => ?_, List.Pairwise.sublist (List.drop_sublist _ _) h⟩
    obtain ⟨j, hj⟩ := List.mem_iff_getElem?.1 hx
    rw [List.getElem?_drop] at hj
    have h1 := posB_behind h (p := b.pos) hj (by omega)
    have h2 := isB_false.1 hn x (List.mem_of_getElem? hj)
    omega
  · intro x hx y hy
    obtain ⟨i, hi⟩ := List.mem_iff_getElem?.1 hx
    rw [List.getElem?_take] at hi
    split at hi
    · rename_i hlt
      have h1 := posB_ahead h hi hlt
      rcases List.mem_cons.1 hy with rfl | hy
      · exact h1
      · obtain ⟨j, hj⟩ := List.mem_iff_getElem?.1 hy
        rw [List.getElem?_drop] at hj
        exact h.lt (by omega) hi hj
    · cases hi
theorem mapPut_rises {l : List Bf} (h : Rises l) (b : Bf) : Rises (l.map fun x => if x.pos = b.pos then b else x) := mapPos_rises h _ (fun x => by split <;> simp_all)
theorem putB_rises {l m : List Bf} (h : Rises l) {b : Bf} {held : Int → Bool} (hm : putB l b held = some m) : Rises m := by
  unfold putB at hm
  split at hm
  · cases hm; exact mapPut_rises h b
  · rename_i hn
    have hn : isB l b.pos = false := by simpa using hn
    split at hm
    · split at hm
      · cases hm
      · cases hm; exact insB_rises (erase_rises h _) (erase_no hn _)
    · cases hm; exact insB_rises h hn
theorem take_all {l : List Bf} : l.take (l.length + 1) = l := List.take_of_length_le (by omega)
/-- One pass: behind the place. -/
theorem rput_laid : ∀ (l : List Bf) (b : Bf) (gone i : Int), (∀ x ∈ l, x.pos ≠ b.pos) → rput b gone i l true = if i ≤ gone then l.eraseIdx (gone - i).toNat else l
  | [], b, gone, i, _ => by simp [rput]
  | x :: xs, b, gone, i, h => by
    have h1 : x.pos ≠ b.pos := h x (by simp)
    have h3 := rput_laid xs b gone (i + 1) (fun y hy => h y (by simp [hy]))
    rw [rput, Bool.true_or]
    by_cases e : i = gone
    · subst e
      rw [if_neg (by omega)] at h3
      rw [h3]
      simp [h1]
    · by_cases hle : i ≤ gone
      · have e2 : (gone - i).toNat = (gone - (i + 1)).toNat + 1 := by omega
        rw [if_pos (by omega)] at h3
        rw [h3, if_pos hle, e2]
        simp [h1, e]
      · rw [if_neg (by omega)] at h3
        rw [h3, if_neg hle]
        simp [h1, e]
theorem insB_nil (b : Bf) : insB [] b = [b] := rfl
theorem insB_cons_lt {x b : Bf} {l : List Bf} (h : x.pos < b.pos) : insB (x :: l) b = x :: insB l b := by
  unfold insB; rw [posB_cons, if_pos h]; rfl
theorem insB_cons_gt {x b : Bf} {l : List Bf} (hr : Rises (x :: l)) (h : b.pos < x.pos) : insB (x :: l) b = b :: x :: l := by
  unfold insB
  rw [posB_zero (fun c hc => by
    rcases List.mem_cons.1 hc with rfl | hc
    · omega
    · have := (List.pairwise_cons.1 hr).1 c hc; omega)]
  rfl
/-- One pass lays it in its place, and leaves out the one that goes. -/
theorem rput_ins : ∀ (l : List Bf) (b : Bf) (gone i : Int), Rises l → (∀ x ∈ l, x.pos ≠ b.pos) → rput b gone i l false = insB (if i ≤ gone then l.eraseIdx (gone - i).toNat else l) b
  | [], b, gone, i, _, _ => by simp [rput, insB_nil]
  | x :: xs, b, gone, i, hr, h => by
    have h1 : x.pos ≠ b.pos := h x (by simp)
    have h2 := fun y hy => h y (List.mem_cons_of_mem x hy)
    rw [rput, Bool.false_or]
    by_cases hp : b.pos ≤ x.pos
    · have hlt : b.pos < x.pos := by omega
      simp only [hp, decide_true]
      have h3 := rput_laid xs b gone (i + 1) h2
      by_cases e : i = gone
      · subst e
        have hz : (i - i).toNat = 0 := by omega
        rw [if_neg (by omega)] at h3
        rw [if_pos (Int.le_refl _), hz, List.eraseIdx_cons_zero, h3]
        simp only [h1, Bool.not_false, Bool.true_and, if_true, decide_true, Bool.not_true, Bool.and_false, Bool.false_eq_true, if_false, List.append_nil, List.singleton_append]
        cases xs with
        | nil => rfl
        | cons y ys =>
          have hxy := (List.pairwise_cons.1 hr).1 y (by simp)
          rw [insB_cons_gt hr.tail (by omega)]
      · by_cases hle : i ≤ gone
        · have e2 : (gone - i).toNat = (gone - (i + 1)).toNat + 1 := by omega
          rw [if_pos (by omega)] at h3
          rw [if_pos hle, e2, List.eraseIdx_cons_succ, h3]
          have hr' : Rises (x :: xs.eraseIdx (gone - (i + 1)).toNat) := by
            have := erase_rises hr ((gone - (i + 1)).toNat + 1); rwa [List.eraseIdx_cons_succ] at this
          rw [insB_cons_gt hr' hlt]
          simp [h1, e]
        · rw [if_neg (by omega)] at h3
          rw [if_neg hle, insB_cons_gt hr hlt, h3]
          simp [h1, e]
    · have hlt : x.pos < b.pos := by omega
      simp only [hp, decide_false]
      have h3 := rput_ins xs b gone (i + 1) hr.tail h2
      by_cases e : i = gone
      · subst e
        have hz : (i - i).toNat = 0 := by omega
        rw [if_neg (by omega)] at h3
        rw [if_pos (Int.le_refl _), hz, List.eraseIdx_cons_zero, h3]
        simp
      · by_cases hle : i ≤ gone
        · have e2 : (gone - i).toNat = (gone - (i + 1)).toNat + 1 := by omega
          rw [if_pos (by omega)] at h3
          rw [if_pos hle, e2, List.eraseIdx_cons_succ, insB_cons_lt hlt, h3]
          simp [h1, e]
        · rw [if_neg (by omega)] at h3
          rw [if_neg hle, insB_cons_lt hlt, h3]
          simp [h1, e]
theorem rput_map_laid : ∀ (l : List Bf) (b : Bf) (i : Int), 0 ≤ i → (∀ x ∈ l, b.pos < x.pos) → rput b (-1) i l true = l := fun l b i h0 h => by
  rw [rput_laid l b (-1) i (fun x hx => by have := h x hx; omega), if_neg (by omega)]
/-- One pass puts it instead of what was there. -/
theorem rput_map : ∀ (l : List Bf) (b : Bf) (i : Int), 0 ≤ i → Rises l → isB l b.pos = true → rput b (-1) i l false = l.map fun x => if x.pos = b.pos then b else x
  | [], b, i, _, _, h => by simp [isB] at h
  | x :: xs, b, i, h0, hr, h => by
    rw [rput, Bool.false_or, List.map_cons]
    by_cases hx : x.pos = b.pos
    · have h2 : ∀ y ∈ xs, b.pos < y.pos := fun y hy => by have := (List.pairwise_cons.1 hr).1 y hy; omega
      have e : decide (b.pos ≤ x.pos) = true := by simp; omega
      rw [e, rput_map_laid xs b (i + 1) (by omega) h2]
      have : xs.map (fun x => if x.pos = b.pos then b else x) = xs := by
        conv => rhs; rw [← List.map_id xs]
        apply List.map_congr_left
        intro y hy
        have := h2 y hy
        rw [if_neg (by omega)]; rfl
      rw [this]
      simp [hx]
    · have h3 : isB xs b.pos = true := by
        obtain ⟨c, hc, hcp⟩ := isB_iff.1 h
        rcases List.mem_cons.1 hc with rfl | hc
        · exact absurd hcp hx
        · exact isB_iff.2 ⟨c, hc, hcp⟩
      have hlt : x.pos < b.pos := by
        obtain ⟨c, hc, hcp⟩ := isB_iff.1 h3
        have := (List.pairwise_cons.1 hr).1 c hc; omega
      have e : decide (b.pos ≤ x.pos) = false := by simp; omega
      rw [e, rput_map xs b (i + 1) (by omega) hr.tail h3]
      have e2 : ¬ (i = -1) := by omega
      simp [hx, e2]
end Go.Proofs.Ytojmnfelecnenaa
namespace Go.Proofs.Ytojmnfelecnenaa

/-- What a client asked for, that it waits for. -/
structure Ak where
  kind : Int
  pos : Int
  data : ByteArray
  left : List Int
structure St where
  v : Drv
  bufs : List Bf
  wait : List Rq
  turn : Tn
  now : Int
  use : Int
  tag : Int
  asks : List (Option Ak)
  done : List ByteArray
  errs : List Nat
  dead : Bool
def noB : ByteArray := ⟨#[]⟩
def isKind (k : Int) : Option Ak → Bool
  | some a => decide (a.kind = k)
  | none => false
namespace St
def new (d : Dv) : St := ⟨⟨d, fun _ => 0⟩, [], [], ⟨false, 0, 0, 0⟩, 0, 0, 0, [none, none, none], [noB, noB, noB], [0, 0, 0], false⟩
def heldP (s : St) (p : Int) : Bool := s.wait.any (fun r => hasB r.lo r.many p) || s.v.d.l.any (fun r => hasB r.lo r.many p)
def askAt (s : St) (c : Nat) : Option Ak := s.asks.getD c none
def answer (s : St) (c : Nat) (d : ByteArray) (e : Nat) : St := { s with asks := s.asks.set c none, done := s.done.set c d, errs := s.errs.set c e }
def got (s : St) (c : Nat) : ByteArray × Nat := if s.errs.getD c 0 = 0 then (s.done.getD c noB, 0) else (noB, s.errs.getD c 0)
def reqOf (s : St) (write : Bool) (p : Int) (d : ByteArray) : Rq := ⟨write, p, 1, if write then [d] else [], [s.tag + 1], s.now⟩
def queue (s : St) (write : Bool) (p : Int) (d : ByteArray) : St × Bool :=
  if (addM s.wait (s.reqOf write p d)).2 = 0 then ({ s with wait := (addM s.wait (s.reqOf write p d)).1, tag := s.tag + 1 }, true) else (s, false)
def read (s : St) (c : Nat) (a : Ak) : St :=
  if (getB s.bufs a.pos).2 then ({ s with use := s.use + 1, bufs := useB s.bufs a.pos (s.use + 1) } : St).answer c (getB s.bufs a.pos).1.data 0
  else if s.heldP a.pos then s else (s.queue false a.pos noB).1
/-- Is that sector at hand, and dirty? -/
def still (l : List Bf) (p : Int) : Bool := (getB l p).2 && (getB l p).1.dirty
def write (s : St) (c : Nat) (a : Ak) : St :=
  if s.dead then s.answer c noB 9
  else if !still s.bufs a.pos && decide (6 ≤ dirtyB s.bufs) then s
  else match putB s.bufs ⟨a.pos, a.data, true, s.use + 1⟩ s.heldP with
    | some m => ({ s with use := s.use + 1, bufs := m } : St).answer c noB 0
    | none => { s with use := s.use + 1 }
def sync (s : St) (c : Nat) (a : Ak) : St :=
  if s.dead then s.answer c noB 9
  else if a.left.filter (still s.bufs) = [] then ({ s with v := { s.v with d := s.v.d.flush } } : St).answer c noB 0
  else { s with asks := s.asks.set c (some { a with left := a.left.filter (still s.bufs) }) }
def serve1 (s : St) (c : Nat) : St := match s.askAt c with
  | none => s
  | some a => if a.kind = 1 then s.read c a else if a.kind = 2 then s.write c a else if a.kind = 3 then s.sync c a else s
def serve (s : St) : St := ((s.serve1 0).serve1 1).serve1 2
def dirtyAt (l : List Bf) : List Int := (l.filter (·.dirty)).map (·.pos)
def ask (s : St) (client kind p : Int) (d : ByteArray) : St × Nat :=
  if client < 0 ∨ 3 ≤ client ∨ kind < 1 ∨ 3 < kind then (s, 3)
  else if p < 0 ∨ 32 ≤ p ∨ 4 < d.size ∨ (kind = 3 ∧ p ≠ 0) ∨ (kind ≠ 2 ∧ d.size ≠ 0) then (s, 1)
  else if (s.askAt client.toNat).isSome then (s, 6)
  else (({ s with asks := s.asks.set client.toNat (some ⟨kind, p, d, if kind = 3 then dirtyAt s.bufs else []⟩) } : St).serve, 0)
def tick (s : St) : St := ({ s with now := min (s.now + 1) 1000000000 } : St).serve
def pressed (s : St) : Bool := decide (3 ≤ dirtyB s.bufs) || s.asks.any (fun o => isKind 2 o || isKind 3 o)
def clean (s : St) : St × Bool :=
  if s.dead || !s.pressed then (s, false)
  else if pickB s.bufs s.heldP < 0 then (s, false)
  else s.queue true (pickB s.bufs s.heldP) (getB s.bufs (pickB s.bufs s.heldP)).1.data
def dispatch (s : St) : St × Bool :=
  if s.wait = [] ∨ 2 ≤ s.v.d.l.length then (s, false)
  else ({ s with wait := s.wait.eraseIdx (nextM s.wait s.turn s.now).1.toNat, turn := (nextM s.wait s.turn s.now).2, v := { s.v with d := (s.v.d.start (s.wait.getD (nextM s.wait s.turn s.now).1.toNat default)).1 } }, true)
def tell1 (p : Int) (d : ByteArray) (s : St) (c : Nat) : St := match s.askAt c with
  | none => s
  | some a => if a.kind = 1 ∧ a.pos = p then s.answer c d 0 else s
def tell (s : St) (p : Int) (d : ByteArray) : St := tell1 p d (tell1 p d (tell1 p d s 0) 1) 2
def wrong1 (r : Rq) (s : St) (c : Nat) : St := match s.askAt c with
  | none => s
  | some a => if r.write = false ∧ a.kind = 1 ∧ hasB r.lo r.many a.pos = true then s.answer c noB 8 else s
def wrong (s : St) (r : Rq) : St := wrong1 r (wrong1 r (wrong1 r { s with dead := s.dead || r.write } 0) 1) 2
/-- What comes of one sector of a request that the disk has done. -/
def ended1 (s : St) (write : Bool) (p : Int) (d : ByteArray) : St :=
  if write then { s with bufs := cleanB s.bufs p d }
  else if (getB s.bufs p).2 then s
  else ({ s with use := s.use + 1, bufs := (putB s.bufs ⟨p, d, false, s.use + 1⟩ s.heldP).getD s.bufs } : St).tell p d
def endedN (s : St) (write : Bool) (lo : Int) (l : List ByteArray) : Nat → St
  | 0 => s
  | k + 1 => (endedN s write lo l k).ended1 write (lo + k) (l.getD k noB)
def end_ (s : St) (i : Int) (f : Bool) : St × Nat :=
  let e := s.v.endAt i f
  if e.2.2.1 = false then ({ s with v := e.1 }, e.2.2.2)
  else if e.2.1.err ≠ 0 then ((({ s with v := e.1 } : St).wrong e.2.1.req).serve, 0)
  else ((({ s with v := e.1 } : St).endedN e.2.1.req.write e.2.1.req.lo (if e.2.1.req.write then e.2.1.req.data else e.2.1.data) e.2.1.req.many.toNat).serve, 0)
def quiet (s : St) : Bool := s.asks.all (·.isNone) && s.wait.isEmpty && s.v.d.l.isEmpty
def go (s : St) : St := s.dispatch.1.dispatch.1
def round (s : St) : St := (s.tick.clean.1.go.end_ 0 false).1
/-- Rounds, so many at most, till it is quiet. -/
def settle : Nat → St → St × Nat
  | 0, s => (s, 0)
  | n + 1, s => if s.quiet then (s, 0) else ((settle n s.round).1, (settle n s.round).2 + 1)
end St
end Go.Proofs.Ytojmnfelecnenaa
namespace Go.Proofs.Ytojmnfelecnenaa
set_option linter.unusedSimpArgs false
set_option linter.unusedVariables false
open Go.RowKit

/-- The cells of a result. -/
abbrev rsCells (c : Rc) (ov : Value) (err : Nat) : Array Value := #[.bool c.r.write, .int .i64 c.r.lo, .int .i64 c.r.many, c.dv, c.tv, .int .i64 c.r.born, ov, .int .i64 (err : Int)]
/-- A result's value in memory. -/
def RsAt (S : Nat → Prop) (w : World) (v : Value) (rs : Rs) : Prop := ∃ (c : Rc) (ov : Value), v = .agg (rsCells c ov rs.err) ∧ c.r = rs.req ∧ RcOk S w c ∧ StrsAt S w ov rs.data
/-- It returns a result and an error; the disk has become d'. -/
def RetEnd (TD TP : TypeId) (S F : Nat → Prop) (w : World) (b : Nat) (d' : Dv) (rs : Rs) (ev : Value) : Ending → World → Prop :=
  fun e w' => ∃ (v : Value) (F' S' : Nat → Prop), e = .returned (.tuple #[v, ev]) ∧ RsAt S' w' v rs ∧ DevAt TD TP S F' w' b d' ∧ Chg F w w' ∧ (∀ k, F k → F' k) ∧ (∀ k, F' k → Grow F w w' k) ∧ (∀ k, S k → S' k) ∧ (∀ k, S' k → Grow S w w' k) ∧ (∀ k, S' k → ¬ F' k)
abbrev zeroRsV : Array Value := #[.bool false, .int .i64 0, .int .i64 0, .slice none 0 0, .slice none 0 0, .int .i64 0, .slice none 0 0, .int .i64 0]
def zeroRc : Rc := ⟨zeroRqM, .slice none 0 0, .slice none 0 0⟩
theorem zeroRc_ok (S : Nat → Prop) (w : World) : RcOk S w zeroRc := ⟨⟨Rd.nil, by simp [zeroRc, zeroRqM]⟩, ⟨Rd.nil, by simp [zeroRc, zeroRqM]⟩, by unfold i64; simp [zeroRc, zeroRqM], by unfold i64; simp [zeroRc, zeroRqM], by unfold i64; simp [zeroRc, zeroRqM]⟩
theorem strs_nil (S : Nat → Prop) (w : World) : StrsAt S w (.slice none 0 0) [] := ⟨Rd.nil, by simp⟩
theorem rs_one {S : Nat → Prop} {w : World} {c : Rc} (h : RcOk S w c) {A : Option Addr} {n cap err : Nat} : (rsCells c (.slice A n cap) err).all (·.oneCell') = true := by
  obtain ⟨Ad, cd, e1, _, _⟩ := h.data.form
  obtain ⟨At, ct, e2, _, _⟩ := h.tags.form
  unfold rsCells
  rw [e1, e2]
  simp [Value.oneCell']
theorem resInfo : (Try.prog.info? 109).map (·.size) = some 8 := by kernel_rfl
theorem endAt_none (d : Dv) (i : Int) (f : Bool) (h : i < 0 ∨ (d.l.length : Int) ≤ i) : d.endAt i f = (d, zeroRs, 5) := by
  unfold Dv.endAt
  split
  · rfl
  · rw [List.getElem?_eq_none (by omega)]
theorem endAt_some (d : Dv) (i : Nat) (f : Bool) (r : Rq) (h : d.l[i]? = some r) : d.endAt (i : Int) f = ((d.ended r i f).1, (d.ended r i f).2, 0) := by
  unfold Dv.endAt
  rw [if_neg (by omega), Int.toNat_natCast, h]

set_option maxRecDepth 100000 in
set_option maxHeartbeats 2000000 in
theorem devend_none (S F : Nat → Prop) (w : World) (b : Nat) (d : Dv) (i : Int) (f : Bool) (h : DevAt TDp TPp S F w b d) (hn : i < 0 ∨ (d.l.length : Int) ≤ i) (hSF : ∀ k, S k → ¬ F k) (hSlt : ∀ k, S k → k < w.heap.size) :
    Calls Try.prog 80 #[.pointer (some ⟨b, 0, none⟩), .int .i64 i, .bool f] w (RetEnd TDp TPp S F w b (d.endAt i f).1 (d.endAt i f).2.1 (errV (d.endAt i f).2.2)) := by
  obtain ⟨wv, lv, cs, hrow, hw, hl, hcs, hok⟩ := h.two
  have hlen : cs.length = d.l.length := by rw [← hcs, List.length_map]
  obtain ⟨A, cap, rfl, hc1, hc2⟩ := hl.form
  rw [hlen] at hrow
  have c65 : ∀ o, (w.alloc o).cell? ⟨b, 65, none⟩ = some (.slice A d.l.length cap) := fun o => by
    rw [World.cell?_alloc_lt _ _ _ (Array.getElem?_eq_some_iff.1 hrow).1, cell_of_row _ _ _ _ _ _ hrow]; simpa using devCells_at_l d wv _ h.kept h.now
  have H := Lib.hid h
  have HS := Lib.hid hSF
  have Hlt := Lib.hid hSlt
  rw [endAt_none d i f hn]
  clear hrow hw hl hcs hok h hSF hlen hc1 hSlt
  have Hz : Hid (zeroRsV.all (·.oneCell') = true) := rs_one (zeroRc_ok (fun _ => True) w)
  have Hi : Hid ((Try.prog.info? 109).map (·.size) = some zeroRsV.size) := resInfo
  have L := Lib.hid ((LayF.refl F w).alloc' w.heap.size zeroRsV 109 rfl)
  have L0 := Lib.hid ((LayF.refl (fun _ => False) w).alloc' w.heap.size zeroRsV 109 rfl)
  have HT : Hid ((w.alloc (.cells zeroRsV 109)).there w.heap.size 0 zeroRsV.size) := L.out.there 0 rfl _ rfl
  by_cases hneg : i < 0
  all_goals
    go_enter Try.func80, Try.ntmps80
    go_wp2_with (
      refine wpList_store_mid rfl 109 (.tmp 6) (.tmp 23) rfl w.heap.size 0 zeroRsV rfl rfl HT.out Hi.out Hz.out ?_
      have L2 := L.out.put 0 rfl zeroRsV rfl
      have L3 := L0.out.put 0 rfl zeroRsV rfl
      generalize World.setCells _ _ _ _ = W2 at L2 L3 ⊢)
    obtain ⟨q0, q1, q2, q3, q4, q5, q6, q7⟩ := L2.c8 0 rfl
    refine bodyPost_ret (v := .tuple #[.agg zeroRsV, .iface 78 (.int .i64 5)]) (by simp [results, Try.results80, go_sem, q0, q1, q2, q3, q4, q5, q6, q7]) rfl ?_
    have hb0 := L3.chg.below (B := w.heap.size) (fun _ h => h.elim) (Nat.le_refl _)
    exact ⟨_, F, S, rfl, ⟨zeroRc, _, rfl, rfl, zeroRc_ok _ _, strs_nil _ _⟩, H.out.below hb0, L2.chg, fun _ h => h, fun _ h => .inl h, fun _ h => h, fun _ h => .inl h, HS.out⟩

theorem putInfo : (Try.prog.info? 95).map (fun i => (i.zero, i.size, i.bytes)) = some (some (.agg #[.int .i64 0, .string ⟨#[]⟩]), 2, 24) := by kernel_rfl
theorem strInfo : (Try.prog.info? 9).map (fun i => (i.zero, i.size, i.bytes)) = some (some (.string ⟨#[]⟩), 1, 16) := by kernel_rfl
theorem rd_s1 (w : World) (b : Nat) (T : TypeId) (s : ByteArray) (hb : w.heap[b]? = some (.cells #[.string s] T (0, 0))) : Rd (fun _ => True) w 1 (.slice (some ⟨b, 0, none⟩) 1 1) 1 [.string s] := by
  refine ⟨_, 1, rfl, Nat.le_refl _, by simp [maxLen], rfl, fun _ => ⟨b, 0, rfl, trivial, fun j u hu => ?_⟩⟩
  rw [cell_of_row _ _ _ _ _ _ hb]
  simpa using hu
theorem one_s1 (s : ByteArray) : ∀ u ∈ [Value.string s], u.oneCell' = true := by
  intro u hu
  simp only [List.mem_cons, List.not_mem_nil, or_false] at hu
  subst hu; rfl
theorem rd_two (w : World) (b : Nat) (T : TypeId) (x : Int) (s : ByteArray) (hb : w.heap[b]? = some (.cells #[.int .i64 x, .string s] T (0, 0))) : Rd (fun _ => True) w 2 (.slice (some ⟨b, 0, none⟩) 1 1) 1 [.int .i64 x, .string s] := by
  refine ⟨_, 1, rfl, Nat.le_refl _, by simp [maxLen], rfl, fun _ => ⟨b, 0, rfl, trivial, fun j u hu => ?_⟩⟩
  rw [cell_of_row _ _ _ _ _ _ hb]
  simpa using hu
theorem one_two (x : Int) (s : ByteArray) : ∀ u ∈ [Value.int .i64 x, .string s], u.oneCell' = true := by
  intro u hu
  simp only [List.mem_cons, List.not_mem_nil, or_false] at hu
  rcases hu with rfl | rfl <;> rfl
theorem two_one {i n : Nat} (h : i < n) (h2 : n ≤ 2) : n ≤ 65536 := by omega
theorem drop_flat (cs : List Rc) (i : Nat) : (cs.flatMap Rc.cells).take (i * 6) ++ (cs.flatMap Rc.cells).drop ((i + 1) * 6) = (cs.take i ++ cs.drop (i + 1)).flatMap Rc.cells := by
  have ht : ∀ (cs : List Rc) (k : Nat), (cs.flatMap Rc.cells).take (k * 6) = (cs.take k).flatMap Rc.cells := by
    intro cs
    induction cs with
    | nil => intro k; simp
    | cons a cs ih =>
      intro k
      cases k with
      | zero => simp
      | succ k =>
        rw [List.flatMap_cons, List.take_append, List.take_succ_cons, List.flatMap_cons, List.take_of_length_le (by simp [Rc.cells]; omega), ← ih k]
        congr 2
        simp [Rc.cells]; omega
  have hd : ∀ (cs : List Rc) (k : Nat), (cs.flatMap Rc.cells).drop (k * 6) = (cs.drop k).flatMap Rc.cells := by
    intro cs
    induction cs with
    | nil => intro k; simp
    | cons a cs ih =>
      intro k
      cases k with
      | zero => simp
      | succ k =>
        rw [List.flatMap_cons, List.drop_append, List.drop_succ_cons, List.drop_eq_nil_of_le (by simp [Rc.cells]; omega), List.nil_append, ← ih k]
        congr 1
        simp [Rc.cells]; omega
  rw [ht, hd, List.flatMap_append]

set_option maxRecDepth 100000 in
set_option maxHeartbeats 4000000 in
theorem devend_some (S F : Nat → Prop) (w : World) (b : Nat) (d : Dv) (i : Nat) (r : Rq) (f : Bool) (h : DevAt TDp TPp S F w b d) (hi : d.l[i]? = some r) (hr : ReqOk r) (h2 : d.l.length ≤ 2) (hwl : d.waits.length ≤ 1000000000000) (hnow : ∀ s ∈ d.now, s.size ≤ maxLen)
    (hF : ∀ k, F k → k < w.heap.size) (hSF : ∀ k, S k → ¬ F k) (hSlt : ∀ k, S k → k < w.heap.size) :
    Calls Try.prog 80 #[.pointer (some ⟨b, 0, none⟩), .int .i64 (i : Int), .bool f] w (RetEnd TDp TPp S F w b (d.ended r i f).1 (d.ended r i f).2 .nilIface) := by
  have hil : i < d.l.length := (List.getElem?_eq_some_iff.1 hi).1
  obtain ⟨wv, lv, cs, hrow, hw, hl, hcs, hok⟩ := h.two
  have hlen : cs.length = d.l.length := by rw [← hcs, List.length_map]
  have hbl := (Array.getElem?_eq_some_iff.1 hrow).1
  obtain ⟨A, cap, rfl, hc1, hc2⟩ := hl.form
  obtain ⟨c, hci, rfl⟩ : ∃ c, cs[i]? = some c ∧ c.r = r := by
    rw [← hcs, List.getElem?_map] at hi
    obtain ⟨c, hc, he⟩ := Option.map_eq_some_iff.1 hi
    exact ⟨c, hc, he⟩
  obtain ⟨g, off, rfl, hgl, k0, k1, k2, k3, k4, k5⟩ := rows_at hl.rd hci
  obtain ⟨rfl⟩ : off = 0 := by
    rcases hl.1.2 with ⟨hv, _⟩ | ⟨_, _, _, hv, _⟩
    · cases hv
    · cases hv; rfl
  have hcok := hok c (List.mem_of_getElem? hci)
  obtain ⟨Ad, cd, e1, _, _⟩ := hcok.data.form
  obtain ⟨At, ct, e2, _, _⟩ := hcok.tags.form
  obtain ⟨r, dv, tv⟩ := c
  simp only at e1 e2 k0 k1 k2 k3 k4 k5 hr hi ⊢
  subst e1 e2
  rw [hlen] at hrow hl hc1
  have c65 : ∀ o, (w.alloc o).cell? ⟨b, 65, none⟩ = some (.slice (some ⟨g, 0, none⟩) d.l.length cap) := fun o => by
    rw [World.cell?_alloc_lt _ _ _ hbl, cell_of_row _ _ _ _ _ _ hrow]; simpa using devCells_at_l d wv _ h.kept h.now
  have m0 : ∀ o, (w.alloc o).cell? ⟨g, 0 + i * 6, none⟩ = some _ := fun o => (World.cell?_alloc_lt _ _ _ hgl).trans k0
  have m1 : ∀ o, (w.alloc o).cell? ⟨g, 0 + i * 6 + 1, none⟩ = some _ := fun o => (World.cell?_alloc_lt _ _ _ hgl).trans k1
  have m2 : ∀ o, (w.alloc o).cell? ⟨g, 0 + i * 6 + 2, none⟩ = some _ := fun o => (World.cell?_alloc_lt _ _ _ hgl).trans k2
  have m3 : ∀ o, (w.alloc o).cell? ⟨g, 0 + i * 6 + 3, none⟩ = some _ := fun o => (World.cell?_alloc_lt _ _ _ hgl).trans k3
  have m4 : ∀ o, (w.alloc o).cell? ⟨g, 0 + i * 6 + 4, none⟩ = some _ := fun o => (World.cell?_alloc_lt _ _ _ hgl).trans k4
  have m5 : ∀ o, (w.alloc o).cell? ⟨g, 0 + i * 6 + 5, none⟩ = some _ := fun o => (World.cell?_alloc_lt _ _ _ hgl).trans k5
  simp only [Nat.zero_add] at m0 m1 m2 m3 m4 m5
  have hil1 : (i : Int) < (d.l.length : Int) := by omega
  have hil2 : ¬ ((d.l.length : Int) ≤ (i : Int)) := by omega
  have hip : IntKind.i64.wrap ((i : Int) + 1) = (i : Int) + 1 := IntWalk.i64_in _ (by omega)
  have H := Lib.hid h
  have Hrow := Lib.hid hrow
  have Hw := Lib.hid hw
  have Hl := Lib.hid hl
  have Hcs := Lib.hid hcs
  have Hok := Lib.hid hok
  have Hcok := Lib.hid hcok
  have Hci := Lib.hid hci
  have Hi := Lib.hid hi
  have Hr := Lib.hid hr
  have HF := Lib.hid hF
  have HS := Lib.hid hSF
  have Hlt := Lib.hid hSlt
  have Hlen := Lib.hid hlen
  have Hnow := Lib.hid hnow
  clear h hrow hw hl hcs hok hcok hci hi hr hF hSF hSlt k0 k1 k2 k3 k4 k5 hlen hnow
  go_enter Try.func80, Try.ntmps80
  go_wp2_with fail
  have L := ((LayF.refl F w).alloc' w.heap.size zeroRsV 109 rfl).alloc' (w.heap.size + 1) #[Value.bool r.write, Value.int IntKind.i64 r.lo, Value.int IntKind.i64 r.many, Value.slice Ad r.data.length cd, Value.slice At r.tags.length ct, Value.int IntKind.i64 r.born] 44 (by simp)
  have hb1 : Below w.heap.size w _ := (((Below.refl w.heap.size w).alloc (Nat.le_refl _) (.cells zeroRsV 109))).alloc (by simp) (.cells #[Value.bool r.write, Value.int IntKind.i64 r.lo, Value.int IntKind.i64 r.many, Value.slice Ad r.data.length cd, Value.slice At r.tags.length ct, Value.int IntKind.i64 r.born] 44)
  have hsz1 : ((w.alloc (.cells zeroRsV 109)).alloc (.cells #[Value.bool r.write, Value.int IntKind.i64 r.lo, Value.int IntKind.i64 r.many, Value.slice Ad r.data.length cd, Value.slice At r.tags.length ct, Value.int IntKind.i64 r.born] 44)).heap.size = w.heap.size + 2 := by simp
  generalize World.alloc _ _ = W1 at L hb1 hsz1 ⊢
  have hone : ∀ u ∈ cs.flatMap Rc.cells, u.oneCell' = true := fun u hu => by obtain ⟨c, hc, hu⟩ := List.mem_flatMap.1 hu; exact rc_one S (Hok.out c hc) u hu
  refine (clone_any F _ _ _ _ (Hl.out.rd.below hb1) hone (by omega)).mono ?_
  rintro e w2 ⟨v2, rfl, hown2, hb2⟩
  obtain ⟨g2, cap2, rfl, hg2⟩ : ∃ g2 cap2, v2 = .slice (some ⟨g2, 0, none⟩) d.l.length cap2 ∧ W1.heap.size ≤ g2 := by
    rcases hown2.2 with ⟨_, h0⟩ | ⟨g2, cap2, _, hv, hb, _⟩
    · omega
    · exact ⟨g2, cap2, hv, hb⟩
  have Hone := Lib.hid hone
  have Hown2 := Lib.hid hown2
  clear hone hown2 c65 m0 m1 m2 m3 m4 m5
  go_wp2_with fail
  refine (delete_any W1.heap.size g2 d.l.length cap2 i (cs.flatMap Rc.cells) w2 Hown2.out Hone.out hil (by omega)).mono ?_
  rintro e w3 ⟨v3, rfl, hown3, hg3⟩
  have hb3 : Below W1.heap.size W1 w3 := hb2.grown hg3 hb2.size (fun k hk => by injection hk with hk; omega)
  obtain ⟨A3, c3, rfl⟩ := own_sl (own_lo hown3 (Nat.zero_le _))
  have hb4 := hb1.trans (hb3.mono hb1.size)
  have hrow3 := (hb4.block b hbl).trans Hrow.out
  have c65 : w3.cell? ⟨b, 65, none⟩ = some (.slice (some ⟨g, 0, none⟩) d.l.length cap) := by rw [cell_of_row _ _ _ _ _ _ hrow3]; simpa using devCells_at_l d wv _ H.out.kept H.out.now
  have f65 : w3.frozen? ⟨b, 65, none⟩ = false := frozen_of_row _ _ _ _ _ hrow3
  rw [drop_flat] at hown3
  have hl3 : (cs.take i ++ cs.drop (i + 1)).length = d.l.length - 1 := by have := Hlen.out; simp; omega
  have hdev := DevAt.setL (TD := TDp) (TP := TPp) (S := S) (a := W1) (lv := .slice (some ⟨g, 0, none⟩) d.l.length cap) (lv' := .slice A3 (d.l.length - 1) c3) (cs' := cs.take i ++ cs.drop (i + 1)) (Chg.of_below hb3) (fun k hk => Nat.lt_of_lt_of_le (HF.out k hk) hb1.size) H.out.fb H.out.kept H.out.now hrow3
    ((Hw.out.keep (fun k _ hk => hb4.block k hk)).mono (fun k hk => .inl hk)) (by rw [hl3]; exact own_lo hown3 (Nat.zero_le _)) (fun k hv => .inr (hown3.lt k hv).1) rfl
    (fun c hm => by
      have : c ∈ cs := by rcases List.mem_append.1 hm with hm | hm; exact List.mem_of_mem_take hm; exact List.mem_of_mem_drop hm
      exact (Hok.out c this).below hb4) HS.out (by decide) (by decide)
  obtain ⟨w4, hw4⟩ : ∃ u, w3.setCell ⟨b, 65, none⟩ (.slice A3 (d.l.length - 1) c3) = u := ⟨_, rfl⟩
  rw [hw4] at hdev
  obtain ⟨hd4, hc4⟩ := hdev
  have L4 := L.chg2 hc4 (fun k h => .inl h) (fun x hx hf => by have h1 := L.own x hx; have h2 := HF.out _ hf; omega)
  have he : (cs.take i ++ cs.drop (i + 1)).map (·.r) = d.l.eraseIdx i := by rw [← Hcs.out, List.eraseIdx_eq_take_drop_succ]; simp
  rw [he] at hd4
  have hd4 : DevAt TDp TPp S (Grow F W1 w4) w4 b (d.drop i) := hd4
  have Hd4 := Lib.hid hd4
  have hF4 : ∀ k, Grow F W1 w4 k → k < w4.heap.size := Grow.lt (fun k hk => Nat.lt_of_lt_of_le (HF.out k hk) hb1.size) hc4.size
  have HF4 := Lib.hid hF4
  have HG4 : Hid (∀ k, Grow F W1 w4 k → Grow F w w4 k) := fun k hk => hk.elim .inl (fun h => .inr ⟨Nat.le_trans hb1.size h.1, h.2⟩)
  have HS4 : Hid (∀ k, S k → ¬ Grow F W1 w4 k) := fun k hs hk => hk.elim (HS.out k hs) (fun h => by have := Hlt.out k hs; have := hb1.size; omega)
  have Hc4 := Lib.hid hc4
  have Hb1 := Lib.hid hb1
  have H41 : Hid (W1.heap.size ≤ w4.heap.size) := hc4.size
  clear hown3 hl3 hrow3 hg3 hb2 hg2 he hd4 L hb4 hb3 hb1 hF4 hc4
  have hcok4 : RcOk S w4 ⟨r, .slice Ad r.data.length cd, .slice At r.tags.length ct⟩ := Hcok.out.keep (L4.chg.keep HS.out)
  have Hcok4 := Lib.hid hcok4
  obtain ⟨q0, q1, q2, q3, q4, q5⟩ := L4.c6 0 rfl
  have HL4 := Lib.hid L4
  cases f with
  | true =>
    have HT : Hid (w4.there w.heap.size 0 (rsCells ⟨r, .slice Ad r.data.length cd, .slice At r.tags.length ct⟩ (.slice none 0 0) 8).size) := L4.there 1 rfl _ rfl
    have Hi : Hid ((Try.prog.info? 109).map (·.size) = some (rsCells ⟨r, .slice Ad r.data.length cd, .slice At r.tags.length ct⟩ (.slice none 0 0) 8).size) := resInfo
    have Hz : Hid ((rsCells ⟨r, .slice Ad r.data.length cd, .slice At r.tags.length ct⟩ (.slice none 0 0) 8).all (·.oneCell') = true) := rs_one hcok4
    clear hcok4 L4
    go_wp2_with (
      refine wpList_store_mid rfl 109 (.tmp 6) (.tmp 46) rfl w.heap.size 0 (rsCells ⟨r, .slice Ad r.data.length cd, .slice At r.tags.length ct⟩ (.slice none 0 0) 8) rfl rfl HT.out Hi.out Hz.out ?_
      have L5 := HL4.out.put 1 rfl (rsCells ⟨r, .slice Ad r.data.length cd, .slice At r.tags.length ct⟩ (.slice none 0 0) 8) rfl
      have hc5 : Chg (fun k => k = w.heap.size) w4 _ := Chg.setCells (F := fun k => k = w.heap.size) (w := w4) Chg.refl (.inl rfl) 0 (rsCells ⟨r, .slice Ad r.data.length cd, .slice At r.tags.length ct⟩ (.slice none 0 0) 8).toList
      generalize World.setCells _ _ _ _ = W5 at L5 hc5 ⊢)
    obtain ⟨p0, p1, p2, p3, p4, p5, p6, p7⟩ := L5.c8 1 rfl
    refine bodyPost_ret (v := .tuple #[.agg (rsCells ⟨r, .slice Ad r.data.length cd, .slice At r.tags.length ct⟩ (.slice none 0 0) 8), .nilIface]) (by simp [results, Try.results80, go_sem, p0, p1, p2, p3, p4, p5, p6, p7]) rfl ?_
    have hne : ∀ k, Grow F W1 w4 k → ¬ k = w.heap.size := fun k hk he => by
      rcases hk with h | h
      · have := HF.out k h; omega
      · omega
    have hneS : ∀ k, S k → ¬ k = w.heap.size := fun k hk he => by have := Hlt.out k hk; omega
    have hG : ∀ k, Grow F W1 w4 k → Grow F w W5 k := fun k hk => (HG4.out k hk).elim .inl (fun h => .inr ⟨h.1, by have := hc5.size; omega⟩)
    exact ⟨_, Grow F W1 w4, S, rfl, ⟨_, _, rfl, rfl, Hcok4.out.keep (hc5.keep hneS), strs_nil _ _⟩, Hd4.out.apart hc5 hne hneS, L5.chg, fun k h => .inl h, hG, fun k h => h, fun k h => .inl h, HS4.out⟩
  | false =>
    have Hne : Hid (∀ k, Grow F W1 w4 k → k ≠ w.heap.size ∧ k ≠ w.heap.size + 1) := fun k hk => by
      rcases hk with h | h
      · have := HF.out k h; omega
      · omega
    obtain ⟨p, hlo⟩ : ∃ p : Nat, r.lo = (p : Int) := ⟨r.lo.toNat, by have := Hr.out.span.1; omega⟩
    obtain ⟨n, hmany⟩ : ∃ n : Nat, r.many = (n : Int) := ⟨r.many.toNat, by have := Hr.out.span.2.2.1; omega⟩
    have hpn : p + n ≤ 32 ∧ n ≤ 4 := by have h := Hr.out.span; unfold SpanOk at h; rw [hlo, hmany] at h; omega
    obtain ⟨hpn, hn4⟩ := hpn
    have HFF : Hid (∀ k, F k → Grow F W1 w4 k) := fun k h => .inl h
    generalize Grow F W1 w4 = F4 at Hd4 HF4 HG4 HS4 Hne HFF
    have q2' : ∀ o, (w4.alloc o).cell? ⟨w.heap.size + 1, 2, none⟩ = some (.int .i64 r.many) := fun o => (World.cell?_alloc_lt _ _ _ (L4.lt (x := (w.heap.size + 1, _, _)) List.mem_cons_self)).trans q2
    have hL5 := L4.alloc' w4.heap.size #[Value.bool r.write, Value.int IntKind.i64 r.lo, Value.int IntKind.i64 r.many, Value.slice Ad r.data.length cd, Value.slice At r.tags.length ct, Value.int IntKind.i64 r.born, .slice none 0 0, .int .i64 0] 109 rfl
    have hb5 : Below w4.heap.size w4 _ := (Below.refl _ _).alloc (Nat.le_refl _) (.cells #[Value.bool r.write, Value.int IntKind.i64 r.lo, Value.int IntKind.i64 r.many, Value.slice Ad r.data.length cd, Value.slice At r.tags.length ct, Value.int IntKind.i64 r.born, .slice none 0 0, .int .i64 0] 109)
    have hs5 : (w4.alloc (.cells #[Value.bool r.write, Value.int IntKind.i64 r.lo, Value.int IntKind.i64 r.many, Value.slice Ad r.data.length cd, Value.slice At r.tags.length ct, Value.int IntKind.i64 r.born, .slice none 0 0, .int .i64 0] 109)).heap.size = w4.heap.size + 1 := by simp
    have HL5 := Lib.hid hL5
    have HB5 := Lib.hid hb5
    have Hs5 := Lib.hid hs5
    clear hcok4 L4 hL5 hb5 hs5
    rcases Bool.eq_false_or_eq_true r.write with hwr | hwr
    · go_wp2_with fail
      simp only [hwr, hlo, hmany] at HL5 HB5 Hs5
      generalize World.alloc _ _ = W5 at HL5 HB5 Hs5 ⊢
      have hshape : (r.data.length : Int) = r.many := by have := Hr.out.shape; unfold shapeOk at this; rw [if_pos hwr] at this; exact this
      have hdl : r.data.length = n := by omega
      have Hd5 := Lib.hid (Hd4.out.below HB5.out)
      clear hshape q2'
      go_loopw [52] (fun j wr => ∃ k : Nat, k ≤ n ∧ j = .int .i64 k ∧ Hid (Chg F4 W5 wr) ∧ Hid (DevAt TDp TPp S (Grow F4 W5 wr) wr b ((d.drop i).wrote p (r.data.take k)))) (fun j _ => n - (intOf j).toNat)
      case atStart => exact ⟨0, by omega, rfl, Chg.refl, Hd5.out.mono (fun k h => .inl h)⟩
      case round =>
        obtain ⟨k, hk, rfl, hcw, hdw⟩ := hrel
        by_cases hlt : k < n
        · -- ROUND BEGIN
          have L := HL5.out.chg2 hcw.out (fun k hk => (HG4.out k hk).elim .inl (fun h => .inr h.1)) (fun x hx hf => by
            simp only [List.mem_cons, List.not_mem_nil, or_false] at hx
            rcases hx with rfl | rfl | rfl
            · exact absurd (HF4.out _ hf) (by omega)
            · exact (Hne.out _ hf).2 rfl
            · exact (Hne.out _ hf).1 rfl)
          obtain ⟨q0, q1, q2, q3, q4, q5⟩ := L.c6 1 rfl
          obtain ⟨dm, hdm⟩ : ∃ e, (d.drop i).wrote p (r.data.take k) = e := ⟨_, rfl⟩
          have hwm : dm.waits.length ≤ 1000000000010 := by
            rw [← hdm, (Dv.wrote_same _ _ _).2.2.2, List.length_take]
            show d.waits.length + _ ≤ _
            omega
          rw [hdm] at hdw
          have Hdm := Lib.hid hdm
          clear hdm
          have hx : r.data[k]? = some r.data[k] := List.getElem?_eq_getElem (by omega)
          obtain ⟨bs, os, rfl, hSb, hbs, hcell⟩ := Hcok.out.data.at_ (show 0 < r.data.length by omega)
          obtain ⟨hcx, hsx⟩ := hcell k _ hx
          have hcx : wr.cell? ⟨bs, os + k, none⟩ = _ := (World.cell?_of_block (w := w) (L.chg.keep HS.out _ hSb hbs)).trans hcx
          have Hx := Lib.hid hx
          clear hx hcell
          generalize r.data[k] = x at *
          obtain ⟨wv, lv, cs', hrow', hw', hl', hcs', hok'⟩ := hdw.out.two
          have hk' := hdw.out.kept
          have hn' := hdw.out.now
          obtain ⟨hy1, hy2⟩ : ∃ y, dm.now[p + k]? = some y := ⟨_, List.getElem?_eq_getElem (by rw [hn']; omega)⟩
          have hcy : wr.cell? ⟨b, 32 + (p + k), none⟩ = some (.string hy1) := by rw [cell_of_row _ _ _ _ _ _ hrow']; simpa using devCells_at_now _ wv lv hk' _ _ hy2
          have hfy : wr.frozen? ⟨b, 32 + (p + k), none⟩ = false := frozen_of_row _ _ _ _ _ hrow'
          have hat : IntKind.i64.wrap ((p : Int) + (k : Int)) = ((p + k : Nat) : Int) := by rw [IntWalk.i64_in _ (by omega)]; omega
          have hat1 : (0 : Int) ≤ ((p + k : Nat) : Int) := by omega
          have hat2 : ((p + k : Nat) : Int) < 32 := by omega
          have hk1 : (k : Int) < (r.data.length : Int) := by omega
          have hk2 : (k : Int) < (n : Int) := by omega
          clear hrow' hw' hl' hcs' hok' hy2
          go_wp2_with fail
          go_region
          have hd6 := hdw.out.setNow (p + k) (by omega) x (fun c hs hg => hg.elim (HS4.out c hs) (fun h2 => by have := Hlt.out c hs; have := Hb1.out.size; have := H41.out; have := Hs5.out; omega)) (by decide) (by decide)
          have hc6 := (hcw.out.setCell (p := ⟨b, 32 + (p + k), none⟩) (.inl Hd4.out.fb) (.string x)).drew
          have hd6 := hd6.below (Below.refl _ _).drew
          obtain ⟨W6, hW6⟩ : ∃ u, World.drew (wr.setCell ⟨b, 32 + (p + k), none⟩ (.string x)) = u := ⟨_, rfl⟩
          have hs6 : W6.heap.size = wr.heap.size := by rw [← hW6]; simp [World.setCell]
          rw [hW6] at hd6 hc6 ⊢
          clear q0 q1 q2 q3 q4 q5 hcx hcy hfy hdw hcw L hk' hn' hW6
          have L := HL5.out.chg2 hc6 (fun k hk => (HG4.out k hk).elim .inl (fun h => .inr h.1)) (fun x hx hf => by
            simp only [List.mem_cons, List.not_mem_nil, or_false] at hx
            rcases hx with rfl | rfl | rfl
            · exact absurd (HF4.out _ hf) (by omega)
            · exact (Hne.out _ hf).2 rfl
            · exact (Hne.out _ hf).1 rfl)
          obtain ⟨q0, q1, q2, q3, q4, q5⟩ := L.c6 1 rfl
          have hcx : W6.cell? ⟨bs, os + k, none⟩ = some (.string x) := (World.cell?_of_block (w := w) (L.chg.keep HS.out _ hSb hbs)).trans (by
            obtain ⟨bs', os', e, _, _, hcell⟩ := Hcok.out.data.at_ (show 0 < r.data.length by omega)
            cases e
            exact (hcell k _ Hx.out).1)
          obtain ⟨wv, lv, cs', hrow', hw', hl', hcs', hok'⟩ := hd6.two
          have hk' := hd6.kept
          have hn' := hd6.now
          obtain ⟨A6, c6, rfl, hA1, hA2⟩ := hw'.form
          unfold maxLen at hA2
          have hbl6 := (Array.getElem?_eq_some_iff.1 hrow').1
          have c64 : W6.cell? ⟨b, 64, none⟩ = some (.slice A6 dm.waits.length c6) := by rw [cell_of_row _ _ _ _ _ _ hrow']; simpa using devCells_at_w _ _ lv hk' hn'
          have f64 : W6.frozen? ⟨b, 64, none⟩ = false := frozen_of_row _ _ _ _ _ hrow'
          obtain ⟨j0, hj0, hy0, hy1', hy2'⟩ := info_parts putInfo
          have Hown := Lib.hid hw'
          have Hl' := Lib.hid hl'
          have Hcs' := Lib.hid hcs'
          have Hok' := Lib.hid hok'
          have Hrow' := Lib.hid hrow'
          have Hc6 := Lib.hid hc6
          have Hfb := Lib.hid hd6.fb
          have Hne6 : Hid (∀ k, k = b → some k ≠ (Value.slice A6 dm.waits.length c6).ownBlock) := fun k hkb e => own_ne hw'.1 hrow' (by decide) k e.symm hkb
          have hA1 : dm.waits.length ≤ c6 := hA1
          have c64a : ∀ o, (W6.alloc o).cell? ⟨b, 64, none⟩ = some (.slice A6 dm.waits.length c6) := fun o => (World.cell?_alloc_lt _ _ _ hbl6).trans c64
          clear hw' hl' hcs' hok' hrow' hc6 hd6 L
          go_wp2_with fail
          go_region_law (first
            | (refine step_append_rd (S := fun _ => True) _ rfl (.tmp 76) (.tmp 84) _ rfl 0 95 j0 _ 2 24 Try.underlying82 hj0 hy0 hy1' hy2' rfl (by omega) (.slice A6 dm.waits.length c6) dm.waits.length (putCells dm.waits) (by simp [Act.eval, Act.put]) (Hown.out.1.alloc _) (.slice (some ⟨W6.heap.size, 0, none⟩) 1 1) 1 [.int .i64 ((p : Int) + (k : Int)), .string x] (by simp [Act.eval, Act.put]) (rd_two _ _ _ _ _ (heap_alloc_new _ _)) (one_two _ _) (by simp only [maxLen]; omega) (by omega) (by omega) ?_
               intro v7 w7 hown7 hg7 hat7
               obtain ⟨A7, c7, rfl⟩ := own_sl hown7
               have p1 : w7.cell? ⟨b, 64, none⟩ = some (.slice A6 dm.waits.length c6) := hg7.cell ((World.cell?_alloc_lt _ _ _ hbl6).trans c64) (Hne6.out b rfl)
               have p2 : w7.frozen? ⟨b, 64, none⟩ = false := (World.frozen?_of_block (hg7.block b (by simp; omega) (Hne6.out b rfl))).trans ((World.frozen?_alloc_past _ _ _ hbl6).trans f64)))
          all_goals
            have hbA := ((Below.refl W6.heap.size W6).alloc (Nat.le_refl _) (.cells #[.int .i64 ((p : Int) + (k : Int)), .string x] 95)).drew
            have hsA : (World.drew (W6.alloc (.cells #[.int .i64 ((p : Int) + (k : Int)), .string x] 95))).heap.size = W6.heap.size + 1 := by simp
            have hc7 : Chg F4 W5 w7 := (Hc6.out.step hbA).grown hg7 (fun k hk => (Hown.out.2 k hk).elim .inl (fun h => .inr h.1))
            have hkW : ∀ k, k < W6.heap.size → some k ≠ (Value.slice A6 dm.waits.length c6).ownBlock → w7.heap[k]? = W6.heap[k]? := fun k hk hne => (hg7.block k (by rw [hsA]; omega) hne).trans (hbA.block k hk)
            have hl7 : w7.ownsRow 0 44 6 lv cs'.length (cs'.flatMap Rc.cells) := own_keepD Hl'.out.1 (fun k hv => hkW k (Hl'.out.1.lt k hv).2 (fun e => own_two Hl'.out.1 Hown.out.1 (by decide) k hv e.symm))
            have h65 : W6.heap.size ≤ w7.heap.size := by have := hg7.size; omega
            have hfin := DevAt.setW (TD := TDp) (TP := TPp) (S := S) (a := W5) (F := F4) (lv := lv) (wv := .slice A6 dm.waits.length c6) (wv' := .slice A7 (dm.waits.length + 1) c7) (cs := cs') (l' := dm.waits ++ [(p + k, x)]) (d := { dm with now := dm.now.set (p + k) x })
              hc7 Hd4.out.fb hk' hn' ((hkW b hbl6 (Hne6.out b rfl)).trans Hrow'.out)
              ⟨hl7, fun k hv => (Hl'.out.2 k hv).elim .inl (fun h => .inr ⟨h.1, (hl7.lt k hv).2⟩)⟩
              (by
                have e1 : (dm.waits ++ [(p + k, x)]).length = dm.waits.length + 1 := by simp
                have e2 : putCells (dm.waits ++ [(p + k, x)]) = putCells dm.waits ++ [.int .i64 ((p : Int) + (k : Int)), .string x] := by simp [putCells]
                rw [e1, e2]; exact hown7)
              (fun k hv => by
                rcases hat7 with h | h
                · exact (Hown.out.2 k (h ▸ hv)).elim .inl (fun h => .inr h.1)
                · rw [hv] at h; injection h with h; rw [hsA] at h; exact .inr (by have := Hc6.out.size; omega))
              Hcs'.out (fun c hm => (Hok'.out c hm).keep (fun k hs hk => hkW k hk (fun e => (Hown.out.2 k e.symm).elim (HS4.out k hs) (fun h2 => by have := Hlt.out k hs; have := Hb1.out.size; have := H41.out; have := Hs5.out; omega)))) HS4.out (by decide) (by decide)
            have Hfin := Lib.hid hfin
            clear hfin hc7 hkW hl7 h65 hbA hsA hg7 hown7 hat7 p1 p2 q0 q1 q2 q3 q4 q5 c64 c64a f64 hcx
            go_wp2_with fail
            go_roundw
            case rel =>
              refine ⟨_, _, _, ⟨k + 1, by omega, by go_num, Hfin.out.2, ?_⟩, rfl, rfl, rfl⟩
              show DevAt _ _ _ _ _ _ _
              rw [Dv.wrote_succ Hx.out, Hdm.out]
              exact Hfin.out.1
            case measure => simp [intOf]; omega
          -- ROUND END
        · obtain rfl : k = n := by omega
          have hd9 := hdw.out
          rw [List.take_of_length_le (by omega)] at hd9
          have Hd9 := Lib.hid hd9
          have L := HL5.out.chg2 hcw.out (fun k hk => (HG4.out k hk).elim .inl (fun h => .inr h.1)) (fun x hx hf => by
            simp only [List.mem_cons, List.not_mem_nil, or_false] at hx
            rcases hx with rfl | rfl | rfl
            · exact absurd (HF4.out _ hf) (by omega)
            · exact (Hne.out _ hf).2 rfl
            · exact (Hne.out _ hf).1 rfl)
          clear hd9 hdw
          obtain ⟨q0, q1, q2, q3, q4, q5, q6, q7⟩ := L.c8 0 rfl
          obtain ⟨vs, hvs⟩ : ∃ vs : Array Value, #[.bool true, .int .i64 (p : Int), .int .i64 (k : Int), .slice Ad k cd, .slice At r.tags.length ct, .int .i64 r.born, .slice none 0 0, .int .i64 0] = vs := ⟨_, rfl⟩
          have hve : vs = rsCells ⟨r, .slice Ad r.data.length cd, .slice At r.tags.length ct⟩ (.slice none 0 0) 0 := by rw [← hvs]; simp [rsCells, hwr, hlo, hmany, hdl]
          have HT : Hid (wr.there w.heap.size 0 vs.size) := L.there 2 rfl _ (by rw [← hvs]; rfl)
          have Hi : Hid ((Try.prog.info? 109).map (·.size) = some vs.size) := by rw [← hvs]; exact resInfo
          have Hz : Hid (vs.all (·.oneCell') = true) := by rw [hve]; exact rs_one Hcok4.out
          have HLr := Lib.hid L
          have Hve := Lib.hid hve
          clear L hve
          go_wp2_with (
            refine wpList_store_mid rfl 109 (.tmp 6) (.tmp 100) rfl w.heap.size 0 vs rfl rfl HT.out Hi.out Hz.out ?_
            have L9 := HLr.out.put 2 rfl vs (by rw [← hvs]; rfl)
            have hc9 : Chg (fun k => k = w.heap.size) wr _ := Chg.setCells (F := fun k => k = w.heap.size) (w := wr) Chg.refl (.inl rfl) 0 vs.toList
            generalize World.setCells _ _ _ _ = W9 at L9 hc9 ⊢)
          rw [← hvs] at L9
          obtain ⟨p0, p1, p2, p3, p4, p5, p6, p7⟩ := L9.c8 2 rfl
          refine bodyPost_ret (v := .tuple #[.agg vs, .nilIface]) (by simp [results, Try.results80, go_sem, p0, p1, p2, p3, p4, p5, p6, p7, ← hvs]) rfl ?_
          have hneS : ∀ k, S k → ¬ k = w.heap.size := fun k hk he => by have := Hlt.out k hk; omega
          have hne : ∀ k, Grow F4 W5 wr k → ¬ k = w.heap.size := fun k hk he => hk.elim (fun h => (Hne.out k h).1 he) (fun h => by have := Hs5.out; have := HLr.out.lt (x := (w.heap.size, _, _)) (List.mem_cons_of_mem _ (List.mem_cons_of_mem _ List.mem_cons_self)); have := Hb1.out.size; have := H41.out; omega)
          have hG : ∀ k, Grow F4 W5 wr k → Grow F w W9 k := fun k hk => by
            have := hc9.size
            have := Hs5.out
            have := Hb1.out.size
            have := H41.out
            rcases hk with h | h
            · rcases HG4.out k h with h | h
              · exact .inl h
              · exact .inr ⟨h.1, by have := hcw.out.size; omega⟩
            · exact .inr ⟨by omega, by omega⟩
          have he : d.ended r i false = ((d.drop i).wrote p r.data, ⟨r, [], 0⟩) := by
            unfold Dv.ended
            rw [if_neg (by simp), if_pos hwr, hlo]
            simp
          rw [he]
          refine ⟨_, Grow F4 W5 wr, S, rfl, ⟨_, _, congrArg Value.agg Hve.out, rfl, Hcok.out.keep (L9.chg.keep HS.out), strs_nil _ _⟩, Hd9.out.apart hc9 hne hneS, L9.chg, fun k h => ?_, hG, fun k h => h, fun k h => .inl h, fun c hs hk => ?_⟩
          · exact .inl (HFF.out k h)
          · exact hk.elim (HS4.out c hs) (fun h2 => by have := Hlt.out c hs; have := Hb1.out.size; have := H41.out; have := Hs5.out; omega)
    · obtain ⟨s0, hs0, hs1, hs2, hs3⟩ := info_parts strInfo
      go_wp2_with fail
      simp only [hwr, hlo, hmany] at HL5 HB5 Hs5
      generalize World.alloc _ _ = W5 at HL5 HB5 Hs5 ⊢
      have Hd5 := Lib.hid (Hd4.out.below HB5.out)
      clear q2'
      have Hrow5 := Lib.hid (HL5.out.at_ 0 rfl)
      go_loopw [52] (fun j wr => ∃ (k : Nat) (v : Value), k ≤ n ∧ j = .int .i64 k ∧ Hid (Chg (fun q => q = w4.heap.size) W5 wr) ∧ Hid (wr.heap[w4.heap.size]? = some (.cells #[Value.bool false, Value.int IntKind.i64 p, Value.int IntKind.i64 n, Value.slice Ad r.data.length cd, Value.slice At r.tags.length ct, Value.int IntKind.i64 r.born, v, .int .i64 0] 109 (0, 0))) ∧ Hid (wr.ownsRow W5.heap.size 9 1 v k ((d.reads p k).map .string))) (fun j _ => n - (intOf j).toNat)
      case atStart => exact ⟨0, _, by omega, rfl, Chg.refl, Hrow5.out, by show World.ownsRow _ _ _ _ _ _ _; unfold Dv.reads; exact World.ownsRow_nil _ _ _ _⟩
      case round =>
        obtain ⟨k, v, hk, rfl, hcw, hrw, how⟩ := hrel
        have L := HL5.out.turn 0 rfl hcw.out hrw.out
        simp only [List.set_cons_zero] at L
        by_cases hlt : k < n
        · -- ROUND2 BEGIN
          obtain ⟨q0, q1, q2, q3, q4, q5, q6, q7⟩ := L.c8 0 rfl
          obtain ⟨z0, z1, z2, z3, z4, z5⟩ := L.c6 1 rfl
          have f6 := L.frozen 0 rfl 6
          obtain ⟨Av, cv, rfl⟩ := own_sl (own_lo how.out (Nat.zero_le _))
          have hdw := Hd5.out.apart hcw.out (fun k hk e => absurd (HF4.out k hk) (by omega)) (fun k hk e => by have := Hlt.out k hk; have := Hb1.out.size; have := H41.out; omega)
          obtain ⟨wv', lv', hrow'⟩ := hdw.row
          obtain ⟨y, hy⟩ : ∃ y, (d.drop i).now[p + k]? = some y := ⟨_, List.getElem?_eq_getElem (by rw [hdw.now]; omega)⟩
          have hcy : wr.cell? ⟨b, 32 + (p + k), none⟩ = some (.string y) := by rw [cell_of_row _ _ _ _ _ _ hrow']; simpa using devCells_at_now _ _ _ hdw.kept _ _ hy
          have hcya : ∀ o, (wr.alloc o).cell? ⟨b, 32 + (p + k), none⟩ = some (.string y) := fun o => (World.cell?_alloc_lt _ _ _ (block_lt_of_cell hcy)).trans hcy
          have q6a : ∀ o, (wr.alloc o).cell? ⟨w4.heap.size, 6, none⟩ = some (.slice Av k cv) := fun o => (World.cell?_alloc_lt _ _ _ (block_lt_of_cell q6)).trans q6
          have hat : IntKind.i64.wrap ((p : Int) + (k : Int)) = ((p + k : Nat) : Int) := by rw [IntWalk.i64_in _ (by omega)]; omega
          have hat1 : (0 : Int) ≤ ((p + k : Nat) : Int) := by omega
          have hat2 : ((p + k : Nat) : Int) < 32 := by omega
          have hk2 : (k : Int) < (n : Int) := by omega
          have hat3 : (0 : Int) ≤ (p : Int) + (k : Int) := by omega
          have hat4 : (p : Int) + (k : Int) < 32 := by omega
          have hat5 : ((p : Int) + (k : Int)).toNat = p + k := by omega
          have Hy := Lib.hid hy
          have HLw := Lib.hid L
          have h45 : w4.heap.size < wr.heap.size := L.lt (x := (w4.heap.size, _, _)) List.mem_cons_self
          have h5w := Lib.hid hcw.out.size
          clear hdw hrow' hy L
          go_wp2_with fail
          go_region_law (first
            | (refine step_append_rd (S := fun _ => True) _ rfl (.tmp 89) (.tmp 96) _ rfl W5.heap.size 9 s0 _ 1 16 Try.underlying41 hs0 hs1 hs2 hs3 rfl (by omega) (.slice Av k cv) k ((d.reads p k).map .string) (by simp [Act.eval, Act.put]) (how.out.alloc _) (.slice (some ⟨wr.heap.size, 0, none⟩) 1 1) 1 [.string y] (by simp [Act.eval, Act.put]) (rd_s1 _ _ _ _ (heap_alloc_new _ _)) (one_s1 _) (by simp only [maxLen]; omega) (by omega) (by have := h5w.out; simp; omega) ?_
               intro v7 w7 hown7 hg7 hat7
               clear hat7
               obtain ⟨A7, c7, rfl⟩ := own_sl (own_lo hown7 (Nat.zero_le _))
               have hne7 : ∀ k', k' = w4.heap.size → some k' ≠ (Value.slice Av k cv).ownBlock := fun k' e e2 => by have := (how.out.lt k' e2.symm).1; have := Hs5.out; omega
               have p1 : w7.cell? ⟨w4.heap.size, 6, none⟩ = some (.slice Av k cv) := hg7.cell (q6a _) (hne7 _ rfl)
               have p2 : w7.frozen? ⟨w4.heap.size, 6, none⟩ = false := (World.frozen?_of_block (hg7.block w4.heap.size (by simp; omega) (hne7 _ rfl))).trans ((World.frozen?_alloc_past _ _ _ h45).trans f6)))
          all_goals
            have hbA := ((Below.refl wr.heap.size wr).alloc (Nat.le_refl _) (.cells #[.string y] 9)).drew
            have hsA : (World.drew (wr.alloc (.cells #[.string y] 9))).heap.size = wr.heap.size + 1 := by simp
            have hc7 : Chg (fun q => q = w4.heap.size) W5 w7 := (hcw.out.step hbA).grown hg7 (fun k hk => .inr (how.out.lt k hk).1)
            have hr7 : w7.heap[w4.heap.size]? = some _ := ((hg7.block w4.heap.size (by rw [hsA]; omega) (hne7 _ rfl)).trans (hbA.block _ h45)).trans hrw.out
            have hr8 := heap_setCell_same _ _ 6 _ _ (.slice A7 (k + 1) c7) hr7
            have hc8 := hc7.setCell (p := ⟨w4.heap.size, 6, none⟩) (.inl rfl) (.slice A7 (k + 1) c7)
            have ho8 : (w7.setCell ⟨w4.heap.size, 6, none⟩ (.slice A7 (k + 1) c7)).ownsRow W5.heap.size 9 1 (.slice A7 (k + 1) c7) (k + 1) ((d.reads p (k + 1)).map .string) := by
              have e : (d.reads p (k + 1)).map Value.string = (d.reads p k).map .string ++ [.string y] := by
                unfold Dv.reads
                rw [List.take_add_one, List.getElem?_drop, show d.now[p + k]? = some y from Hy.out]
                simp
              rw [e]
              exact own_keepD hown7 (fun q hv => Below.heap_setCell _ _ _ _ (by have := (hown7.lt q hv).1; have := Hs5.out; simp only; omega))
            have Hr8 := Lib.hid hr8
            have Hc8 := Lib.hid hc8
            have Ho8 := Lib.hid ho8
            clear hr8 hc8 ho8 hc7 hr7 hbA hsA hg7 hown7 hne7 p1 p2 q0 q1 q2 q3 q4 q5 q6 q7 z0 z1 z2 z3 z4 z5 q6a hcy hcya f6
            go_wp2_with fail
            go_roundw
            case rel => exact ⟨k + 1, _, by omega, by go_num, Hc8.out, Hr8.out, Ho8.out⟩
            case measure => simp [intOf]; omega
          -- ROUND2 END
        · obtain rfl : k = n := by omega
          have HLr := Lib.hid L
          obtain ⟨q0, q1, q2, q3, q4, q5, q6, q7⟩ := L.c8 0 rfl
          obtain ⟨Av, cv, rfl⟩ := own_sl (own_lo how.out (Nat.zero_le _))
          obtain ⟨vs, hvs⟩ : ∃ vs : Array Value, #[.bool false, .int .i64 (p : Int), .int .i64 (k : Int), .slice Ad r.data.length cd, .slice At r.tags.length ct, .int .i64 r.born, .slice Av k cv, .int .i64 0] = vs := ⟨_, rfl⟩
          have hve : vs = rsCells ⟨r, .slice Ad r.data.length cd, .slice At r.tags.length ct⟩ (.slice Av k cv) 0 := by rw [← hvs]; simp [rsCells, hwr, hlo, hmany]
          have HT : Hid (wr.there w.heap.size 0 vs.size) := L.there 2 rfl _ (by rw [← hvs]; rfl)
          have Hi : Hid ((Try.prog.info? 109).map (·.size) = some vs.size) := by rw [← hvs]; exact resInfo
          have Hz : Hid (vs.all (·.oneCell') = true) := by rw [hve]; exact rs_one Hcok4.out
          have Hve := Lib.hid hve
          clear L hve
          go_wp2_with (
            refine wpList_store_mid rfl 109 (.tmp 6) (.tmp 100) rfl w.heap.size 0 vs rfl rfl HT.out Hi.out Hz.out ?_
            have L9 := HLr.out.put 2 rfl vs (by rw [← hvs]; rfl)
            have hc9 : Chg (fun k => k = w.heap.size) wr _ := Chg.setCells (F := fun k => k = w.heap.size) (w := wr) Chg.refl (.inl rfl) 0 vs.toList
            generalize World.setCells _ _ _ _ = W9 at L9 hc9 ⊢)
          rw [← hvs] at L9
          obtain ⟨p0, p1, p2, p3, p4, p5, p6, p7⟩ := L9.c8 2 rfl
          refine bodyPost_ret (v := .tuple #[.agg vs, .nilIface]) (by simp [results, Try.results80, go_sem, p0, p1, p2, p3, p4, p5, p6, p7, ← hvs]) rfl ?_
          have hs1 := Hb1.out.size
          have hs2 := H41.out
          have hs3 := Hs5.out
          have hs4 := hcw.out.size
          have hs5 := hc9.size
          have hlw := HL5.out.lt (x := (w.heap.size, _, _)) (List.mem_cons_of_mem _ (List.mem_cons_of_mem _ List.mem_cons_self))
          have he : d.ended r i false = (d.drop i, ⟨r, d.reads p k, 0⟩) := by
            unfold Dv.ended
            rw [if_neg (by simp), if_neg (by rw [hwr]; simp), hlo, hmany]
            simp
          rw [he]
          have hd9 := (Hd5.out.apart hcw.out (fun k hk e => absurd (HF4.out k hk) (by omega)) (fun k hk e => by have := Hlt.out k hk; omega)).apart hc9 (fun k hk e => (Hne.out k hk).1 e) (fun k hk e => by have := Hlt.out k hk; omega)
          have hst : StrsAt (fun q => S q ∨ (W5.heap.size ≤ q ∧ q < W9.heap.size)) W9 (.slice Av k cv) (d.reads p k) := by
            have h9 : W9.ownsRow W5.heap.size 9 1 (.slice Av k cv) k ((d.reads p k).map .string) := own_keepD how.out (fun q hv => hc9.block q (how.out.lt q hv).2 (by have := (how.out.lt q hv).1; omega))
            have hl9 : (d.reads p k).length = k := by unfold Dv.reads; have := H.out.now; simp; omega
            refine ⟨?_, fun s hs => Hnow.out s (List.mem_of_mem_drop (List.mem_of_mem_take hs))⟩
            rw [hl9]
            exact Ow.rd ⟨own_lo h9 (Nat.zero_le _), fun q hv => .inr (h9.lt q hv)⟩
          refine ⟨_, F4, fun q => S q ∨ (W5.heap.size ≤ q ∧ q < W9.heap.size), rfl, ⟨_, _, congrArg Value.agg Hve.out, rfl, (Hcok.out.keep (L9.chg.keep HS.out)).more (fun q h => .inl h), hst⟩, hd9, L9.chg, HFF.out, fun q h => ?_, fun q h => .inl h, fun q h => ?_, fun q h hf => ?_⟩
          · exact (HG4.out q h).elim .inl (fun h => .inr ⟨h.1, by omega⟩)
          · exact h.elim .inl (fun h => .inr ⟨by omega, h.2⟩)
          · exact h.elim (fun h => HS4.out q h hf) (fun h => absurd (HF4.out q hf) (by omega))
end Go.Proofs.Ytojmnfelecnenaa
namespace Go.Proofs.Ytojmnfelecnenaa
set_option linter.unusedSimpArgs false
set_option linter.unusedVariables false
open Go.RowKit

abbrev TVp : TypeId := 107
/-- It returns a result, whether it is done, and an error; the driver has become v'. -/
def RetDrv (TD TP TV : TypeId) (S F : Nat → Prop) (w : World) (bv bd bt n : Nat) (v' : Drv) (rs : Rs) (done : Bool) (ev : Value) : Ending → World → Prop :=
  fun e w' => ∃ (x : Value) (F' S' : Nat → Prop), e = .returned (.tuple #[x, .bool done, ev]) ∧ RsAt S' w' x rs ∧ DrvAt TD TP TV S' F' w' bv bd bt (n + 1) v' ∧ Chg (fun k => F k ∨ k = bt) w w' ∧ (∀ k, F' k → Grow F w w' k) ∧ (∀ k, S k → S' k) ∧ (∀ k, S' k → Grow S w w' k) ∧ (∀ k, S' k → ¬ F' k)
theorem tag_cell {S : Nat → Prop} {w : World} {A : Option Addr} {c : Nat} {r : Rq} (h : IntsAt S w (.slice A r.tags.length c) r.tags) (hr : ReqOk r) : ∃ b off, A = some ⟨b, off, none⟩ ∧ w.cell? ⟨b, off, none⟩ = some (.int .i64 (tagOf r)) ∧ i64 (tagOf r) ∧ (0 : Int) < (r.tags.length : Int) ∧ S b ∧ b < w.heap.size := by
  have ht := hr.tags
  unfold tagsOk at ht
  obtain ⟨b, off, e, hSb, hbl, hc⟩ := h.at_ (by omega)
  have hx : r.tags[0]? = some (tagOf r) := by
    unfold tagOf
    cases hl : r.tags with
    | nil => rw [hl] at ht; simp at ht
    | cons x l => rfl
  obtain ⟨h1, h2⟩ := hc 0 _ hx
  exact ⟨b, off, e, by simpa using h1, h2, by omega, hSb, hbl⟩
theorem one8 (b : Bool) (x y z q : Int) (A B C : Option Addr) (n1 c1 n2 c2 n3 c3 : Nat) : (#[Value.bool b, .int .i64 x, .int .i64 y, .slice A n1 c1, .slice B n2 c2, .int .i64 z, .slice C n3 c3, .int .i64 q] : Array Value).all (·.oneCell') = true := by simp [Value.oneCell']

theorem LayF.grown {F : Nat → Prop} {w wr w' : World} {l : List (Nat × TypeId × Array Value)} (h : LayF F w wr l) {b : Nat} (hg : wr.grownBy w' (some b)) (hb : F b) (hn : ∀ x ∈ l, x.1 ≠ b) : LayF F w w' l :=
  h.chg2 (G := fun q => q = b) ⟨hg.os, hg.tape, hg.output, hg.size, fun k hk hne => hg.block k hk (fun e => hne (by injection e))⟩ (fun q hq => .inl (hq ▸ hb)) hn
set_option maxRecDepth 100000 in
set_option maxHeartbeats 4000000 in
theorem drvend_ok (S F : Nat → Prop) (w : World) (bv bd bt n k : Nat) (v : Drv) (r : Rq) (h : DrvAt TDp TPp TVp S F w bv bd bt n v) (hk : v.d.l[k]? = some r) (hok : DvOk v.d) (hwl : v.d.waits.length ≤ 900000000) (hn : n ≤ 900000000)
    (hF : ∀ k, F k → k < w.heap.size) (hSF : ∀ k, S k → ¬ F k) (hSlt : ∀ k, S k → k < w.heap.size) :
    Calls Try.prog 57 #[.pointer (some ⟨bv, 0, none⟩), .int .i64 (k : Int), .bool false] w (RetDrv TDp TPp TVp S F w bv bd bt n ⟨(v.d.ended r k false).1, upd v.tries (tagOf r) 0⟩ (v.d.ended r k false).2 true .nilIface) := by
  have hr := reqF_zero (hok.l r (List.mem_of_getElem? hk))
  have hbv := (Array.getElem?_eq_some_iff.1 h.row).1
  have c0 : ∀ o, (w.alloc o).cell? ⟨bv, 0, none⟩ = some (.pointer (some ⟨bd, 0, none⟩)) := fun o => by rw [World.cell?_alloc_lt _ _ _ hbv, cell_of_row _ _ _ _ _ _ h.row]; rfl
  have H := Lib.hid h
  have Hk := Lib.hid hk
  have Hok := Lib.hid hok
  have Hr := Lib.hid hr
  have HF := Lib.hid hF
  have HS := Lib.hid hSF
  have Hlt := Lib.hid hSlt
  have hrr : (v.d.ended r k false).2.req = r := by unfold Dv.ended; rw [if_neg (by simp)]; split <;> rfl
  have hre : (v.d.ended r k false).2.err = 0 := by unfold Dv.ended; rw [if_neg (by simp)]; split <;> rfl
  obtain ⟨q, hq⟩ : ∃ x, v.d.ended r k false = x := ⟨_, rfl⟩
  rw [hq] at hrr hre ⊢
  obtain ⟨d', ⟨rr, dl, er⟩⟩ := q
  simp only at hrr hre ⊢
  subst hrr hre
  have Hq := Lib.hid hq
  clear h hk hok hr hF hSF hSlt hq
  go_enter Try.func57, Try.ntmps57
  go_wp2_with fail
  have L := (LayF.refl (fun k => F k ∨ k = bt) w).alloc' w.heap.size zeroRsV 109 rfl
  have hb1 : Below w.heap.size w _ := (Below.refl w.heap.size w).alloc (Nat.le_refl _) (.cells zeroRsV 109)
  have hs1 : (w.alloc (.cells zeroRsV 109)).heap.size = w.heap.size + 1 := by simp
  generalize World.alloc _ _ = W1 at L hb1 hs1 ⊢
  have hd1 := H.out.below hb1
  refine (devend_some S F W1 bd v.d k rr false hd1.dev Hk.out Hr.out Hok.out.two (by omega) Hok.out.nowM (fun k hk => by have := HF.out k hk; omega) HS.out (fun k hk => by have := Hlt.out k hk; omega)).mono ?_
  rw [Hq.out]
  rintro e w2 ⟨x2, F2, S2, rfl, hrs, hd2, hc2, _, hF2, hSS2, hS2, hSF2⟩
  simp only at hrs hd2 ⊢
  obtain ⟨rc, ov, ev, erc, hrc, hov⟩ := hrs
  obtain ⟨r3, rdv, rtv⟩ := rc
  simp only at erc ev hov
  obtain ⟨Bd, bd7, e1, _, _⟩ := hrc.data.form
  obtain ⟨Bt, bt7, e2, _, _⟩ := hrc.tags.form
  obtain ⟨Bo, bo7, e3, _, _⟩ := hov.form
  simp only at e1 e2
  subst e1 e2 e3 ev erc
  obtain ⟨tb, to, rfl, htc, hti, htl, hSt, htb⟩ := tag_cell hrc.tags Hr.out
  have hL2 := L.chg2 hc2 (fun k hk => .inl (.inl hk)) (fun x hx hf => by
    simp only [List.mem_cons, List.not_mem_nil, or_false] at hx
    subst hx
    have := HF.out _ hf
    simp only at this
    omega)
  obtain ⟨f, hmf, hfv⟩ := H.out.map
  have hbt := hmf.lt
  have HL2 := Lib.hid hL2
  have HT : Hid (w2.there w.heap.size 0 (#[Value.bool r3.write, .int .i64 r3.lo, .int .i64 r3.many, .slice Bd r3.data.length bd7, .slice (some ⟨tb, to, none⟩) r3.tags.length bt7, .int .i64 r3.born, .slice Bo dl.length bo7, .int .i64 0] : Array Value).size) := hL2.there 0 rfl _ rfl
  have Hi : Hid ((Try.prog.info? 109).map (·.size) = some (#[Value.bool r3.write, .int .i64 r3.lo, .int .i64 r3.many, .slice Bd r3.data.length bd7, .slice (some ⟨tb, to, none⟩) r3.tags.length bt7, .int .i64 r3.born, .slice Bo dl.length bo7, .int .i64 0] : Array Value).size) := resInfo
  have Hz : Hid ((#[Value.bool r3.write, .int .i64 r3.lo, .int .i64 r3.many, .slice Bd r3.data.length bd7, .slice (some ⟨tb, to, none⟩) r3.tags.length bt7, .int .i64 r3.born, .slice Bo dl.length bo7, .int .i64 0] : Array Value).all (·.oneCell') = true) := one8 _ _ _ _ _ _ _ _ _ _ _ _ _ _
  have hb2 : ∀ q, q < w.heap.size → ¬ F q → w2.heap[q]? = w.heap[q]? := fun q hq hf => (hc2.block q (by omega) hf).trans (hb1.block q hq)
  have Hrow2 := Lib.hid ((hb2 bv hbv H.out.nv).trans H.out.row)
  have Hmap2 := Lib.hid (hmf.keep (hb2 bt hbt H.out.nt))
  have Hfv := Lib.hid hfv
  have htw : tb ≠ w.heap.size := fun e => by rcases hS2 tb hSt with h | h; have := Hlt.out _ h; omega; omega
  have htt : tb ≠ bt := fun e => by
    rcases hS2 tb hSt with h | h
    · exact (H.out.sv tb h).2 e
    · omega
  have Htc := Lib.hid htc
  have Hrc := Lib.hid hrc
  have Hov := Lib.hid hov
  have Hd2 := Lib.hid hd2
  have Hc2 := Lib.hid ((Chg.of_below (F := F) hb1).trans (hc2.mono (fun q h => .inl h)))
  have HF2 : Hid (∀ q, F2 q → Grow F w w2 q ∧ q ≠ bv ∧ q ≠ bt ∧ q ≠ w.heap.size) := fun q hq => by
    rcases hF2 q hq with h | h
    · exact ⟨.inl h, fun e => H.out.nv (e ▸ h), fun e => H.out.nt (e ▸ h), fun e => by have := HF.out q h; omega⟩
    · exact ⟨.inr ⟨by omega, h.2⟩, by omega, by omega, by omega⟩
  have HS2 : Hid (∀ q, S2 q → Grow S w w2 q ∧ q ≠ bv ∧ q ≠ bt ∧ q ≠ w.heap.size ∧ q < w2.heap.size) := fun q hq => by
    rcases hS2 q hq with h | h
    · exact ⟨.inl h, (H.out.sv q h).1, (H.out.sv q h).2, by have := Hlt.out q h; omega, by have := Hlt.out q h; have := hc2.size; omega⟩
    · exact ⟨.inr ⟨by omega, h.2⟩, by omega, by omega, by omega, h.2⟩
  have HSF2 := Lib.hid hSF2
  have HSS2 := Lib.hid hSS2
  have hz12 := hc2.size
  have hwt : w.heap.size ≠ bt := by omega
  clear hL2 L hb1 hrc hov hd2 hc2 hF2 hSS2 hS2 hSF2 hmf hfv hb2 htc c0 hd1 hSt
  go_wp2_with (first
    | (refine wpList_store_mid rfl 109 (.tmp 6) (.tmp 18) rfl w.heap.size 0 #[Value.bool r3.write, .int .i64 r3.lo, .int .i64 r3.many, .slice Bd r3.data.length bd7, .slice (some ⟨tb, to, none⟩) r3.tags.length bt7, .int .i64 r3.born, .slice Bo dl.length bo7, .int .i64 0] rfl rfl HT.out Hi.out Hz.out ?_
       have L3 := Lib.hid (HL2.out.put 0 rfl #[Value.bool r3.write, .int .i64 r3.lo, .int .i64 r3.many, .slice Bd r3.data.length bd7, .slice (some ⟨tb, to, none⟩) r3.tags.length bt7, .int .i64 r3.born, .slice Bo dl.length bo7, .int .i64 0] rfl)
       have hc3 : Hid (Chg (fun q => q = w.heap.size) w2 (w2.setCells w.heap.size 0 (#[Value.bool r3.write, .int .i64 r3.lo, .int .i64 r3.many, .slice Bd r3.data.length bd7, .slice (some ⟨tb, to, none⟩) r3.tags.length bt7, .int .i64 r3.born, .slice Bo dl.length bo7, .int .i64 0] : Array Value).toList)) := Chg.setCells (F := fun q => q = w.heap.size) (w := w2) Chg.refl (.inl rfl) 0 (#[Value.bool r3.write, .int .i64 r3.lo, .int .i64 r3.many, .slice Bd r3.data.length bd7, .slice (some ⟨tb, to, none⟩) r3.tags.length bt7, .int .i64 r3.born, .slice Bo dl.length bo7, .int .i64 0] : Array Value).toList
       generalize World.setCells _ _ _ _ = W3 at L3 hc3 ⊢
       obtain ⟨p0, p1, p2, p3, p4, p5, p6, p7⟩ := L3.out.c8 0 rfl
       have ht3 : W3.cell? ⟨tb, to, none⟩ = _ := (World.cell?_of_block (w := w2) (hc3.out.block tb htb htw)).trans Htc.out
       have hrow3 := (hc3.out.block bv (by omega) (by omega)).trans Hrow2.out
       have cbt : W3.cell? ⟨bv, 1, none⟩ = some (.map (some bt)) := by rw [cell_of_row _ _ _ _ _ _ hrow3]; rfl
       have Hrow3 := Lib.hid hrow3
       have Hmap3 := Lib.hid (Hmap2.out.keep (hc3.out.block bt (by omega) (by omega)))
       clear hrow3)
    | (at_delete; refine wpList_drop _ rfl (.tmp 35) (.tmp 36) rfl bt n f (tagOf r3) rfl rfl Hmap3.out hti ?_
       intro w4 hm4 hg4
       have L4 := Lib.hid (L3.out.grown hg4 (.inr rfl) (fun x hx => by simp at hx; subst hx; exact hwt))
       obtain ⟨y0, y1, y2, y3, y4, y5, y6, y7⟩ := L4.out.c8 0 rfl
       have HT4 : Hid (w4.there w.heap.size 0 (#[Value.bool r3.write, .int .i64 r3.lo, .int .i64 r3.many, .slice Bd r3.data.length bd7, .slice (some ⟨tb, to, none⟩) r3.tags.length bt7, .int .i64 r3.born, .slice Bo dl.length bo7, .int .i64 0] : Array Value).size) := L4.out.there 0 rfl _ rfl
       have Hm4 := Lib.hid hm4
       have Hg4 := Lib.hid hg4
       clear hm4 hg4 p0 p1 p2 p3 p4 p5 p6 p7)
    | (refine wpList_store_mid rfl 109 (.tmp 6) (.tmp 37) rfl w.heap.size 0 #[Value.bool r3.write, .int .i64 r3.lo, .int .i64 r3.many, .slice Bd r3.data.length bd7, .slice (some ⟨tb, to, none⟩) r3.tags.length bt7, .int .i64 r3.born, .slice Bo dl.length bo7, .int .i64 0] rfl rfl HT4.out Hi.out Hz.out ?_
       have L5 := Lib.hid (L4.out.put 0 rfl #[Value.bool r3.write, .int .i64 r3.lo, .int .i64 r3.many, .slice Bd r3.data.length bd7, .slice (some ⟨tb, to, none⟩) r3.tags.length bt7, .int .i64 r3.born, .slice Bo dl.length bo7, .int .i64 0] rfl)
       have hc5 : Hid (Chg (fun q => q = w.heap.size) w4 (w4.setCells w.heap.size 0 (#[Value.bool r3.write, .int .i64 r3.lo, .int .i64 r3.many, .slice Bd r3.data.length bd7, .slice (some ⟨tb, to, none⟩) r3.tags.length bt7, .int .i64 r3.born, .slice Bo dl.length bo7, .int .i64 0] : Array Value).toList)) := Chg.setCells (F := fun q => q = w.heap.size) (w := w4) Chg.refl (.inl rfl) 0 (#[Value.bool r3.write, .int .i64 r3.lo, .int .i64 r3.many, .slice Bd r3.data.length bd7, .slice (some ⟨tb, to, none⟩) r3.tags.length bt7, .int .i64 r3.born, .slice Bo dl.length bo7, .int .i64 0] : Array Value).toList
       generalize World.setCells _ _ _ _ = W5 at L5 hc5 ⊢
       clear y0 y1 y2 y3 y4 y5 y6 y7
       obtain ⟨z0, z1, z2, z3, z4, z5, z6, z7⟩ := L5.out.c8 0 rfl))
  refine bodyPost_ret (v := .tuple #[.agg #[Value.bool r3.write, .int .i64 r3.lo, .int .i64 r3.many, .slice Bd r3.data.length bd7, .slice (some ⟨tb, to, none⟩) r3.tags.length bt7, .int .i64 r3.born, .slice Bo dl.length bo7, .int .i64 0], .bool true, .nilIface]) (by simp [results, Try.results57, go_sem, z0, z1, z2, z3, z4, z5, z6, z7]) rfl ?_
  have hsz3 : w2.heap.size ≤ W3.heap.size := hc3.out.size
  have hsz4 : W3.heap.size ≤ w4.heap.size := Hg4.out.size
  have hsz5 : w4.heap.size ≤ W5.heap.size := hc5.out.size
  have hkk : ∀ q, q < w2.heap.size → q ≠ w.heap.size → q ≠ bt → W5.heap[q]? = w2.heap[q]? := fun q hq h1 h2 =>
    ((hc5.out.block q (by omega) h1).trans (Hg4.out.block q (by omega) (fun e => h2 (by injection e)))).trans (hc3.out.block q hq h1)
  have hkS : ∀ q, S2 q → q < w2.heap.size → W5.heap[q]? = w2.heap[q]? := fun q hq hlt => hkk q hlt (HS2.out q hq).2.2.2.1 (HS2.out q hq).2.2.1
  have hkF : ∀ q, F2 q → q < w2.heap.size → W5.heap[q]? = w2.heap[q]? := fun q hq hlt => hkk q hlt (HF2.out q hq).2.2.2 (HF2.out q hq).2.2.1
  refine ⟨_, F2, S2, rfl, ⟨_, _, rfl, rfl, Hrc.out.keep hkS, Hov.out.keep hkS⟩, ⟨?_, ?_, (Hd2.out.more HSS2.out).keep hkF hkS, fun hf => (HF2.out _ hf).2.1 rfl, fun hf => (HF2.out _ hf).2.2.1 rfl, fun q hq => ⟨(HS2.out q hq).2.1, (HS2.out q hq).2.2.1⟩⟩, L5.out.chg, fun q hq => (HF2.out q hq).1.elim .inl (fun h => .inr ⟨h.1, by omega⟩), HSS2.out, fun q hq => (HS2.out q hq).1.elim .inl (fun h => .inr ⟨h.1, by omega⟩), HSF2.out⟩
  · exact (hkk bv (by omega) (by omega) H.out.ne).trans Hrow2.out
  · refine ⟨_, (Hm4.out.keep (hc5.out.block bt (by omega) (fun e => hwt e.symm))).mono (Nat.le_succ n), fun j hj => ?_⟩
    show upd f (tagOf r3) 0 j = upd v.tries (tagOf r3) 0 j
    unfold upd
    split
    · rfl
    · exact Hfv.out j hj
end Go.Proofs.Ytojmnfelecnenaa
namespace Go.Proofs.Ytojmnfelecnenaa
set_option linter.unusedSimpArgs false
set_option linter.unusedVariables false
open Go.RowKit

set_option maxRecDepth 100000 in
set_option maxHeartbeats 4000000 in
theorem drvend_gone (S F : Nat → Prop) (w : World) (bv bd bt n k : Nat) (v : Drv) (r : Rq) (h : DrvAt TDp TPp TVp S F w bv bd bt n v) (hk : v.d.l[k]? = some r) (hok : DvOk v.d) (hwl : v.d.waits.length ≤ 900000000) (hn : n ≤ 900000000) (htr : ∀ j, i64 j → 0 ≤ v.tries j ∧ v.tries j ≤ 2)
    (h3 : ¬ v.tries (tagOf r) + 1 < 3)
    (hF : ∀ k, F k → k < w.heap.size) (hSF : ∀ k, S k → ¬ F k) (hSlt : ∀ k, S k → k < w.heap.size) :
    Calls Try.prog 57 #[.pointer (some ⟨bv, 0, none⟩), .int .i64 (k : Int), .bool true] w (RetDrv TDp TPp TVp S F w bv bd bt n ⟨v.d.drop k, upd v.tries (tagOf r) 0⟩ ⟨r, [], 8⟩ true .nilIface) := by
  have hr := reqF_zero (hok.l r (List.mem_of_getElem? hk))
  have hbv := (Array.getElem?_eq_some_iff.1 h.row).1
  have c0 : ∀ o, (w.alloc o).cell? ⟨bv, 0, none⟩ = some (.pointer (some ⟨bd, 0, none⟩)) := fun o => by rw [World.cell?_alloc_lt _ _ _ hbv, cell_of_row _ _ _ _ _ _ h.row]; rfl
  have H := Lib.hid h
  have Hk := Lib.hid hk
  have Hok := Lib.hid hok
  have Hr := Lib.hid hr
  have HF := Lib.hid hF
  have HS := Lib.hid hSF
  have Hlt := Lib.hid hSlt
  have hq : v.d.ended r k true = (v.d.drop k, ⟨r, [], 8⟩) := if_pos rfl
  have Hq := Lib.hid hq
  obtain ⟨rr, hrr⟩ : ∃ x, r = x := ⟨_, rfl⟩
  subst hrr
  obtain ⟨d', hd'⟩ : ∃ x, v.d.drop k = x := ⟨_, rfl⟩
  rw [hd'] at Hq ⊢
  have Hd' := Lib.hid hd'
  clear hd'
  clear h hk hok hr hF hSF hSlt hq
  go_enter Try.func57, Try.ntmps57
  go_wp2_with fail
  have L := (LayF.refl (fun k => F k ∨ k = bt) w).alloc' w.heap.size zeroRsV 109 rfl
  have hb1 : Below w.heap.size w _ := (Below.refl w.heap.size w).alloc (Nat.le_refl _) (.cells zeroRsV 109)
  have hs1 : (w.alloc (.cells zeroRsV 109)).heap.size = w.heap.size + 1 := by simp
  generalize World.alloc _ _ = W1 at L hb1 hs1 ⊢
  have hd1 := H.out.below hb1
  refine (devend_some S F W1 bd v.d k r true hd1.dev Hk.out Hr.out Hok.out.two (by omega) Hok.out.nowM (fun k hk => by have := HF.out k hk; omega) HS.out (fun k hk => by have := Hlt.out k hk; omega)).mono ?_
  rw [Hq.out]
  rintro e w2 ⟨x2, F2, S2, rfl, hrs, hd2, hc2, _, hF2, hSS2, hS2, hSF2⟩
  simp only at hrs hd2 ⊢
  obtain ⟨rc, ov, ev, erc, hrc, hov⟩ := hrs
  obtain ⟨r3, rdv, rtv⟩ := rc
  simp only at erc ev hov
  obtain ⟨Bd, bd7, e1, _, _⟩ := hrc.data.form
  obtain ⟨Bt, bt7, e2, _, _⟩ := hrc.tags.form
  obtain ⟨Bo, bo7, e3, _, _⟩ := hov.form
  simp only at e1 e2
  subst e1 e2 e3 ev
  subst erc
  obtain ⟨tb, to, rfl, htc, hti, htl, hSt, htb⟩ := tag_cell hrc.tags Hr.out
  have hL2 := L.chg2 hc2 (fun k hk => .inl (.inl hk)) (fun x hx hf => by
    simp only [List.mem_cons, List.not_mem_nil, or_false] at hx
    subst hx
    have := HF.out _ hf
    simp only at this
    omega)
  obtain ⟨f, hmf, hfv⟩ := H.out.map
  have hbt := hmf.lt
  have HL2 := Lib.hid hL2
  have HT : Hid (w2.there w.heap.size 0 (#[Value.bool r3.write, .int .i64 r3.lo, .int .i64 r3.many, .slice Bd r3.data.length bd7, .slice (some ⟨tb, to, none⟩) r3.tags.length bt7, .int .i64 r3.born, .slice Bo 0 bo7, .int .i64 8] : Array Value).size) := hL2.there 0 rfl _ rfl
  have Hi : Hid ((Try.prog.info? 109).map (·.size) = some (#[Value.bool r3.write, .int .i64 r3.lo, .int .i64 r3.many, .slice Bd r3.data.length bd7, .slice (some ⟨tb, to, none⟩) r3.tags.length bt7, .int .i64 r3.born, .slice Bo 0 bo7, .int .i64 8] : Array Value).size) := resInfo
  have Hz : Hid ((#[Value.bool r3.write, .int .i64 r3.lo, .int .i64 r3.many, .slice Bd r3.data.length bd7, .slice (some ⟨tb, to, none⟩) r3.tags.length bt7, .int .i64 r3.born, .slice Bo 0 bo7, .int .i64 8] : Array Value).all (·.oneCell') = true) := one8 _ _ _ _ _ _ _ _ _ _ _ _ _ _
  have hb2 : ∀ q, q < w.heap.size → ¬ F q → w2.heap[q]? = w.heap[q]? := fun q hq hf => (hc2.block q (by omega) hf).trans (hb1.block q hq)
  have Hrow2 := Lib.hid ((hb2 bv hbv H.out.nv).trans H.out.row)
  have Hmap2 := Lib.hid (hmf.keep (hb2 bt hbt H.out.nt))
  have Hfv := Lib.hid hfv
  have htw : tb ≠ w.heap.size := fun e => by rcases hS2 tb hSt with h | h; have := Hlt.out _ h; omega; omega
  have htt : tb ≠ bt := fun e => by
    rcases hS2 tb hSt with h | h
    · exact (H.out.sv tb h).2 e
    · omega
  have Htc := Lib.hid htc
  have Hrc := Lib.hid hrc
  have Hov := Lib.hid hov
  have Hd2 := Lib.hid hd2
  have Hc2 := Lib.hid ((Chg.of_below (F := F) hb1).trans (hc2.mono (fun q h => .inl h)))
  have HF2 : Hid (∀ q, F2 q → Grow F w w2 q ∧ q ≠ bv ∧ q ≠ bt ∧ q ≠ w.heap.size) := fun q hq => by
    rcases hF2 q hq with h | h
    · exact ⟨.inl h, fun e => H.out.nv (e ▸ h), fun e => H.out.nt (e ▸ h), fun e => by have := HF.out q h; omega⟩
    · exact ⟨.inr ⟨by omega, h.2⟩, by omega, by omega, by omega⟩
  have HS2 : Hid (∀ q, S2 q → Grow S w w2 q ∧ q ≠ bv ∧ q ≠ bt ∧ q ≠ w.heap.size ∧ q < w2.heap.size) := fun q hq => by
    rcases hS2 q hq with h | h
    · exact ⟨.inl h, (H.out.sv q h).1, (H.out.sv q h).2, by have := Hlt.out q h; omega, by have := Hlt.out q h; have := hc2.size; omega⟩
    · exact ⟨.inr ⟨by omega, h.2⟩, by omega, by omega, by omega, h.2⟩
  have HSF2 := Lib.hid hSF2
  have HSS2 := Lib.hid hSS2
  have hz12 := hc2.size
  have hwt : w.heap.size ≠ bt := by omega
  clear hL2 L hb1 hrc hov hd2 hc2 hF2 hSS2 hS2 hSF2 hmf hfv hb2 htc c0 hd1 hSt
  have htb2 := htr _ hti
  have hadd : IntKind.i64.wrap (v.tries (tagOf r3) + 1) = v.tries (tagOf r3) + 1 := IntWalk.i64_in _ (by omega)
  have hvi : i64 (v.tries (tagOf r3) + 1) := by unfold i64; omega
  go_wp2_with (first
    | (refine wpList_store_mid rfl 109 (.tmp 6) (.tmp 18) rfl w.heap.size 0 #[Value.bool r3.write, .int .i64 r3.lo, .int .i64 r3.many, .slice Bd r3.data.length bd7, .slice (some ⟨tb, to, none⟩) r3.tags.length bt7, .int .i64 r3.born, .slice Bo (0 : Nat) bo7, .int .i64 8] rfl rfl HT.out Hi.out Hz.out ?_
       have L3 := Lib.hid (HL2.out.put 0 rfl #[Value.bool r3.write, .int .i64 r3.lo, .int .i64 r3.many, .slice Bd r3.data.length bd7, .slice (some ⟨tb, to, none⟩) r3.tags.length bt7, .int .i64 r3.born, .slice Bo 0 bo7, .int .i64 8] rfl)
       have hc3 : Hid (Chg (fun q => q = w.heap.size) w2 (w2.setCells w.heap.size 0 (#[Value.bool r3.write, .int .i64 r3.lo, .int .i64 r3.many, .slice Bd r3.data.length bd7, .slice (some ⟨tb, to, none⟩) r3.tags.length bt7, .int .i64 r3.born, .slice Bo 0 bo7, .int .i64 8] : Array Value).toList)) := Chg.setCells (F := fun q => q = w.heap.size) (w := w2) Chg.refl (.inl rfl) 0 (#[Value.bool r3.write, .int .i64 r3.lo, .int .i64 r3.many, .slice Bd r3.data.length bd7, .slice (some ⟨tb, to, none⟩) r3.tags.length bt7, .int .i64 r3.born, .slice Bo 0 bo7, .int .i64 8] : Array Value).toList
       generalize World.setCells _ _ _ _ = W3 at L3 hc3 ⊢
       obtain ⟨p0, p1, p2, p3, p4, p5, p6, p7⟩ := L3.out.c8 0 rfl
       have ht3 : W3.cell? ⟨tb, to, none⟩ = _ := (World.cell?_of_block (w := w2) (hc3.out.block tb htb htw)).trans Htc.out
       have hrow3 := (hc3.out.block bv (by omega) (by omega)).trans Hrow2.out
       have cbt : W3.cell? ⟨bv, 1, none⟩ = some (.map (some bt)) := by rw [cell_of_row _ _ _ _ _ _ hrow3]; rfl
       have Hrow3 := Lib.hid hrow3
       have Hmap3 := Lib.hid (Hmap2.out.keep (hc3.out.block bt (by omega) (by omega)))
       have hlk := Hmap3.out.lookup hti
       rw [Hfv.out _ hti] at hlk
       clear hrow3)
    | (at_mapUpdate; refine wpList_upd _ rfl (.tmp 41) (.tmp 42) (.tmp 44) rfl bt n f (tagOf r3) (v.tries (tagOf r3) + 1) rfl rfl rfl Hmap3.out hti hvi (by omega) ?_
       intro w4 hm4 hg4
       have L4 := Lib.hid (L3.out.grown hg4 (.inr rfl) (fun x hx => by simp at hx; subst hx; exact hwt))
       obtain ⟨y0, y1, y2, y3, y4, y5, y6, y7⟩ := L4.out.c8 0 rfl
       have hlk4 := hm4.lookup hti
       rw [show upd f (tagOf r3) (v.tries (tagOf r3) + 1) (tagOf r3) = v.tries (tagOf r3) + 1 from if_pos rfl] at hlk4
       have hrow4 := (hg4.block bv (by have := hc3.out.size; omega) (fun e => H.out.ne (by injection e))).trans Hrow3.out
       have cbt4 : w4.cell? ⟨bv, 1, none⟩ = some (.map (some bt)) := by rw [cell_of_row _ _ _ _ _ _ hrow4]; rfl
       have cbd4 : w4.cell? ⟨bv, 0, none⟩ = some (.pointer (some ⟨bd, 0, none⟩)) := by rw [cell_of_row _ _ _ _ _ _ hrow4]; rfl
       have HT4 : Hid (w4.there w.heap.size 0 (#[Value.bool r3.write, .int .i64 r3.lo, .int .i64 r3.many, .slice Bd r3.data.length bd7, .slice (some ⟨tb, to, none⟩) r3.tags.length bt7, .int .i64 r3.born, .slice Bo 0 bo7, .int .i64 8] : Array Value).size) := L4.out.there 0 rfl _ rfl
       have Hm4 := Lib.hid hm4
       have Hg4 := Lib.hid hg4
       clear hm4 hg4 p0 p1 p2 p3 p4 p5 p6 p7 hlk hrow4)
    | (at_delete; refine wpList_drop _ rfl (.tmp 63) (.tmp 64) rfl bt (n + 1) _ (tagOf r3) rfl rfl Hm4.out hti ?_
       intro w5 hm5 hg5
       have L5 := Lib.hid (L4.out.grown hg5 (.inr rfl) (fun x hx => by simp at hx; subst hx; exact hwt))
       clear y0 y1 y2 y3 y4 y5 y6 y7
       obtain ⟨u0, u1, u2, u3, u4, u5, u6, u7⟩ := L5.out.c8 0 rfl
       have HT5 : Hid (w5.there w.heap.size 0 (#[Value.bool r3.write, .int .i64 r3.lo, .int .i64 r3.many, .slice Bd r3.data.length bd7, .slice (some ⟨tb, to, none⟩) r3.tags.length bt7, .int .i64 r3.born, .slice Bo 0 bo7, .int .i64 8] : Array Value).size) := L5.out.there 0 rfl _ rfl
       have Hm5 := Lib.hid hm5
       have Hg5 := Lib.hid hg5
       clear hm5 hg5)
    | (refine wpList_store_mid rfl 109 (.tmp 6) (.tmp 65) rfl w.heap.size 0 #[Value.bool r3.write, .int .i64 r3.lo, .int .i64 r3.many, .slice Bd r3.data.length bd7, .slice (some ⟨tb, to, none⟩) r3.tags.length bt7, .int .i64 r3.born, .slice Bo 0 bo7, .int .i64 8] rfl rfl HT5.out Hi.out Hz.out ?_
       have L6 := Lib.hid (L5.out.put 0 rfl #[Value.bool r3.write, .int .i64 r3.lo, .int .i64 r3.many, .slice Bd r3.data.length bd7, .slice (some ⟨tb, to, none⟩) r3.tags.length bt7, .int .i64 r3.born, .slice Bo 0 bo7, .int .i64 8] rfl)
       have hc6 : Hid (Chg (fun q => q = w.heap.size) w5 (w5.setCells w.heap.size 0 (#[Value.bool r3.write, .int .i64 r3.lo, .int .i64 r3.many, .slice Bd r3.data.length bd7, .slice (some ⟨tb, to, none⟩) r3.tags.length bt7, .int .i64 r3.born, .slice Bo 0 bo7, .int .i64 8] : Array Value).toList)) := Chg.setCells (F := fun q => q = w.heap.size) (w := w5) Chg.refl (.inl rfl) 0 (#[Value.bool r3.write, .int .i64 r3.lo, .int .i64 r3.many, .slice Bd r3.data.length bd7, .slice (some ⟨tb, to, none⟩) r3.tags.length bt7, .int .i64 r3.born, .slice Bo 0 bo7, .int .i64 8] : Array Value).toList
       generalize World.setCells _ _ _ _ = W6 at L6 hc6 ⊢
       clear u0 u1 u2 u3 u4 u5 u6 u7
       obtain ⟨z0, z1, z2, z3, z4, z5, z6, z7⟩ := L6.out.c8 0 rfl))
  refine bodyPost_ret (v := .tuple #[.agg #[Value.bool r3.write, .int .i64 r3.lo, .int .i64 r3.many, .slice Bd r3.data.length bd7, .slice (some ⟨tb, to, none⟩) r3.tags.length bt7, .int .i64 r3.born, .slice Bo 0 bo7, .int .i64 8], .bool true, .nilIface]) (by simp [results, Try.results57, go_sem, z0, z1, z2, z3, z4, z5, z6, z7]) rfl ?_
  have hsz3 : w2.heap.size ≤ W3.heap.size := hc3.out.size
  have hsz4 : W3.heap.size ≤ w4.heap.size := Hg4.out.size
  have hsz5 : w4.heap.size ≤ w5.heap.size := Hg5.out.size
  have hsz6 : w5.heap.size ≤ W6.heap.size := hc6.out.size
  have hkk : ∀ q, q < w2.heap.size → q ≠ w.heap.size → q ≠ bt → W6.heap[q]? = w2.heap[q]? := fun q hq h1 h2 =>
    (((hc6.out.block q (by omega) h1).trans (Hg5.out.block q (by omega) (fun e => h2 (by injection e)))).trans (Hg4.out.block q (by omega) (fun e => h2 (by injection e)))).trans (hc3.out.block q hq h1)
  have hkS : ∀ q, S2 q → q < w2.heap.size → W6.heap[q]? = w2.heap[q]? := fun q hq hlt => hkk q hlt (HS2.out q hq).2.2.2.1 (HS2.out q hq).2.2.1
  have hkF : ∀ q, F2 q → q < w2.heap.size → W6.heap[q]? = w2.heap[q]? := fun q hq hlt => hkk q hlt (HF2.out q hq).2.2.2 (HF2.out q hq).2.2.1
  refine ⟨_, F2, S2, rfl, ⟨_, _, rfl, rfl, Hrc.out.keep hkS, Hov.out.keep hkS⟩, ⟨?_, ?_, (Hd2.out.more HSS2.out).keep hkF hkS, fun hf => (HF2.out _ hf).2.1 rfl, fun hf => (HF2.out _ hf).2.2.1 rfl, fun q hq => ⟨(HS2.out q hq).2.1, (HS2.out q hq).2.2.1⟩⟩, L6.out.chg, fun q hq => (HF2.out q hq).1.elim .inl (fun h => .inr ⟨h.1, by omega⟩), HSS2.out, fun q hq => (HS2.out q hq).1.elim .inl (fun h => .inr ⟨h.1, by omega⟩), HSF2.out⟩
  · exact (hkk bv (by omega) (by omega) H.out.ne).trans Hrow2.out
  · refine ⟨_, Hm5.out.keep (hc6.out.block bt (by omega) (fun e => hwt e.symm)), fun j hj => ?_⟩
    show upd (upd f (tagOf r3) _) (tagOf r3) 0 j = upd v.tries (tagOf r3) 0 j
    unfold upd
    split
    · rfl
    · exact Hfv.out j hj

end Go.Proofs.Ytojmnfelecnenaa
