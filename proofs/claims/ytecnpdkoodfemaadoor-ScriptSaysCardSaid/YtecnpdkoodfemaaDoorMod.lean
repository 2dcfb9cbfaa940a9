
/- The model: requests, turns, and what is worked out of them, in plain numbers and lists. -/
import Derived.Test.YtecnpdkoodfemaaDoorFacts
namespace Go.Proofs.YtecnpdkoodfemaaDoor
open Go.RowKit

structure Rq where
  write : Bool
  lo : Int
  many : Int
  data : List ByteArray
  tags : List Int
  born : Int
  deriving DecidableEq, Inhabited

def lightReq (r : Rq) : Bool := decide (r.data.length ≤ 8) && decide (r.tags.length ≤ 8) && r.data.all (fun s => decide (s.size ≤ 10))
def lightReqs (l : List Rq) : Bool := decide (l.length ≤ 10) && l.all lightReq

/-- The first one of the least key, among the first k, of those that are ok; below 0: there is none. -/
def bestOf (ok : Rq → Bool) (key : Rq → Int) (l : List Rq) : Nat → Int
  | 0 => -1
  | k + 1 => match l[k]? with
    | none => bestOf ok key l k
    | some r => if ok r && (decide (bestOf ok key l k < 0) || decide (key r < key (l.getD (bestOf ok key l k).toNat default))) then (k : Int) else bestOf ok key l k
theorem bestOf_range (ok : Rq → Bool) (key : Rq → Int) (l : List Rq) : ∀ k, -1 ≤ bestOf ok key l k ∧ bestOf ok key l k < k
  | 0 => by simp [bestOf]
  | k + 1 => by
    have ih := bestOf_range ok key l k
    unfold bestOf
    split
    · omega
    · split <;> omega
theorem bestOf_no {ok : Rq → Bool} {key : Rq → Int} {l : List Rq} {k : Nat} {r : Rq} (h : l[k]? = some r) (ho : ok r = false) : bestOf ok key l (k + 1) = bestOf ok key l k := by
  rw [bestOf, h]; simp [ho]
theorem bestOf_first {ok : Rq → Bool} {key : Rq → Int} {l : List Rq} {k : Nat} {r : Rq} (h : l[k]? = some r) (ho : ok r = true) (hb : bestOf ok key l k < 0) : bestOf ok key l (k + 1) = k := by
  rw [bestOf, h]; simp [ho, hb]
theorem bestOf_less {ok : Rq → Bool} {key : Rq → Int} {l : List Rq} {k j : Nat} {r r' : Rq} (h : l[k]? = some r) (ho : ok r = true) (hb : bestOf ok key l k = j) (hj : l[j]? = some r') (hk : key r < key r') : bestOf ok key l (k + 1) = k := by
  have e : l.getD j default = r' := by rw [List.getD_eq_getElem?_getD, hj]; rfl
  rw [bestOf, h, hb]; simp only [Int.toNat_natCast, e]; simp [ho, hk]
theorem bestOf_more {ok : Rq → Bool} {key : Rq → Int} {l : List Rq} {k j : Nat} {r r' : Rq} (h : l[k]? = some r) (hb : bestOf ok key l k = j) (hj : l[j]? = some r') (hk : ¬ key r < key r') : bestOf ok key l (k + 1) = j := by
  have e : l.getD j default = r' := by rw [List.getD_eq_getElem?_getD, hj]; rfl
  rw [bestOf, h, hb]; simp only [Int.toNat_natCast, e]; simp; intro _ h2; omega
def oldest (l : List Rq) (write : Bool) : Int := bestOf (fun r => r.write == write) (·.born) l l.length
def fromI (l : List Rq) (write : Bool) (at_ : Int) : Int := bestOf (fun r => r.write == write && decide (at_ ≤ r.lo)) (·.lo) l l.length

def SpanOk (f m most : Int) : Prop := 0 ≤ f ∧ f ≤ 31 ∧ 1 ≤ m ∧ m ≤ most ∧ m ≤ 32 - f
instance (f m most : Int) : Decidable (SpanOk f m most) := by unfold SpanOk; infer_instance
def spanF (f m most : Int) : Nat := if SpanOk f m most then 0 else 1
theorem spanF_pos {f m most : Int} (h : SpanOk f m most) : spanF f m most = 0 := if_pos h
theorem spanF_neg {f m most : Int} (h : ¬ SpanOk f m most) : spanF f m most = 1 := if_neg h
theorem spanF_zero {f m most : Int} (h : spanF f m most = 0) : SpanOk f m most := by
  by_cases c : SpanOk f m most
  · exact c
  · rw [spanF_neg c] at h; cases h

def shapeOk (r : Rq) : Prop := if r.write then (r.data.length : Int) = r.many else r.data.length = 0
instance (r : Rq) : Decidable (shapeOk r) := by unfold shapeOk; infer_instance
def tagsOk (r : Rq) : Prop := 1 ≤ r.tags.length ∧ r.tags.length ≤ 4
instance (r : Rq) : Decidable (tagsOk r) := by unfold tagsOk; infer_instance
def bornOk (r : Rq) : Prop := 0 ≤ r.born ∧ r.born ≤ 1000000000
instance (r : Rq) : Decidable (bornOk r) := by unfold bornOk; infer_instance
def dataOk (r : Rq) : Bool := r.data.all (fun s => decide (s.size ≤ 4))
/-- What is wrong with a request (0: nothing). -/
def reqF (r : Rq) : Nat := if SpanOk r.lo r.many 4 then if shapeOk r then if tagsOk r then if bornOk r then if dataOk r then 0 else 1 else 1 else 3 else 3 else 1
structure ReqOk (r : Rq) : Prop where
  span : SpanOk r.lo r.many 4
  shape : shapeOk r
  tags : tagsOk r
  born : bornOk r
  data : dataOk r = true
theorem reqF_ok {r : Rq} (h : ReqOk r) : reqF r = 0 := by
  unfold reqF; rw [if_pos h.span, if_pos h.shape, if_pos h.tags, if_pos h.born, if_pos h.data]
theorem reqF_span {r : Rq} (h : ¬ SpanOk r.lo r.many 4) : reqF r = 1 := by unfold reqF; rw [if_neg h]
theorem reqF_shape {r : Rq} (h : SpanOk r.lo r.many 4) (h1 : ¬ shapeOk r) : reqF r = 3 := by unfold reqF; rw [if_pos h, if_neg h1]
theorem reqF_tags {r : Rq} (h : SpanOk r.lo r.many 4) (h1 : shapeOk r) (h2 : ¬ tagsOk r) : reqF r = 3 := by unfold reqF; rw [if_pos h, if_pos h1, if_neg h2]
theorem reqF_born {r : Rq} (h : SpanOk r.lo r.many 4) (h1 : shapeOk r) (h2 : tagsOk r) (h3 : ¬ bornOk r) : reqF r = 1 := by unfold reqF; rw [if_pos h, if_pos h1, if_pos h2, if_neg h3]
theorem reqF_data {r : Rq} (h : SpanOk r.lo r.many 4) (h1 : shapeOk r) (h2 : tagsOk r) (h3 : bornOk r) (h4 : dataOk r = false) : reqF r = 1 := by unfold reqF; rw [if_pos h, if_pos h1, if_pos h2, if_pos h3, h4]; rfl
theorem reqF_zero {r : Rq} (h : reqF r = 0) : ReqOk r := by
  unfold reqF at h
  split at h
  · split at h
    · split at h
      · split at h
        · split at h
          · exact ⟨‹_›, ‹_›, ‹_›, ‹_›, ‹_›⟩
          · cases h
        · cases h
      · cases h
    · cases h
  · cases h

def meetB (af am bf bm : Int) : Bool := decide (af < bf + bm) && decide (bf < af + am)
def hasB (f m a : Int) : Bool := decide (f ≤ a) && decide (a - f < m)
def apartFrom (r : Rq) (l : List Rq) : Bool := l.all (fun q => !meetB r.lo r.many q.lo q.many)
def okAt (l : List Rq) (i : Nat) : Bool := match l[i]? with
  | none => true
  | some r => decide (reqF r = 0) && apartFrom r (l.take i)
/-- May each be, and have no two a sector in common? -/
def goodReqs (l : List Rq) : Bool := (List.range l.length).all (okAt l)
theorem okAt_some {l : List Rq} {i : Nat} {r : Rq} (h : l[i]? = some r) : okAt l i = (decide (reqF r = 0) && apartFrom r (l.take i)) := by unfold okAt; rw [h]
theorem good_mem {l : List Rq} (h : goodReqs l = true) {i : Nat} {r : Rq} (hi : l[i]? = some r) : ReqOk r := by
  unfold goodReqs at h
  rw [List.all_eq_true] at h
  have hlt : i < l.length := by
    rcases Nat.lt_or_ge i l.length with h1 | h1
    · exact h1
    · rw [List.getElem?_eq_none h1] at hi; cases hi
  have := h i (List.mem_range.2 hlt)
  rw [okAt_some hi] at this
  simp at this
  exact reqF_zero this.1
theorem range_all_succ (p : Nat → Bool) (k : Nat) : (List.range (k + 1)).all p = ((List.range k).all p && p k) := by
  rw [List.range_succ, List.all_append]; simp
theorem SpanOk.more {f m a b : Int} (h : SpanOk f m a) (hab : a ≤ b) : SpanOk f m b := ⟨h.1, h.2.1, h.2.2.1, by have := h.2.2.2.1; omega, h.2.2.2.2⟩

structure Tn where
  write : Bool
  gone : Int
  starved : Int
  wh : Int
  deriving DecidableEq, Inhabited
def limit (b : Bool) : Int := if b then 8 else 4
/-- Has one waited too long? -/
def expB (r : Rq) (now : Int) : Bool := decide (limit r.write ≤ now - r.born)
/-- Whose turn is next. -/
def turnedM (l : List Rq) (t : Tn) : Tn :=
  if 0 ≤ oldest l false ∧ ¬ 0 ≤ oldest l true then { t with gone := 0, write := false }
  else if 0 ≤ oldest l true ∧ (¬ 0 ≤ oldest l false ∨ 2 ≤ t.starved) then { t with gone := 0, write := true, starved := 0 }
  else { t with gone := 0, write := false, starved := t.starved + 1 }
end Go.Proofs.YtecnpdkoodfemaaDoor
