
/- The disk's pure model: what is for good, what is now, what isn't for good yet, and the requests that it has. -/
import Derived.Test.YtdhiepcglnbkbaaMod
namespace Go.Proofs.Ytdhiepcglnbkbaa

structure Dv where
  kept : List ByteArray
  now : List ByteArray
  waits : List (Nat × ByteArray)
  l : List Rq
/-- What came of a request. -/
structure Rs where
  req : Rq
  data : List ByteArray
  err : Nat
def zeroRqM : Rq := ⟨false, 0, 0, [], [], 0⟩
def zeroRs : Rs := ⟨zeroRqM, [], 0⟩

namespace Dv
def new : Dv := ⟨List.replicate 32 ⟨#[]⟩, List.replicate 32 ⟨#[]⟩, [], []⟩
def start (d : Dv) (r : Rq) : Dv × Nat := if d.l.length = 2 then (d, 7) else ({ d with l := d.l ++ [r] }, 0)
def put (d : Dv) (p : Nat) (s : ByteArray) : Dv := { d with now := d.now.set p s, waits := d.waits ++ [(p, s)] }
def wrote : Dv → Nat → List ByteArray → Dv
  | d, _, [] => d
  | d, p, s :: l => (d.put p s).wrote (p + 1) l
def reads (d : Dv) (p n : Nat) : List ByteArray := (d.now.drop p).take n
def drop (d : Dv) (i : Nat) : Dv := { d with l := d.l.eraseIdx i }
/-- A request is ended: what the disk has then, what came of it. -/
def ended (d : Dv) (r : Rq) (i : Nat) (fault : Bool) : Dv × Rs :=
  if fault then (d.drop i, ⟨r, [], 8⟩)
  else if r.write then ((d.drop i).wrote r.lo.toNat r.data, ⟨r, [], 0⟩)
  else (d.drop i, ⟨r, d.reads r.lo.toNat r.many.toNat, 0⟩)
def endAt (d : Dv) (i : Int) (fault : Bool) : Dv × Rs × Nat :=
  if i < 0 then (d, zeroRs, 5) else match d.l[i.toNat]? with
    | none => (d, zeroRs, 5)
    | some r => ((d.ended r i.toNat fault).1, (d.ended r i.toNat fault).2, 0)
def flush (d : Dv) : Dv := { d with kept := d.now, waits := [] }
def bit (keep i : Nat) : Bool := keep / 2 ^ (i % 64) % 2 == 1
def keepFrom (keep : Nat) : List ByteArray → List (Nat × ByteArray) → Nat → List ByteArray
  | k, [], _ => k
  | k, (p, s) :: l, i => keepFrom keep (if bit keep i then k.set p s else k) l (i + 1)
def crash (d : Dv) (keep : Nat) : Dv := ⟨keepFrom keep d.kept d.waits 0, keepFrom keep d.kept d.waits 0, [], []⟩
def peek (d : Dv) (i : Nat) : ByteArray := d.now.getD i ⟨#[]⟩
theorem wrote_app (s : ByteArray) : ∀ (l : List ByteArray) (d : Dv) (p : Nat), d.wrote p (l ++ [s]) = (d.wrote p l).put (p + l.length) s
  | [], d, p => by simp [wrote]
  | x :: l, d, p => by
    simp only [List.cons_append, wrote, List.length_cons]
    rw [wrote_app s l]
    congr 1
    omega
theorem wrote_succ {d : Dv} {p k : Nat} {l : List ByteArray} {s : ByteArray} (h : l[k]? = some s) : d.wrote p (l.take (k + 1)) = (d.wrote p (l.take k)).put (p + k) s := by
  have hk := (List.getElem?_eq_some_iff.1 h).1
  rw [List.take_add_one, h, Option.toList_some, wrote_app, List.length_take, Nat.min_eq_left (by omega)]
theorem wrote_same : ∀ (l : List ByteArray) (d : Dv) (p : Nat), (d.wrote p l).kept = d.kept ∧ (d.wrote p l).l = d.l ∧ (d.wrote p l).now.length = d.now.length ∧ (d.wrote p l).waits.length = d.waits.length + l.length
  | [], d, p => by simp [wrote]
  | x :: l, d, p => by
    obtain ⟨h1, h2, h3, h4⟩ := wrote_same l (d.put p x) (p + 1)
    simp only [wrote]
    refine ⟨h1, h2, by rw [h3]; simp [put], by rw [h4]; simp [put]; omega⟩
end Dv

namespace Dv
theorem keepFrom_app (keep p : Nat) (s : ByteArray) : ∀ (l : List (Nat × ByteArray)) (K : List ByteArray) (i : Nat), keepFrom keep K (l ++ [(p, s)]) i = if bit keep (i + l.length) then (keepFrom keep K l i).set p s else keepFrom keep K l i
  | [], K, i => by simp [keepFrom]
  | (q, u) :: l, K, i => by
    simp only [List.cons_append, keepFrom, List.length_cons]
    rw [keepFrom_app keep p s l, show i + 1 + l.length = i + (l.length + 1) by omega]
theorem keepFrom_succ {keep k p : Nat} {s : ByteArray} {l : List (Nat × ByteArray)} {K : List ByteArray} (h : l[k]? = some (p, s)) : keepFrom keep K (l.take (k + 1)) 0 = if bit keep k then (keepFrom keep K (l.take k) 0).set p s else keepFrom keep K (l.take k) 0 := by
  have hk := (List.getElem?_eq_some_iff.1 h).1
  rw [List.take_add_one, h, Option.toList_some, keepFrom_app, List.length_take, Nat.min_eq_left (by omega), Nat.zero_add]
theorem keepFrom_len (keep : Nat) : ∀ (l : List (Nat × ByteArray)) (K : List ByteArray) (i : Nat), (keepFrom keep K l i).length = K.length
  | [], _, _ => rfl
  | (p, s) :: l, K, i => by
    rw [keepFrom, keepFrom_len keep l]
    split <;> simp
end Dv
/-- What a disk has may be so. -/
structure DvOk (d : Dv) : Prop where
  kept : d.kept.length = 32
  now : d.now.length = 32
  keptS : ∀ s ∈ d.kept, s.size ≤ 16
  nowS : ∀ s ∈ d.now, s.size ≤ 16
  waits : ∀ p ∈ d.waits, p.1 < 32 ∧ p.2.size ≤ 16
  l : ∀ r ∈ d.l, reqF r = 0
  two : d.l.length ≤ 2
