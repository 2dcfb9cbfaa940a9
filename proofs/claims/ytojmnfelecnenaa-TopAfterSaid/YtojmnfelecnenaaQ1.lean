/- Closed facts on the program's types, and the words in which the contracts are said. From a law's walk to its row: whatever the arguments, the call returns true and writes nothing that was there. The model: requests, turns, and what is worked out of them, in plain numbers and lists. How lists of texts, of numbers and of requests lie in memory. The arguments of the laws, opened: turns, requests, lists of requests. The blocks in which a list lies: fewer, more. Arguments that are steps of a stack: how they lie, and opened. Regions that draw their order, whose callees make memory alone. append onto a row of the call's own, of what lies anywhere. slices.Clone of requests. clear of the tail of a row, whatever the size of its elements. slices.Delete of one request, out of a row of the call's own. queue.Take: the requests without one, and that one. slices.Concat of two lists of texts, or numbers: a row of the call's own. The package span and the reference's spans: what each function returns, at spans that may be. -/
import Derived.Test.YtojmnfelecnenaaRows
import Derived.WalkKit
import Derived.WalkLawsBesides
import Derived.WalkSpells
import Derived.Lib.Hide
import Derived.WideLaws
import Derived.LaidEql
import Derived.Deep.QuietTactic
import Derived.BigQuiet
import Derived.Deep.RegionWith
import Derived.ProofKit
import Derived.OpenShut
import Derived.Lib.SmallJoins
import Derived.Deep.Slices
import Derived.Deep.Fields
import Derived.SliceStrings
import Derived.Lib.QuietBelow
import Derived.Maps.AppendAt
import Derived.Deep.AppendLies
import Derived.Outline
import Derived.Deep.RegionLaw
import Derived.Deep.RegionHeld3
import Derived.Lib.AppendZerosOnto
import Derived.Lib.AppendZeros
namespace Go.Proofs.Ytojmnfelecnenaa
open Go.RowKit

theorem errIface : Try.prog.underlying 30 = some (.interface (Try.prog.methodsAt 30)) := by kernel_rfl
@[go_sem] theorem err_held_nil (u : TypeId) (x : Value) (w : World) : (binOp .eql 30 (.iface u x) .nilIface).run Try.prog w = .ok (.bool false) w := run_eql_held_nil _ _ _ _ errIface
@[go_sem] theorem err_held_nil' (u : TypeId) (x : Value) (w : World) : (binOp .neq 30 (.iface u x) .nilIface).run Try.prog w = .ok (.bool true) w := run_neq_held_nil _ _ _ _ errIface
@[go_sem] theorem err_nil_nil (w : World) : (binOp .eql 30 .nilIface .nilIface).run Try.prog w = .ok (.bool true) w := run_eql_nil_nil _ _ errIface
@[go_sem] theorem err_nil_nil' (w : World) : (binOp .neq 30 .nilIface .nilIface).run Try.prog w = .ok (.bool false) w := run_neq_nil_nil _ _ errIface
@[go_sem] theorem err_assert (x : Value) (w : World) : (Instr.typeAssert (.iface 78 x) 30 78 true).run Try.prog w = .ok (.tuple #[x, .bool true]) w := by kernel_rfl

abbrev spanV (f m : Int) : Value := .agg #[.int .i64 f, .int .i64 m]
def errV (n : Nat) : Value := if n = 0 then .nilIface else .iface 78 (.int .i64 n)
theorem errV_zero : errV 0 = .nilIface := rfl
theorem errV_pos {n : Nat} (h : n ≠ 0) : errV n = .iface 78 (.int .i64 n) := if_neg h
@[go_sem] theorem errV_eql (n : Nat) (w : World) : (binOp .eql 30 (errV n) .nilIface).run Try.prog w = .ok (.bool (n == 0)) w := by
  by_cases h : n = 0
  · subst h; exact err_nil_nil w
  · rw [errV_pos h, err_held_nil]; simp [h]
@[go_sem] theorem errV_neq (n : Nat) (w : World) : (binOp .neq 30 (errV n) .nilIface).run Try.prog w = .ok (.bool (!(n == 0))) w := by
  by_cases h : n = 0
  · subst h; exact err_nil_nil' w
  · rw [errV_pos h, err_held_nil']; simp [h]

@[go_sem] theorem eqGuard_err (t : TypeId) (x : Operand) (n : Nat) : eqGuard .eql t x (.const .nilIface) (errV n) .nilIface = pure () := by
  by_cases h : n = 0
  · subst h; rw [errV_zero]; simp [eqGuard]
  · rw [errV_pos h]; simp [eqGuard]
@[go_sem] theorem eqGuard_err' (t : TypeId) (x : Operand) (n : Nat) : eqGuard .neq t x (.const .nilIface) (errV n) .nilIface = pure () := by
  by_cases h : n = 0
  · subst h; rw [errV_zero]; simp [eqGuard]
  · rw [errV_pos h]; simp [eqGuard]

/-- It returns v, and writes nothing that was there. -/
def Ret (v : Value) (w : World) : Ending → World → Prop := fun e w' => e = .returned v ∧ Below w.heap.size w w'
/-- It returns v, and the world is as it was. -/
def RetSame (v : Value) (w : World) : Ending → World → Prop := fun e w' => e = .returned v ∧ w = w'
theorem RetSame.ret {v : Value} {w : World} {e : Ending} {w' : World} (h : RetSame v w e w') : Ret v w e w' := by
  obtain ⟨rfl, rfl⟩ := h; exact ⟨rfl, Below.refl _ _⟩
end Go.Proofs.Ytojmnfelecnenaa
namespace Go.Proofs.Ytojmnfelecnenaa
open Go.ChangeShapes Go.WideShapes Go.ChangeAt Go.RowKit Go.Joins

theorem own : ownKnob Try.prog.godebug = none := by kernel_rfl
theorem laidOut : laidOutB Try.prog = true := by kernel_rfl

section
variable {H : Type} {enc : TypeId × Value → H} {P : Program}
theorem post_of_below {f : Func} {s : ChangeSpec} {apart fresh handsOn again : Bool} {W W' : World} {args : Array Value} {v : Value} {ds gs : List (DataW H)} {before pa pv : List MemPlace}
    (hW : DataW.Whole enc P f.params.toList s.vars apart W args.toList ds gs before)
    (hres : ∀ (b : Nat) (sp : Nat → Bool) (hd : Bool), DataW.TrodAll enc P W' b sp hd f.resultTypes.toList (v.resultList f.resultTypes.size) (s.fn H (ds ++ gs)).results [])
    (hargs : ∀ sp : Nat → Bool, (∀ p ∈ before, sp p.block = true) → DataW.TrodAll enc P W' 0 sp true f.params.toList args.toList (s.fn H (ds ++ gs)).args pa)
    (hvars : ∀ sp : Nat → Bool, (∀ p ∈ before, sp p.block = true) → DataW.TrodVars enc P W' sp s.vars (s.fn H (ds ++ gs)).vars pv)
    (hps : before = pa ++ pv) (hb : Below W.heap.size W W')
    (hok : ∀ (j : Nat) (t : TypeId) (r : Value), f.resultTypes[j]? = some t → (v.resultList f.resultTypes.size)[j]? = some r → Value.okWide P W' .any 0 t r) :
    s.post enc P f apart fresh handsOn again W args v W' := by
  have hlt : ∀ p ∈ before, p.block < W.heap.size := fun p hp => hW.lt p hp
  have hold : ∀ p ∈ before, (fun b => decide (b < W.heap.size)) p.block = true := fun p hp => by simpa using hlt p hp
  refine ⟨ds, gs, before, [], pa, pv, hW, hres _ _ _, hargs _ hold, hvars _ hold, World.keptBut_mono (fun p hp => ⟨hp, ?_⟩) (hb.frame (· ∈ before)), fun _ => ?_⟩
  · rw [hps, List.mem_append] at hp
    exact Or.inr hp
  · obtain ⟨_, _, _, _, _, hz, hn⟩ := hW
    refine ⟨hok, _, _, ([] ++ pa) ++ pv, ⟨[] ++ pa, pv, trodAll_append (hargs _ (fun _ _ => rfl)) (hres _ _ _), hvars _ (fun _ _ => rfl), rfl, ?_, ?_⟩, ?_⟩
    · intro b off hp
      have hin : MemPlace.cell b off ∈ before := by rw [hps]; simpa using hp
      rw [hb.frozen (hlt _ hin)]
      exact hz b off hin
    · intro ha
      have := hn ha
      rw [hps] at this
      simpa using this
    · intro p hp _
      rw [hps]
      simpa using hp

theorem trodAll_stays (hl : laidOutB P = true) {W W' : World} (hb : Below W.heap.size W W') {sp : Nat → Bool} : ∀ {ts : List TypeId} {vs : List Value} {ds : List (DataW H)} {ps : List MemPlace},
    (∀ t ∈ ts, P.readableRec t = true ∧ t < P.types.size) → DataW.TrodAll enc P W 0 (fun _ => true) true ts vs ds ps → (∀ x ∈ ps, x.block < W.heap.size) → (∀ p ∈ ps, sp p.block = true) →
    DataW.TrodAll enc P W' 0 sp true ts vs ds ps
  | [], vs, ds, ps, _, h, _, _ => by
    obtain ⟨rfl, rfl, rfl⟩ := trodAll_nil h
    exact trodAll_mk0
  | t :: ts, vs, ds, ps, ht, h, hlt, hsp => by
    obtain ⟨v, vs', d, ds', p, q, rfl, rfl, rfl, h0, h1⟩ := trodAll_cons h
    refine trodAll_cons_mk ?_ (trodAll_stays hl hb (fun x hx => ht x (by simp [hx])) h1 (fun x hx => hlt x (by simp [hx])) (fun x hx => hsp x (by simp [hx])))
    exact WideElems.Trod_stays hl (ht t (by simp)).1 (ht t (by simp)).2 h0 (fun x hx => hb.same (hlt x (by simp [hx]))) (fun x hx => hsp x (by simp [hx]))
end

set_option maxRecDepth 100000 in
theorem ok_bool {fn : Func} {W' : World} (hres : fn.resultTypes = #[4]) (b : Bool) :
    ∀ (j : Nat) (t' : TypeId) (r : Value), fn.resultTypes[j]? = some t' → ((Value.bool b).resultList fn.resultTypes.size)[j]? = some r → Value.okWide Try.prog W' .any 0 t' r := by
  have h0 : Value.okWide Try.prog W' .any 0 4 (.bool b) := okWide_bool_mk Try.underlying4 b
  generalize Try.prog = P at h0 ⊢
  exact ok_one hres rfl h0

set_option maxRecDepth 100000 in
/-- A law's contract, out of its walk. -/
theorem law_contract {H : Type} {enc : TypeId × Value → H} {F : FuncId} {fn : Func} {s : ChangeSpec} {apart fresh handsOn again : Bool} (hvars : s.vars = []) (hres : fn.resultTypes = #[4])
    (hspec : ∀ ds : List (DataW H), ds.length = fn.params.size → s.fn H ds = { results := [.lit (.bool true)], args := ds })
    (hread : ∀ t ∈ fn.params.toList, Try.prog.readableRec t = true ∧ t < Try.prog.types.size)
    {W : World} {args : Array Value} {ds gs : List (DataW H)} {before : List MemPlace}
    (hW : DataW.Whole enc Try.prog fn.params.toList s.vars apart W args.toList ds gs before)
    (walk : ∀ p, DataW.TrodAll enc Try.prog W 0 (fun _ => true) true fn.params.toList args.toList ds p → (∀ x ∈ p, x.block < W.heap.size) → Calls Try.prog F args W (Ret (.bool true) W)) :
    Calls Try.prog F args W fun e W' => ∃ v, e = .returned v ∧ s.post enc Try.prog fn apart fresh handsOn again W args v W' := by
  have hW' := hW
  obtain ⟨p, q, hA, hV, rfl, hfz, hnd⟩ := hW
  rw [hvars] at hV
  obtain ⟨rfl, rfl⟩ := trodVars_none hV
  have hlt : ∀ x ∈ p, x.block < W.heap.size := fun x hx => hW'.lt x (by simp [hx])
  refine (walk p hA hlt).mono fun e W' ⟨he, hb⟩ => ?_
  subst he
  have hlen : ds.length = fn.params.size := by
    have : ∀ (ts : List TypeId) (vs : List Value) (ds : List (DataW H)) (ps : List MemPlace), DataW.TrodAll enc Try.prog W 0 (fun _ => true) true ts vs ds ps → ds.length = ts.length := by
      intro ts
      induction ts with
      | nil => intro vs ds ps h; obtain ⟨_, rfl, _⟩ := trodAll_nil h; rfl
      | cons t ts ih => intro vs ds ps h; obtain ⟨v, vs', d, ds', p, q, rfl, rfl, rfl, h0, h1⟩ := trodAll_cons h; simp [ih _ _ _ h1]
    have h2 := this _ _ _ _ hA
    simpa using h2
  have e1 : s.fn H (ds ++ []) = { results := [.lit (.bool true)], args := ds } := by rw [List.append_nil]; exact hspec ds hlen
  simp only [List.append_nil] at hW'
  refine ⟨_, rfl, post_of_below (pa := p) (pv := []) hW' ?_ ?_ ?_ (by simp) hb ?_⟩
  · intro b sp hd
    rw [e1, hres]
    exact trodAll_mk1 (shut_bool Try.underlying4 true)
  · intro sp hsp
    rw [e1]
    exact trodAll_stays laidOut hb hread hA hlt hsp
  · intro sp hsp
    rw [e1, hvars]
    rfl
  · exact ok_bool hres true

theorem cells_span : Try.prog.cellsOf 40 = 2 := by kernel_rfl

set_option maxRecDepth 100000 in
theorem open_span {H : Type} {enc : TypeId × Value → H} {W : World} {base b0 : Nat} {v : Value} {d : DataW H} {p : List MemPlace}
    (hv : Value.okWide Try.prog W .any b0 40 v) (h : DataW.Trod enc Try.prog W base (fun _ => true) true 40 v d p) :
    ∃ a b : Int, v = spanV a b ∧ (-9223372036854775808 ≤ a ∧ a ≤ 9223372036854775807) ∧ (-9223372036854775808 ≤ b ∧ b ≤ 9223372036854775807) := by
  obtain ⟨c0, c1, y0, y1, m, rfl, rfl, rfl, hy0, hy1⟩ := open_agg2 Try.underlying40 (by kernel_rfl) cells_span hv h
  obtain ⟨a, e0, _, wa⟩ := DataW.trod_int Try.underlying3 hy0
  obtain ⟨b, e1, _, wb⟩ := DataW.trod_int Try.underlying3 hy1
  simp at e0 e1
  subst e0 e1
  exact ⟨a, b, rfl, bounds_i64 wa, bounds_i64 wb⟩

end Go.Proofs.Ytojmnfelecnenaa
namespace Go.Proofs.Ytojmnfelecnenaa
open Go.RowKit

structure Rq where
  write : Bool
  lo : Int
  many : Int
  data : List ByteArray
  tags : List Int
  born : Int
  deriving DecidableEq, Inhabited

def lightReq (r : Rq) : Bool := decide (r.data.length ≤ 8) && decide (r.tags.length ≤ 8) && r.data.all (fun s => decide (s.size ≤ 10))
def lightReqs (l : List Rq) : Bool := decide (l.length ≤ 10) && l.all lightReq

/-- The first one of the least key, among the first k, of those that are ok; below 0: there is none. -/
def bestOf (ok : Rq → Bool) (key : Rq → Int) (l : List Rq) : Nat → Int
  | 0 => -1
  | k + 1 => match l[k]? with
    | none => bestOf ok key l k
    | some r => if ok r && (decide (bestOf ok key l k < 0) || decide (key r < key (l.getD (bestOf ok key l k).toNat default))) then (k : Int) else bestOf ok key l k
theorem bestOf_range (ok : Rq → Bool) (key : Rq → Int) (l : List Rq) : ∀ k, -1 ≤ bestOf ok key l k ∧ bestOf ok key l k < k
  | 0 => by simp [bestOf]
  | k + 1 => by
    have ih := bestOf_range ok key l k
    unfold bestOf
    split
    · omega
    · split <;> omega
theorem bestOf_no {ok : Rq → Bool} {key : Rq → Int} {l : List Rq} {k : Nat} {r : Rq} (h : l[k]? = some r) (ho : ok r = false) : bestOf ok key l (k + 1) = bestOf ok key l k := by
  rw [bestOf, h]; simp [ho]
theorem bestOf_first {ok : Rq → Bool} {key : Rq → Int} {l : List Rq} {k : Nat} {r : Rq} (h : l[k]? = some r) (ho : ok r = true) (hb : bestOf ok key l k < 0) : bestOf ok key l (k + 1) = k := by
  rw [bestOf, h]; simp [ho, hb]
theorem bestOf_less {ok : Rq → Bool} {key : Rq → Int} {l : List Rq} {k j : Nat} {r r' : Rq} (h : l[k]? = some r) (ho : ok r = true) (hb : bestOf ok key l k = j) (hj : l[j]? = some r') (hk : key r < key r') : bestOf ok key l (k + 1) = k := by
  have e : l.getD j default = r' := by rw [List.getD_eq_getElem?_getD, hj]; rfl
  rw [bestOf, h, hb]; simp only [Int.toNat_natCast, e]; simp [ho, hk]
theorem bestOf_more {ok : Rq → Bool} {key : Rq → Int} {l : List Rq} {k j : Nat} {r r' : Rq} (h : l[k]? = some r) (hb : bestOf ok key l k = j) (hj : l[j]? = some r') (hk : ¬ key r < key r') : bestOf ok key l (k + 1) = j := by
  have e : l.getD j default = r' := by rw [List.getD_eq_getElem?_getD, hj]; rfl
  rw [bestOf, h, hb]; simp only [Int.toNat_natCast, e]; simp; intro _ h2; omega
def oldest (l : List Rq) (write : Bool) : Int := bestOf (fun r => r.write == write) (·.born) l l.length
def fromI (l : List Rq) (write : Bool) (at_ : Int) : Int := bestOf (fun r => r.write == write && decide (at_ ≤ r.lo)) (·.lo) l l.length

def SpanOk (f m most : Int) : Prop := 0 ≤ f ∧ f ≤ 31 ∧ 1 ≤ m ∧ m ≤ most ∧ m ≤ 32 - f
instance (f m most : Int) : Decidable (SpanOk f m most) := by unfold SpanOk; infer_instance
def spanF (f m most : Int) : Nat := if SpanOk f m most then 0 else 1
theorem spanF_pos {f m most : Int} (h : SpanOk f m most) : spanF f m most = 0 := if_pos h
theorem spanF_neg {f m most : Int} (h : ¬ SpanOk f m most) : spanF f m most = 1 := if_neg h
theorem spanF_zero {f m most : Int} (h : spanF f m most = 0) : SpanOk f m most := by
  by_cases c : SpanOk f m most
  · exact c
  · rw [spanF_neg c] at h; cases h

def shapeOk (r : Rq) : Prop := if r.write then (r.data.length : Int) = r.many else r.data.length = 0
instance (r : Rq) : Decidable (shapeOk r) := by unfold shapeOk; infer_instance
def tagsOk (r : Rq) : Prop := 1 ≤ r.tags.length ∧ r.tags.length ≤ 4
instance (r : Rq) : Decidable (tagsOk r) := by unfold tagsOk; infer_instance
def bornOk (r : Rq) : Prop := 0 ≤ r.born ∧ r.born ≤ 1000000000
instance (r : Rq) : Decidable (bornOk r) := by unfold bornOk; infer_instance
def dataOk (r : Rq) : Bool := r.data.all (fun s => decide (s.size ≤ 4))
/-- What is wrong with a request (0: nothing). -/
def reqF (r : Rq) : Nat := if SpanOk r.lo r.many 4 then if shapeOk r then if tagsOk r then if bornOk r then if dataOk r then 0 else 1 else 1 else 3 else 3 else 1
structure ReqOk (r : Rq) : Prop where
  span : SpanOk r.lo r.many 4
  shape : shapeOk r
  tags : tagsOk r
  born : bornOk r
  data : dataOk r = true
theorem reqF_ok {r : Rq} (h : ReqOk r) : reqF r = 0 := by
  unfold reqF; rw [if_pos h.span, if_pos h.shape, if_pos h.tags, if_pos h.born, if_pos h.data]
theorem reqF_span {r : Rq} (h : ¬ SpanOk r.lo r.many 4) : reqF r = 1 := by unfold reqF; rw [if_neg h]
theorem reqF_shape {r : Rq} (h : SpanOk r.lo r.many 4) (h1 : ¬ shapeOk r) : reqF r = 3 := by unfold reqF; rw [if_pos h, if_neg h1]
theorem reqF_tags {r : Rq} (h : SpanOk r.lo r.many 4) (h1 : shapeOk r) (h2 : ¬ tagsOk r) : reqF r = 3 := by unfold reqF; rw [if_pos h, if_pos h1, if_neg h2]
theorem reqF_born {r : Rq} (h : SpanOk r.lo r.many 4) (h1 : shapeOk r) (h2 : tagsOk r) (h3 : ¬ bornOk r) : reqF r = 1 := by unfold reqF; rw [if_pos h, if_pos h1, if_pos h2, if_neg h3]
theorem reqF_data {r : Rq} (h : SpanOk r.lo r.many 4) (h1 : shapeOk r) (h2 : tagsOk r) (h3 : bornOk r) (h4 : dataOk r = false) : reqF r = 1 := by unfold reqF; rw [if_pos h, if_pos h1, if_pos h2, if_pos h3, h4]; rfl
theorem reqF_zero {r : Rq} (h : reqF r = 0) : ReqOk r := by
  unfold reqF at h
  split at h
  · split at h
    · split at h
      · split at h
        · split at h
          · exact ⟨‹_›, ‹_›, ‹_›, ‹_›, ‹_›⟩
          · cases h
        · cases h
      · cases h
    · cases h
  · cases h

def meetB (af am bf bm : Int) : Bool := decide (af < bf + bm) && decide (bf < af + am)
def hasB (f m a : Int) : Bool := decide (f ≤ a) && decide (a - f < m)
def apartFrom (r : Rq) (l : List Rq) : Bool := l.all (fun q => !meetB r.lo r.many q.lo q.many)
def okAt (l : List Rq) (i : Nat) : Bool := match l[i]? with
  | none => true
  | some r => decide (reqF r = 0) && apartFrom r (l.take i)
/-- May each be, and have no two a sector in common? -/
def goodReqs (l : List Rq) : Bool := (List.range l.length).all (okAt l)
theorem okAt_some {l : List Rq} {i : Nat} {r : Rq} (h : l[i]? = some r) : okAt l i = (decide (reqF r = 0) && apartFrom r (l.take i)) := by unfold okAt; rw [h]
theorem good_mem {l : List Rq} (h : goodReqs l = true) {i : Nat} {r : Rq} (hi : l[i]? = some r) : ReqOk r := by
  unfold goodReqs at h
  rw [List.all_eq_true] at h
  have hlt : i < l.length := by
    rcases Nat.lt_or_ge i l.length with h1 | h1
    · exact h1
    · rw [List.getElem?_eq_none h1] at hi; cases hi
  have := h i (List.mem_range.2 hlt)
  rw [okAt_some hi] at this
  simp at this
  exact reqF_zero this.1
theorem range_all_succ (p : Nat → Bool) (k : Nat) : (List.range (k + 1)).all p = ((List.range k).all p && p k) := by
  rw [List.range_succ, List.all_append]; simp
theorem SpanOk.more {f m a b : Int} (h : SpanOk f m a) (hab : a ≤ b) : SpanOk f m b := ⟨h.1, h.2.1, h.2.2.1, by have := h.2.2.2.1; omega, h.2.2.2.2⟩

structure Tn where
  write : Bool
  gone : Int
  starved : Int
  wh : Int
  deriving DecidableEq, Inhabited
def limit (b : Bool) : Int := if b then 8 else 4
/-- Has one waited too long? -/
def expB (r : Rq) (now : Int) : Bool := decide (limit r.write ≤ now - r.born)
/-- Whose turn is next. -/
def turnedM (l : List Rq) (t : Tn) : Tn :=
  if 0 ≤ oldest l false ∧ ¬ 0 ≤ oldest l true then { t with gone := 0, write := false }
  else if 0 ≤ oldest l true ∧ (¬ 0 ≤ oldest l false ∨ 2 ≤ t.starved) then { t with gone := 0, write := true, starved := 0 }
  else { t with gone := 0, write := false, starved := t.starved + 1 }
end Go.Proofs.Ytojmnfelecnenaa
namespace Go.Proofs.Ytojmnfelecnenaa
open Go.RowKit

/-- The slice value v has n elements of size cells each; these hold xs; they lie in a block that is in S. -/
def Rd (S : Nat → Prop) (w : World) (size : Nat) (v : Value) (n : Nat) (xs : List Value) : Prop :=
  ∃ A cap, v = .slice A n cap ∧ n ≤ cap ∧ cap ≤ maxLen ∧ xs.length = n * size ∧
    (0 < n → ∃ b off, A = some ⟨b, off, none⟩ ∧ S b ∧ ∀ j u, xs[j]? = some u → w.cell? ⟨b, off + j, none⟩ = some u)

section
variable {S S' : Nat → Prop} {w w' : World} {size n : Nat} {v : Value} {xs : List Value}
theorem Rd.nil : Rd S w size (.slice none 0 0) 0 [] := ⟨none, 0, rfl, Nat.le_refl _, by simp [maxLen], by simp, fun h => absurd h (by omega)⟩
theorem Rd.keep (h : Rd S w size v n xs) (hk : ∀ b, S b → b < w.heap.size → w'.heap[b]? = w.heap[b]?) : Rd S w' size v n xs := by
  obtain ⟨A, cap, e, h1, h2, h3, h4⟩ := h
  refine ⟨A, cap, e, h1, h2, h3, fun hn => ?_⟩
  obtain ⟨b, off, e1, hS, hc⟩ := h4 hn
  refine ⟨b, off, e1, hS, fun j u hu => ?_⟩
  have h5 := hc j u hu
  have hlt := block_lt_of_cell h5
  rw [World.cell?_of_block (w := w) (hk b hS hlt)]
  exact h5
theorem Rd.below (h : Rd S w size v n xs) (hb : Below w.heap.size w w') : Rd S w' size v n xs := h.keep fun b _ hlt => hb.block b hlt
theorem Rd.more (h : Rd S w size v n xs) (hS : ∀ b, S b → S' b) : Rd S' w size v n xs := by
  obtain ⟨A, cap, e, h1, h2, h3, h4⟩ := h
  refine ⟨A, cap, e, h1, h2, h3, fun hn => ?_⟩
  obtain ⟨b, off, e1, hS1, hc⟩ := h4 hn
  exact ⟨b, off, e1, hS _ hS1, hc⟩
theorem Rd.len (h : Rd S w size v n xs) : n ≤ maxLen := by obtain ⟨_, _, _, h1, h2, _, _⟩ := h; omega
/-- The elements that there are, and where they lie. -/
theorem Rd.at_ {A : Option Addr} {cap : Nat} (h : Rd S w size (.slice A n cap) n xs) (hn : 0 < n) (hs : 0 < size) :
    ∃ b off, A = some ⟨b, off, none⟩ ∧ S b ∧ b < w.heap.size ∧ ∀ j u, xs[j]? = some u → w.cell? ⟨b, off + j, none⟩ = some u := by
  obtain ⟨A', cap', e, _, _, h3, h4⟩ := h
  cases e
  obtain ⟨b, off, e1, hS, hc⟩ := h4 hn
  have hl : 0 < xs.length := by rw [h3]; exact Nat.mul_pos hn hs
  exact ⟨b, off, e1, hS, block_lt_of_cell (hc 0 _ (List.getElem?_eq_getElem hl)), hc⟩
theorem Rd.form (h : Rd S w size v n xs) : ∃ A cap, v = .slice A n cap ∧ n ≤ cap ∧ cap ≤ maxLen := by
  obtain ⟨A, cap, e, h1, h2, _, _⟩ := h; exact ⟨A, cap, e, h1, h2⟩
end

/-- A list of texts. -/
def StrsAt (S : Nat → Prop) (w : World) (v : Value) (l : List ByteArray) : Prop := Rd S w 1 v l.length (l.map .string) ∧ ∀ s ∈ l, s.size ≤ maxLen
/-- A list of numbers. -/
def IntsAt (S : Nat → Prop) (w : World) (v : Value) (l : List Int) : Prop := Rd S w 1 v l.length (l.map (.int .i64)) ∧ ∀ x ∈ l, -9223372036854775808 ≤ x ∧ x ≤ 9223372036854775807
/-- A request's value, its lists being those. -/
abbrev rqV (r : Rq) (dv tv : Value) : Value := .agg #[.bool r.write, .int .i64 r.lo, .int .i64 r.many, dv, tv, .int .i64 r.born]
/-- A request, and the values of its lists. -/
structure Rc where
  r : Rq
  dv : Value
  tv : Value
def Rc.cells (c : Rc) : List Value := [.bool c.r.write, .int .i64 c.r.lo, .int .i64 c.r.many, c.dv, c.tv, .int .i64 c.r.born]
def i64 (n : Int) : Prop := -9223372036854775808 ≤ n ∧ n ≤ 9223372036854775807
structure RcOk (S : Nat → Prop) (w : World) (c : Rc) : Prop where
  data : StrsAt S w c.dv c.r.data
  tags : IntsAt S w c.tv c.r.tags
  lo : i64 c.r.lo
  many : i64 c.r.many
  born : i64 c.r.born
/-- A request's value in memory. -/
def ReqAt (S : Nat → Prop) (w : World) (v : Value) (r : Rq) : Prop := ∃ c : Rc, c.r = r ∧ v = rqV c.r c.dv c.tv ∧ RcOk S w c
/-- A list of requests. -/
def ReqsAt (S : Nat → Prop) (w : World) (v : Value) (l : List Rq) : Prop := ∃ cs : List Rc, cs.map (·.r) = l ∧ Rd S w 6 v cs.length (cs.flatMap Rc.cells) ∧ ∀ c ∈ cs, RcOk S w c

section
variable {S S' : Nat → Prop} {w w' : World} {v : Value}
theorem StrsAt.keep {l : List ByteArray} (h : StrsAt S w v l) (hk : ∀ b, S b → b < w.heap.size → w'.heap[b]? = w.heap[b]?) : StrsAt S w' v l := ⟨h.1.keep hk, h.2⟩
theorem IntsAt.keep {l : List Int} (h : IntsAt S w v l) (hk : ∀ b, S b → b < w.heap.size → w'.heap[b]? = w.heap[b]?) : IntsAt S w' v l := ⟨h.1.keep hk, h.2⟩
theorem RcOk.keep {c : Rc} (h : RcOk S w c) (hk : ∀ b, S b → b < w.heap.size → w'.heap[b]? = w.heap[b]?) : RcOk S w' c := ⟨h.data.keep hk, h.tags.keep hk, h.lo, h.many, h.born⟩
theorem ReqAt.keep {r : Rq} (h : ReqAt S w v r) (hk : ∀ b, S b → b < w.heap.size → w'.heap[b]? = w.heap[b]?) : ReqAt S w' v r := by
  obtain ⟨c, h1, h2, h3⟩ := h; exact ⟨c, h1, h2, h3.keep hk⟩
theorem ReqsAt.keep {l : List Rq} (h : ReqsAt S w v l) (hk : ∀ b, S b → b < w.heap.size → w'.heap[b]? = w.heap[b]?) : ReqsAt S w' v l := by
  obtain ⟨cs, h1, h2, h3⟩ := h; exact ⟨cs, h1, h2.keep hk, fun c hc => (h3 c hc).keep hk⟩
theorem StrsAt.below {l : List ByteArray} (h : StrsAt S w v l) (hb : Below w.heap.size w w') : StrsAt S w' v l := h.keep fun b _ hlt => hb.block b hlt
theorem IntsAt.below {l : List Int} (h : IntsAt S w v l) (hb : Below w.heap.size w w') : IntsAt S w' v l := h.keep fun b _ hlt => hb.block b hlt
theorem RcOk.below {c : Rc} (h : RcOk S w c) (hb : Below w.heap.size w w') : RcOk S w' c := h.keep fun b _ hlt => hb.block b hlt
theorem ReqAt.below {r : Rq} (h : ReqAt S w v r) (hb : Below w.heap.size w w') : ReqAt S w' v r := h.keep fun b _ hlt => hb.block b hlt
theorem ReqsAt.below {l : List Rq} (h : ReqsAt S w v l) (hb : Below w.heap.size w w') : ReqsAt S w' v l := h.keep fun b _ hlt => hb.block b hlt

theorem StrsAt.form {l : List ByteArray} (h : StrsAt S w v l) : ∃ A cap, v = .slice A l.length cap ∧ l.length ≤ cap ∧ cap ≤ maxLen := h.1.form
theorem IntsAt.form {l : List Int} (h : IntsAt S w v l) : ∃ A cap, v = .slice A l.length cap ∧ l.length ≤ cap ∧ cap ≤ maxLen := h.1.form
theorem ReqsAt.form {l : List Rq} (h : ReqsAt S w v l) : ∃ A cap, v = .slice A l.length cap ∧ l.length ≤ cap ∧ cap ≤ maxLen := by
  obtain ⟨cs, rfl, h2, _⟩ := h; rw [List.length_map]; exact h2.form
theorem StrsAt.at_ {A : Option Addr} {n cap : Nat} {l : List ByteArray} (h : StrsAt S w (.slice A n cap) l) (hn : 0 < l.length) :
    ∃ b off, A = some ⟨b, off, none⟩ ∧ S b ∧ b < w.heap.size ∧ ∀ j s, l[j]? = some s → w.cell? ⟨b, off + j, none⟩ = some (.string s) ∧ s.size ≤ maxLen := by
  have he : n = l.length := by obtain ⟨_, _, e, _⟩ := h.1.form; injection e
  subst he
  obtain ⟨b, off, e, hS, hlt, hc⟩ := h.1.at_ hn (by omega)
  exact ⟨b, off, e, hS, hlt, fun j s hj => ⟨hc j _ (by rw [List.getElem?_map, hj]; rfl), h.2 s (List.mem_of_getElem? hj)⟩⟩
theorem IntsAt.at_ {A : Option Addr} {n cap : Nat} {l : List Int} (h : IntsAt S w (.slice A n cap) l) (hn : 0 < l.length) :
    ∃ b off, A = some ⟨b, off, none⟩ ∧ S b ∧ b < w.heap.size ∧ ∀ j x, l[j]? = some x → w.cell? ⟨b, off + j, none⟩ = some (.int .i64 x) ∧ i64 x := by
  have he : n = l.length := by obtain ⟨_, _, e, _⟩ := h.1.form; injection e
  subst he
  obtain ⟨b, off, e, hS, hlt, hc⟩ := h.1.at_ hn (by omega)
  exact ⟨b, off, e, hS, hlt, fun j x hj => ⟨hc j _ (by rw [List.getElem?_map, hj]; rfl), h.2 x (List.mem_of_getElem? hj)⟩⟩
theorem flat_get (cs : List Rc) : ∀ (i j : Nat) (c : Rc), cs[i]? = some c → j < 6 → (cs.flatMap Rc.cells)[i * 6 + j]? = c.cells[j]? := by
  induction cs with
  | nil => intro i j c h _; simp at h
  | cons a cs ih =>
    intro i j c h hj
    rw [List.flatMap_cons]
    cases i with
    | zero =>
      simp at h; subst h
      rw [List.getElem?_append_left (by simp [Rc.cells]; omega)]
      simp
    | succ i =>
      rw [List.getElem?_append_right (by simp [Rc.cells]; omega)]
      simp at h
      rw [← ih i j c h hj]
      congr 1
      simp [Rc.cells]; omega
theorem ReqAt.opened {r : Rq} (h : ReqAt S w v r) : ∃ Ad cd At ct, v = rqV r (.slice Ad r.data.length cd) (.slice At r.tags.length ct) ∧ StrsAt S w (.slice Ad r.data.length cd) r.data ∧ IntsAt S w (.slice At r.tags.length ct) r.tags ∧
    r.data.length ≤ 9223372036854775807 ∧ r.tags.length ≤ 9223372036854775807 ∧ i64 r.lo ∧ i64 r.many ∧ i64 r.born := by
  obtain ⟨c, rfl, rfl, hok⟩ := h
  obtain ⟨Ad, cd, e1, d1, d2⟩ := hok.data.form
  obtain ⟨At, ct, e2, t1, t2⟩ := hok.tags.form
  unfold maxLen at d2 t2
  exact ⟨Ad, cd, At, ct, by rw [← e1, ← e2], e1 ▸ hok.data, e2 ▸ hok.tags, by omega, by omega, hok.lo, hok.many, hok.born⟩
theorem RcOk.req {c : Rc} (h : RcOk S w c) : ReqAt S w (rqV c.r c.dv c.tv) c.r := ⟨c, rfl, rfl, h⟩
/-- The element i of a list of requests: its six cells, and what its lists hold. -/
theorem ReqsAt.at_ {A : Option Addr} {n cap : Nat} {l : List Rq} (h : ReqsAt S w (.slice A n cap) l) (hn : 0 < l.length) :
    ∃ b off, A = some ⟨b, off, none⟩ ∧ S b ∧ b < w.heap.size ∧ ∀ i r, l[i]? = some r → ∃ Ad cd At ct, ReqAt S w (rqV r (.slice Ad r.data.length cd) (.slice At r.tags.length ct)) r ∧
      w.cell? ⟨b, off + i * 6, none⟩ = some (.bool r.write) ∧ w.cell? ⟨b, off + i * 6 + 1, none⟩ = some (.int .i64 r.lo) ∧ w.cell? ⟨b, off + i * 6 + 2, none⟩ = some (.int .i64 r.many) ∧
      w.cell? ⟨b, off + i * 6 + 3, none⟩ = some (.slice Ad r.data.length cd) ∧ w.cell? ⟨b, off + i * 6 + 4, none⟩ = some (.slice At r.tags.length ct) ∧ w.cell? ⟨b, off + i * 6 + 5, none⟩ = some (.int .i64 r.born) := by
  obtain ⟨cs, rfl, h2, h3⟩ := h
  rw [List.length_map] at hn
  have he : n = cs.length := by obtain ⟨_, _, e, _⟩ := h2.form; injection e
  subst he
  obtain ⟨b, off, e, hS, hlt, hc⟩ := h2.at_ hn (by omega)
  refine ⟨b, off, e, hS, hlt, fun i r hi => ?_⟩
  rw [List.getElem?_map] at hi
  obtain ⟨c, hci, rfl⟩ := Option.map_eq_some_iff.1 hi
  have hg := fun j hj => flat_get cs i j c hci hj
  have hok := h3 c (List.mem_of_getElem? hci)
  obtain ⟨Ad, cd, e1, _, _⟩ := hok.data.form
  obtain ⟨At, ct, e2, _, _⟩ := hok.tags.form
  exact ⟨Ad, cd, At, ct, by rw [← e1, ← e2]; exact hok.req, hc _ _ (hg 0 (by omega)), hc _ _ (hg 1 (by omega)), hc _ _ (hg 2 (by omega)), by rw [← e1]; exact hc _ _ (hg 3 (by omega)), by rw [← e2]; exact hc _ _ (hg 4 (by omega)), hc _ _ (hg 5 (by omega))⟩
end
end Go.Proofs.Ytojmnfelecnenaa
namespace Go.Proofs.Ytojmnfelecnenaa
open Go.ChangeShapes Go.WideShapes Go.ChangeAt Go.RowKit Go.Joins Go.Deep

theorem cells_req : Try.prog.cellsOf 44 = 6 := by kernel_rfl
theorem cells_int : Try.prog.cellsOf 3 = 1 := by kernel_rfl
theorem cells_string : Try.prog.cellsOf 9 = 1 := by kernel_rfl

section
variable {H : Type} {enc : TypeId × Value → H} {W : World} {base b0 : Nat} {v : Value} {d : DataW H} {p : List MemPlace}
theorem flat_len (cs : List Rc) : (cs.flatMap Rc.cells).length = cs.length * 6 := by
  induction cs with
  | nil => rfl
  | cons a cs ih => rw [List.flatMap_cons, List.length_append, ih]; simp [Rc.cells]; omega
def Any : Nat → Prop := fun _ => True
theorem ints_spot {a : Addr} {u : Value} (h : W.cell? (a.add 0) = some u) : ∃ b off, a = ⟨b, off, none⟩ := by
  obtain ⟨b, off, spot⟩ := a
  have hspot : spot = none := by simpa [Addr.add] using World.cell?_spot h
  subst hspot
  exact ⟨b, off, rfl⟩

theorem strs_of {fuel : Nat} {v : Value} {x : DataW H × List MemPlace} {sp : Nat → Bool} (h : DataW.trod enc Try.prog W base sp true fuel 41 [v] = some x) : ∃ l, StrsAt Any W v l := by
  rcases open_strings Try.underlying41 Try.underlying9 cells_string h with ⟨hcs, _⟩ | ⟨a, len, cap, ss, hcs, _, hl, hm, hz, _, hcell, hws⟩
  · cases hcs; exact ⟨[], Rd.nil, by simp⟩
  · cases hcs
    refine ⟨ss.take len, ?_, fun s hs => hws s (List.mem_of_mem_take hs)⟩
    have hlen : (ss.take len).length = len := by rw [List.length_take, hz]; split <;> omega
    rw [hlen]
    refine ⟨some a, cap, rfl, hl, hm, by rw [List.length_map, hlen]; omega, fun hn => ?_⟩
    have hpos : 0 < ss.length := by rw [hz]; split <;> omega
    obtain ⟨b, off, rfl⟩ := ints_spot (hcell 0 hpos)
    refine ⟨b, off, rfl, trivial, fun j u hu => ?_⟩
    rw [List.getElem?_map] at hu
    obtain ⟨s, hs, rfl⟩ := Option.map_eq_some_iff.1 hu
    rw [List.getElem?_take] at hs
    split at hs
    · rename_i hj
      have hjl : j < ss.length := by rcases Nat.lt_or_ge j ss.length with h | h; exact h; rw [List.getElem?_eq_none h] at hs; cases hs
      have := hcell j hjl
      rw [Go.WideShapes.add_plain, List.getD_eq_getElem?_getD, hs] at this
      exact this
    · cases hs

theorem ints_of {fuel : Nat} {v : Value} {x : DataW H × List MemPlace} {sp : Nat → Bool} (h : DataW.trod enc Try.prog W base sp true fuel 42 [v] = some x) : ∃ l, IntsAt Any W v l := by
  rcases open_ints Try.underlying42 Try.underlying3 cells_int h with ⟨hcs, _⟩ | ⟨a, len, cap, ss, hcs, _, hl, hm, hz, _, hcell, hws⟩
  · cases hcs; exact ⟨[], Rd.nil, by simp⟩
  · cases hcs
    refine ⟨ss.take len, ?_, fun s hs => bounds_i64 (hws s (List.mem_of_mem_take hs))⟩
    have hlen : (ss.take len).length = len := by rw [List.length_take, hz]; split <;> omega
    rw [hlen]
    refine ⟨some a, cap, rfl, hl, hm, by rw [List.length_map, hlen]; omega, fun hn => ?_⟩
    have hpos : 0 < ss.length := by rw [hz]; split <;> omega
    obtain ⟨b, off, rfl⟩ := ints_spot (hcell 0 hpos)
    refine ⟨b, off, rfl, trivial, fun j u hu => ?_⟩
    rw [List.getElem?_map] at hu
    obtain ⟨s, hs, rfl⟩ := Option.map_eq_some_iff.1 hu
    rw [List.getElem?_take] at hs
    split at hs
    · rename_i hj
      have hjl : j < ss.length := by rcases Nat.lt_or_ge j ss.length with h | h; exact h; rw [List.getElem?_eq_none h] at hs; cases hs
      have := hcell j hjl
      rw [Go.WideShapes.add_plain, List.getD_eq_getElem?_getD, hs] at this
      exact this
    · cases hs

set_option maxRecDepth 100000 in
/-- Six cells that read as a request. -/
theorem req_of {fuel : Nat} {cs : List Value} {x : DataW H × List MemPlace} {sp : Nat → Bool} (h : DataW.trod enc Try.prog W base sp true fuel 44 cs = some x) : ∃ c : Rc, cs = c.cells ∧ RcOk Any W c := by
  obtain ⟨xs, n, _, _, hlen, hxl, hf⟩ := DataW.trod_struct Try.underlying44 h
  rw [cells_req] at hlen
  match cs, hlen with
  | [v0, v1, v2, v3, v4, v5], _ =>
    match xs, hxl with
    | [x0, x1, x2, x3, x4], _ =>
      have f0 := hf 0 _ rfl
      have f1 := hf 1 _ rfl
      have f2 := hf 2 _ rfl
      have f3 := hf 3 _ rfl
      have f4 := hf 4 _ rfl
      have cb : Try.prog.cellsOf 4 = 1 := by kernel_rfl
      have cs2 : Try.prog.cellsOf 40 = 2 := by kernel_rfl
      have cl1 : Try.prog.cellsOf 41 = 1 := by kernel_rfl
      have cl2 : Try.prog.cellsOf 42 = 1 := by kernel_rfl
      simp [cb, cs2, cl1, cl2, cells_int] at f0 f1 f2 f3 f4
      obtain ⟨wr, e0, _⟩ := DataW.trod_bool Try.underlying4 f0
      obtain ⟨ys, m, _, _, hl2, hy2, hg⟩ := DataW.trod_struct Try.underlying40 f1
      obtain ⟨born, e5, _, w5⟩ := DataW.trod_int Try.underlying3 f4
      match ys, hy2 with
      | [y0, y1], _ =>
        have g0 := hg 0 _ rfl
        have g1 := hg 1 _ rfl
        simp [cells_int] at g0 g1
        obtain ⟨lo, e1, _, w1⟩ := DataW.trod_int Try.underlying3 g0
        obtain ⟨many, e2, _, w2⟩ := DataW.trod_int Try.underlying3 g1
        obtain ⟨data, hd⟩ := strs_of f2
        obtain ⟨tags, ht⟩ := ints_of f3
        simp at e0 e1 e2 e5
        subst e0 e1 e2 e5
        exact ⟨⟨⟨wr, lo, many, data, tags, born⟩, v3, v4⟩, rfl, hd, ht, bounds_i64 w1, bounds_i64 w2, bounds_i64 w5⟩

set_option maxRecDepth 100000 in
theorem reqs_of (h : DataW.Trod enc Try.prog W base (fun _ => true) true 35 v d p) (hs : ∃ A n c, v = .slice A n c) : ∃ l, ReqsAt Any W v l := by
  obtain ⟨A, n0, c0, rfl⟩ := hs
  obtain ⟨fuel, hf⟩ := h
  rcases open_slice Try.underlying35 hf with ⟨hcs, _⟩ | ⟨a, len, cap, m, n, D, Pl, hcs, _, hl, hm, hmm, _, hi⟩
  · simp [Value.cells] at hcs
    obtain ⟨rfl, rfl, rfl⟩ := hcs
    exact ⟨[], [], rfl, Rd.nil, by simp⟩
  · simp [Value.cells] at hcs
    obtain ⟨rfl, rfl, rfl⟩ := hcs
    simp at hmm
    subst hmm
    rw [cells_req] at hi
    have hc : ∀ i, i < n0 → ∃ c : Rc, W.cells? base (a.add (i * 6)) 6 = some c.cells ∧ RcOk Any W c := by
      intro i hin
      obtain ⟨cs', h1, h2⟩ := hi i (by omega)
      obtain ⟨c, rfl, hok⟩ := req_of h2
      exact ⟨c, h1, hok⟩
    clear hi
    have hlist : ∀ k, k ≤ n0 → ∃ cs : List Rc, cs.length = k ∧ ∀ i c, cs[i]? = some c → W.cells? base (a.add (i * 6)) 6 = some c.cells ∧ RcOk Any W c := by
      intro k
      induction k with
      | zero => intro _; exact ⟨[], rfl, by simp⟩
      | succ k ih =>
        intro hk
        obtain ⟨cs, hlen, hall⟩ := ih (by omega)
        obtain ⟨c, h1, h2⟩ := hc k (by omega)
        refine ⟨cs ++ [c], by simp [hlen], fun i c' hi => ?_⟩
        rcases Nat.lt_or_ge i cs.length with hlt | hge
        · rw [List.getElem?_append_left hlt] at hi; exact hall i c' hi
        · rw [List.getElem?_append_right hge] at hi
          have hi0 : i - cs.length = 0 := by
            rcases Nat.eq_zero_or_pos (i - cs.length) with h | h
            · exact h
            · rw [List.getElem?_eq_none (by simp; omega)] at hi; cases hi
          rw [hi0] at hi
          simp at hi
          subst hi
          obtain rfl : i = k := by omega
          exact ⟨h1, h2⟩
    obtain ⟨cs, hlen, hall⟩ := hlist n0 (Nat.le_refl _)
    subst hlen
    refine ⟨cs.map (·.r), cs, rfl, ⟨some a, _, rfl, hl, hm, flat_len cs, fun hn => ?_⟩, fun c hc => ?_⟩
    · have h0 := (hall 0 cs[0] (List.getElem?_eq_getElem hn)).1
      obtain ⟨_, hcl, hat⟩ := World.cells?_some h0
      have hz := hat 0 (by omega)
      obtain ⟨b, off, rfl⟩ : ∃ b off, a = ⟨b, off, none⟩ := by
        apply ints_spot (u := .bool cs[0].r.write)
        have : (a.add (0 * 6)).add 0 = a.add 0 := by simp [Addr.add]
        rw [← this, hz]; rfl
      refine ⟨b, off, rfl, trivial, fun j u hu => ?_⟩
      have hjl : j < cs.length * 6 := by
        rcases Nat.lt_or_ge j (cs.length * 6) with h | h
        · exact h
        · rw [List.getElem?_eq_none (by rw [flat_len]; omega)] at hu; cases hu
      have hq : j / 6 < cs.length := by omega
      have hcq : cs[j / 6]? = some cs[j / 6] := List.getElem?_eq_getElem hq
      have he : j = j / 6 * 6 + j % 6 := by omega
      rw [he, flat_get cs _ _ _ hcq (by omega)] at hu
      obtain ⟨_, _, hat⟩ := World.cells?_some (hall _ _ hcq).1
      have := hat (j % 6) (by omega)
      rw [hu, Go.WideShapes.add_plain, Go.WideShapes.add_plain] at this
      rw [he]
      rw [← this]
      simp [Nat.add_assoc]
    · obtain ⟨i, hi⟩ := List.getElem?_of_mem hc
      exact (hall i c hi).2
end
end Go.Proofs.Ytojmnfelecnenaa
namespace Go.Proofs.Ytojmnfelecnenaa
open Go.RowKit

section
variable {S S' : Nat → Prop} {w w' : World} {v : Value}
theorem Rd.lt {size n : Nat} {xs : List Value} (h : Rd S w size v n xs) (hs : 0 < size) : Rd (fun b => S b ∧ b < w.heap.size) w size v n xs := by
  obtain ⟨A, cap, e, h1, h2, h3, h4⟩ := h
  refine ⟨A, cap, e, h1, h2, h3, fun hn => ?_⟩
  obtain ⟨b, off, e1, hS, hc⟩ := h4 hn
  have hl : 0 < xs.length := by rw [h3]; exact Nat.mul_pos hn hs
  exact ⟨b, off, e1, ⟨hS, block_lt_of_cell (hc 0 _ (List.getElem?_eq_getElem hl))⟩, hc⟩
theorem StrsAt.lt {l : List ByteArray} (h : StrsAt S w v l) : StrsAt (fun b => S b ∧ b < w.heap.size) w v l := ⟨h.1.lt (by omega), h.2⟩
theorem StrsAt.more {l : List ByteArray} (h : StrsAt S w v l) (hS : ∀ b, S b → S' b) : StrsAt S' w v l := ⟨h.1.more hS, h.2⟩
theorem IntsAt.lt {l : List Int} (h : IntsAt S w v l) : IntsAt (fun b => S b ∧ b < w.heap.size) w v l := ⟨h.1.lt (by omega), h.2⟩
theorem IntsAt.more {l : List Int} (h : IntsAt S w v l) (hS : ∀ b, S b → S' b) : IntsAt S' w v l := ⟨h.1.more hS, h.2⟩
theorem RcOk.lt {c : Rc} (h : RcOk S w c) : RcOk (fun b => S b ∧ b < w.heap.size) w c := ⟨h.data.lt, h.tags.lt, h.lo, h.many, h.born⟩
theorem RcOk.more {c : Rc} (h : RcOk S w c) (hS : ∀ b, S b → S' b) : RcOk S' w c := ⟨h.data.more hS, h.tags.more hS, h.lo, h.many, h.born⟩
theorem ReqAt.lt {r : Rq} (h : ReqAt S w v r) : ReqAt (fun b => S b ∧ b < w.heap.size) w v r := by
  obtain ⟨c, h1, h2, h3⟩ := h; exact ⟨c, h1, h2, h3.lt⟩
theorem ReqAt.more {r : Rq} (h : ReqAt S w v r) (hS : ∀ b, S b → S' b) : ReqAt S' w v r := by
  obtain ⟨c, h1, h2, h3⟩ := h; exact ⟨c, h1, h2, h3.more hS⟩
theorem ReqsAt.lt {l : List Rq} (h : ReqsAt S w v l) : ReqsAt (fun b => S b ∧ b < w.heap.size) w v l := by
  obtain ⟨cs, h1, h2, h3⟩ := h; exact ⟨cs, h1, h2.lt (by omega), fun c hc => (h3 c hc).lt⟩
theorem ReqsAt.more {l : List Rq} (h : ReqsAt S w v l) (hS : ∀ b, S b → S' b) : ReqsAt S' w v l := by
  obtain ⟨cs, h1, h2, h3⟩ := h; exact ⟨cs, h1, h2.more hS, fun c hc => (h3 c hc).more hS⟩
end
end Go.Proofs.Ytojmnfelecnenaa
namespace Go.Proofs.Ytojmnfelecnenaa
set_option linter.unusedSimpArgs false
set_option linter.unusedVariables false
open Go.ChangeShapes Go.WideShapes Go.ChangeAt Go.RowKit Go.Joins Go.Deep

/-- A step: what, who or which, where, what is written. -/
structure Sp where
  word : ByteArray
  a : Int
  b : Int
  data : ByteArray
def Sp.cells (b : Sp) : List Value := [.string b.word, .int .i64 b.a, .int .i64 b.b, .string b.data]
structure SpOk (z : Sp) : Prop where
  a : i64 z.a
  b : i64 z.b
  word : z.word.size ≤ maxLen
  data : z.data.size ≤ maxLen
def flatSp (l : List Sp) : List Value := l.flatMap Sp.cells
def StepsAt (S : Nat → Prop) (w : World) (v : Value) (l : List Sp) : Prop := Rd S w 4 v l.length (flatSp l) ∧ ∀ b ∈ l, SpOk b
theorem flatSp_len (l : List Sp) : (flatSp l).length = l.length * 4 := by
  induction l with
  | nil => rfl
  | cons b l ih => rw [flatSp, List.flatMap_cons, List.length_append]; rw [flatSp] at ih; rw [ih]; simp [Sp.cells]; omega
theorem flatSp_app (a b : List Sp) : flatSp (a ++ b) = flatSp a ++ flatSp b := by simp [flatSp]
theorem flatSp_cons (b : Sp) (l : List Sp) : flatSp (b :: l) = b.cells ++ flatSp l := rfl
theorem flatSp_get : ∀ (l : List Sp) (i j : Nat) (b : Sp), l[i]? = some b → j < 4 → (flatSp l)[i * 4 + j]? = b.cells[j]? := by
  intro l
  induction l with
  | nil => intro i j c h _; simp at h
  | cons a cs ih =>
    intro i j c h hj
    rw [flatSp_cons]
    cases i with
    | zero =>
      simp at h; subst h
      rw [List.getElem?_append_left (by simp [Sp.cells]; omega)]
      simp
    | succ i =>
      rw [List.getElem?_append_right (by simp [Sp.cells]; omega)]
      simp at h
      rw [← ih i j c h hj]
      congr 1
      simp [Sp.cells]; omega
section
variable {S S' : Nat → Prop} {w w' : World} {v : Value} {l : List Sp}
theorem StepsAt.keep (h : StepsAt S w v l) (hk : ∀ b, S b → b < w.heap.size → w'.heap[b]? = w.heap[b]?) : StepsAt S w' v l := ⟨h.1.keep hk, h.2⟩
theorem StepsAt.below (h : StepsAt S w v l) (hb : Below w.heap.size w w') : StepsAt S w' v l := ⟨h.1.below hb, h.2⟩
theorem StepsAt.more (h : StepsAt S w v l) (hS : ∀ b, S b → S' b) : StepsAt S' w v l := ⟨h.1.more hS, h.2⟩
theorem StepsAt.lt (h : StepsAt S w v l) : StepsAt (fun b => S b ∧ b < w.heap.size) w v l := ⟨h.1.lt (by omega), h.2⟩
theorem StepsAt.form (h : StepsAt S w v l) : ∃ A cap, v = .slice A l.length cap ∧ l.length ≤ cap ∧ cap ≤ maxLen := h.1.form
theorem StepsAt.at_ {A : Option Addr} {n cap : Nat} (h : StepsAt S w (.slice A n cap) l) (hn : 0 < l.length) :
    ∃ b off, A = some ⟨b, off, none⟩ ∧ S b ∧ b < w.heap.size ∧ ∀ i x, l[i]? = some x → SpOk x ∧
      w.cell? ⟨b, off + i * 4, none⟩ = some (.string x.word) ∧ w.cell? ⟨b, off + i * 4 + 1, none⟩ = some (.int .i64 x.a) ∧ w.cell? ⟨b, off + i * 4 + 2, none⟩ = some (.int .i64 x.b) ∧
      w.cell? ⟨b, off + i * 4 + 3, none⟩ = some (.string x.data) := by
  have he : n = l.length := by obtain ⟨_, _, e, _⟩ := h.1.form; injection e
  subst he
  obtain ⟨b, off, e, hS, hlt, hc⟩ := h.1.at_ hn (by omega)
  refine ⟨b, off, e, hS, hlt, fun i x hi => ?_⟩
  have hg := fun j hj => flatSp_get l i j x hi hj
  refine ⟨h.2 x (List.mem_of_getElem? hi), ?_, ?_, ?_, ?_⟩
  · exact hc (i * 4 + 0) _ ((hg 0 (by omega)).trans rfl)
  · have := hc (i * 4 + 1) _ ((hg 1 (by omega)).trans rfl); rwa [← Nat.add_assoc] at this
  · have := hc (i * 4 + 2) _ ((hg 2 (by omega)).trans rfl); rwa [← Nat.add_assoc] at this
  · have := hc (i * 4 + 3) _ ((hg 3 (by omega)).trans rfl); rwa [← Nat.add_assoc] at this
theorem StepsAt.nil : StepsAt S w (.slice none 0 0) [] := ⟨Rd.nil, by simp⟩
end
theorem cells_sp : Try.prog.cellsOf 33 = 4 := by kernel_rfl
section
variable {H : Type} {enc : TypeId × Value → H} {W : World} {base b0 : Nat} {v : Value} {d : DataW H} {p : List MemPlace}
set_option maxRecDepth 100000 in
/-- Four cells that read as a step. -/
theorem sp_of {fuel : Nat} {cs : List Value} {x : DataW H × List MemPlace} {sp : Nat → Bool} (h : DataW.trod enc Try.prog W base sp true fuel 33 cs = some x) : ∃ b : Sp, cs = b.cells ∧ SpOk b := by
  obtain ⟨xs, n, _, _, hlen, hxl, hf⟩ := DataW.trod_struct Try.underlying33 h
  rw [cells_sp] at hlen
  match cs, hlen with
  | [v0, v1, v2, v3], _ =>
    match xs, hxl with
    | [x0, x1, x2, x3], _ =>
      have f0 := hf 0 _ rfl
      have f1 := hf 1 _ rfl
      have f2 := hf 2 _ rfl
      have f3 := hf 3 _ rfl
      have cs1 : Try.prog.cellsOf 9 = 1 := by kernel_rfl
      simp [cs1, cells_int] at f0 f1 f2 f3
      obtain ⟨s0, e0, _, w0⟩ := DataW.trod_string Try.underlying9 f0
      obtain ⟨n1, e1, _, w1⟩ := DataW.trod_int Try.underlying3 f1
      obtain ⟨n2, e2, _, w2⟩ := DataW.trod_int Try.underlying3 f2
      obtain ⟨s3, e3, _, w3⟩ := DataW.trod_string Try.underlying9 f3
      simp at e0 e1 e2 e3
      subst e0 e1 e2 e3
      exact ⟨⟨s0, n1, n2, s3⟩, rfl, bounds_i64 w1, bounds_i64 w2, w0, w3⟩
set_option maxRecDepth 100000 in
theorem steps_of (h : DataW.Trod enc Try.prog W base (fun _ => true) true 22 v d p) (hs : ∃ A n c, v = .slice A n c) : ∃ l, StepsAt Any W v l := by
  obtain ⟨A, n0, c0, rfl⟩ := hs
  obtain ⟨fuel, hf⟩ := h
  rcases open_slice Try.underlying22 hf with ⟨hcs, _⟩ | ⟨a, len, cap, m, n, D, Pl, hcs, _, hl, hm, hmm, _, hi⟩
  · simp [Value.cells] at hcs
    obtain ⟨rfl, rfl, rfl⟩ := hcs
    exact ⟨[], Rd.nil, by simp⟩
  · simp [Value.cells] at hcs
    obtain ⟨rfl, rfl, rfl⟩ := hcs
    simp at hmm
    subst hmm
    rw [cells_sp] at hi
    have hc : ∀ i, i < n0 → ∃ c : Sp, W.cells? base (a.add (i * 4)) 4 = some c.cells ∧ SpOk c := by
      intro i hin
      obtain ⟨cs', h1, h2⟩ := hi i (by omega)
      obtain ⟨c, rfl, hok⟩ := sp_of h2
      exact ⟨c, h1, hok⟩
    clear hi
    have hlist : ∀ k, k ≤ n0 → ∃ cs : List Sp, cs.length = k ∧ ∀ i c, cs[i]? = some c → W.cells? base (a.add (i * 4)) 4 = some c.cells ∧ SpOk c := by
      intro k
      induction k with
      | zero => intro _; exact ⟨[], rfl, by simp⟩
      | succ k ih =>
        intro hk
        obtain ⟨cs, hlen, hall⟩ := ih (by omega)
        obtain ⟨c, h1, h2⟩ := hc k (by omega)
        refine ⟨cs ++ [c], by simp [hlen], fun i c' hi => ?_⟩
        rcases Nat.lt_or_ge i cs.length with hlt | hge
        · rw [List.getElem?_append_left hlt] at hi; exact hall i c' hi
        · rw [List.getElem?_append_right hge] at hi
          have hi0 : i - cs.length = 0 := by
            rcases Nat.eq_zero_or_pos (i - cs.length) with h | h
            · exact h
            · rw [List.getElem?_eq_none (by simp; omega)] at hi; cases hi
          rw [hi0] at hi
          simp at hi
          subst hi
          obtain rfl : i = k := by omega
          exact ⟨h1, h2⟩
    obtain ⟨cs, hlen, hall⟩ := hlist n0 (Nat.le_refl _)
    subst hlen
    refine ⟨cs, ⟨some a, _, rfl, hl, hm, flatSp_len cs, fun hn => ?_⟩, fun c hc => ?_⟩
    · have h0 := (hall 0 cs[0] (List.getElem?_eq_getElem hn)).1
      obtain ⟨_, hcl, hat⟩ := World.cells?_some h0
      have hz := hat 0 (by omega)
      obtain ⟨b, off, rfl⟩ : ∃ b off, a = ⟨b, off, none⟩ := by
        apply ints_spot (u := .string cs[0].word)
        have : (a.add (0 * 4)).add 0 = a.add 0 := by simp [Addr.add]
        rw [← this, hz]; rfl
      refine ⟨b, off, rfl, trivial, fun j u hu => ?_⟩
      have hjl : j < cs.length * 4 := by
        rcases Nat.lt_or_ge j (cs.length * 4) with h | h
        · exact h
        · rw [List.getElem?_eq_none (by rw [flatSp_len]; omega)] at hu; cases hu
      have hq : j / 4 < cs.length := by omega
      have hcq : cs[j / 4]? = some cs[j / 4] := List.getElem?_eq_getElem hq
      have he : j = j / 4 * 4 + j % 4 := by omega
      rw [he, flatSp_get cs _ _ _ hcq (by omega)] at hu
      obtain ⟨_, _, hat⟩ := World.cells?_some (hall _ _ hcq).1
      have := hat (j % 4) (by omega)
      rw [hu, Go.WideShapes.add_plain, Go.WideShapes.add_plain] at this
      rw [he]
      rw [← this]
      simp [Nat.add_assoc]
    · obtain ⟨i, hi⟩ := List.getElem?_of_mem hc
      exact (hall i c hi).2
end
end Go.Proofs.Ytojmnfelecnenaa
namespace Go.Proofs.Ytojmnfelecnenaa
open Go.RowKit Go.Sort

theorem mixed : Try.prog.follows .mixedOrders = true := by kernel_rfl
theorem bcell {W w1 : World} (hb : Below W.heap.size W w1) : (∀ b o, b < W.heap.size → w1.cell? ⟨b, o, none⟩ = W.cell? ⟨b, o, none⟩) ∧ (∀ b o, b < W.heap.size → w1.frozen? ⟨b, o, none⟩ = W.frozen? ⟨b, o, none⟩) :=
  ⟨fun b o h => hb.cell (p := ⟨b, o, none⟩) h, fun b o h => hb.frozen (p := ⟨b, o, none⟩) h⟩
theorem Calls.rg {f : FuncId} {args : Array Value} {w : World} {d : Nat} {os : Array Obj} {v : Value}
    (h : Calls Try.prog f args (grow (redrawn w d) os) (Ret v (grow (redrawn w d) os))) : Calls Try.prog f args (grow (redrawn w d) os) fun e w'' => e = .returned v ∧ ∃ p : Regrown, w'' = grow (redrawn w p.d) p.os :=
  Calls.regrown_of h
theorem Calls.rgSame {f : FuncId} {args : Array Value} {w : World} {d : Nat} {os : Array Obj} {v : Value}
    (h : Calls Try.prog f args (grow (redrawn w d) os) (RetSame v (grow (redrawn w d) os))) : Calls Try.prog f args (grow (redrawn w d) os) fun e w'' => e = .returned v ∧ ∃ p : Regrown, w'' = grow (redrawn w p.d) p.os :=
  Calls.regrown_of (h.mono fun _ _ h => h.ret)
end Go.Proofs.Ytojmnfelecnenaa
namespace Go.Proofs.Ytojmnfelecnenaa
open Go.RowKit

section
variable {P : Program} {S : Nat → Prop} (w : World)

/-- The run of append: the source reads as news, wherever it lies; what was owned is still owned, with news behind it. -/
theorem run_append_rd (base : Nat) (t ty e : TypeId) (i : TypeInfo) (z : Value) (size bytes : Nat) (ht : P.underlying t = some (.slice e)) (hi : P.info? e = some i) (hz : i.zero = some z)
    (hsize : i.size = size) (hby : i.bytes = bytes) (hzs : z.cells.size = size) (hsz : 0 < size)
    (v : Value) (n : Nat) (xs : List Value) (hown : w.ownsRow base e size v n xs)
    (x : Value) (m : Nat) (news : List Value) (hr : Rd S w size x m news) (h1 : ∀ u ∈ news, u.oneCell' = true)
    (h63 : n + m ≤ maxLen) (hbytes : (n + m) * bytes ≤ 140737488355328) (hbase : base ≤ w.heap.size) :
    ∃ v' w', (Builtin.append_ #[t, t] ty #[v, x]).run P w = .ok v' w' ∧ w'.ownsRow base e size v' (n + m) (xs ++ news) ∧ w.grownBy w' v.ownBlock ∧
      (v'.ownBlock = v.ownBlock ∨ v'.ownBlock = some w.heap.size) := by
  obtain ⟨A, c, rfl, hmc, hcm, hlen, hat⟩ := hr
  cases A with
  | none =>
    have hm : m = 0 := by
      rcases Nat.eq_zero_or_pos m with h0 | h0
      · exact h0
      · obtain ⟨_, _, h, _⟩ := hat h0
        cases h
    subst hm
    obtain rfl : news = [] := List.eq_nil_of_length_eq_zero (by simpa using hlen)
    refine ⟨v, w, ?_, by simpa using hown, World.grownBy.refl w _, .inl rfl⟩
    rcases hown.2 with ⟨rfl, rfl⟩ | ⟨g, cap, cur, rfl, _, _, hnc, _⟩
    · simp [Builtin.append_, run_underlying ht, sizeOf, typeInfo, hi, Builtin.lenOf, Builtin.firstCells]
    · simp [Builtin.append_, run_underlying ht, sizeOf, typeInfo, hi, Builtin.lenOf, Builtin.firstCells, hnc, storeCells]
  | some ad =>
    have hcells : ∀ j u, news[j]? = some u → w.cell? (ad.add j) = some u := by
      intro j u hu
      rcases Nat.eq_zero_or_pos m with h0 | h0
      · subst h0
        obtain rfl : news = [] := List.eq_nil_of_length_eq_zero (by simpa using hlen)
        simp at hu
      · obtain ⟨b, off, he, _, hc⟩ := hat h0
        cases he
        rw [Go.WideShapes.add_plain]
        exact hc j u hu
    obtain ⟨v', w', hrun, h2, h3, _, h5⟩ := run_append_own_at (P := P) w base t ty e i z size bytes ht hi hz hsize hby hzs hsz v n xs hown ad m c news hlen hcells h1 h63 hbytes hbase
    exact ⟨v', w', hrun, h2, h3, h5⟩

theorem wpList_append_rd {ops : Array Oper} {rest : List Oper} {o : Oper} {a : Act} {Q : Exit → Act → World → Prop} (hgd : o.guard = none) (s x : Operand) (t : TypeId)
    (ho : o.op = .call { callee := .builtin .append, args := #[s, x], argTypes := #[t, t] })
    (base : Nat) (e : TypeId) (i : TypeInfo) (z : Value) (size bytes : Nat) (ht : P.underlying t = some (.slice e)) (hi : P.info? e = some i) (hz : i.zero = some z)
    (hsize : i.size = size) (hby : i.bytes = bytes) (hzs : z.cells.size = size) (hsz : 0 < size)
    (v : Value) (n : Nat) (xs : List Value) (hs : a.eval s = v) (hown : w.ownsRow base e size v n xs)
    (u : Value) (m : Nat) (news : List Value) (hx : a.eval x = u) (hr : Rd S w size u m news) (h1 : ∀ u ∈ news, u.oneCell' = true)
    (h63 : n + m ≤ maxLen) (hbytes : (n + m) * bytes ≤ 140737488355328) (hbase : base ≤ w.heap.size)
    (h : ∀ v' w', w'.ownsRow base e size v' (n + m) (xs ++ news) → w.grownBy w' v.ownBlock → (v'.ownBlock = v.ownBlock ∨ v'.ownBlock = some w.heap.size) → wpList P ops Q rest (a.put o.dst v') w') : wpList P ops Q (o :: rest) a w :=
  wpList_plain hgd fun K hK => by
    obtain ⟨v', w', hrun, h2, h3, h4⟩ := run_append_rd (P := P) (S := S) w base t o.type e i z size bytes ht hi hz hsize hby hzs hsz v n xs hown u m news hr h1 h63 hbytes hbase
    unfold Oper.wp execOp
    simp only [ho, resolve, invoke, builtin, Sem.run_bind, Sem.run_pure, Result.andThen_ok, List.map_toArray, List.map_cons, List.map_nil, hs, hx, hrun]
    exact hK _ _ (h v' w' h2 h3 h4)

/-- The same, as a step of a region that draws its order. -/
theorem step_append_rd {ops : Array Oper} {o : Oper} {a : Act} {K : Act → World → Prop} {Q : Exit → Act → World → Prop} {E : Prop} (hgd : o.guard = none) (s x : Operand) (t : TypeId)
    (ho : o.op = .call { callee := .builtin .append, args := #[s, x], argTypes := #[t, t] })
    (base : Nat) (e : TypeId) (i : TypeInfo) (z : Value) (size bytes : Nat) (ht : P.underlying t = some (.slice e)) (hi : P.info? e = some i) (hz : i.zero = some z)
    (hsize : i.size = size) (hby : i.bytes = bytes) (hzs : z.cells.size = size) (hsz : 0 < size)
    (v : Value) (n : Nat) (xs : List Value) (hs : a.eval s = v) (hown : w.ownsRow base e size v n xs)
    (u : Value) (m : Nat) (news : List Value) (hx : a.eval x = u) (hr : Rd S w size u m news) (h1 : ∀ u ∈ news, u.oneCell' = true)
    (h63 : n + m ≤ maxLen) (hbytes : (n + m) * bytes ≤ 140737488355328) (hbase : base ≤ w.heap.size)
    (h : ∀ v' w', w'.ownsRow base e size v' (n + m) (xs ++ news) → w.grownBy w' v.ownBlock → (v'.ownBlock = v.ownBlock ∨ v'.ownBlock = some w.heap.size) → K (a.put o.dst v') w') :
    if Region.wanted o (yielded ops a.tmps) = true then Oper.wp P o a w K Q else E := by
  have hw : Region.wanted o (yielded ops a.tmps) = true := by simp [Region.wanted, hgd]
  rw [if_pos hw]
  obtain ⟨v', w', hrun, h2, h3, h4⟩ := run_append_rd (P := P) (S := S) w base t o.type e i z size bytes ht hi hz hsize hby hzs hsz v n xs hown u m news hr h1 h63 hbytes hbase
  unfold Oper.wp execOp
  simp only [ho, resolve, invoke, builtin, Sem.run_bind, Sem.run_pure, Result.andThen_ok, List.map_toArray, List.map_cons, List.map_nil, hs, hx, hrun]
  exact h v' w' h2 h3 h4

/-- append where there is room: the row stays where it is. -/
theorem run_append_rd_fits (base : Nat) (t ty e : TypeId) (i : TypeInfo) (size : Nat) (ht : P.underlying t = some (.slice e)) (hi : P.info? e = some i) (hsize : i.size = size)
    (g n cap : Nat) (xs : List Value) (hown : w.ownsRow base e size (.slice (some ⟨g, 0, none⟩) n cap) n xs)
    (x : Value) (m : Nat) (news : List Value) (hr : Rd S w size x m news) (h1 : ∀ u ∈ news, u.oneCell' = true) (hroom : n + m ≤ cap) :
    ∃ w', (Builtin.append_ #[t, t] ty #[.slice (some ⟨g, 0, none⟩) n cap, x]).run P w = .ok (.slice (some ⟨g, 0, none⟩) (n + m) cap) w' ∧
      w'.ownsRow base e size (.slice (some ⟨g, 0, none⟩) (n + m) cap) (n + m) (xs ++ news) ∧ w.grownBy w' (some g) := by
  obtain ⟨A, c, rfl, hmc, hcm, hlen, hat⟩ := hr
  have hm0 : m = 0 → news = [] := fun h => List.eq_nil_of_length_eq_zero (by rw [hlen, h]; simp)
  cases A with
  | none =>
    have hm : m = 0 := by
      rcases Nat.eq_zero_or_pos m with h0 | h0
      · exact h0
      · obtain ⟨_, _, h, _⟩ := hat h0
        cases h
    obtain rfl := hm0 hm
    subst hm
    refine ⟨w, ?_, by simpa using hown, World.grownBy.refl w _⟩
    rcases hown.2 with ⟨h, _⟩ | ⟨g', cap', cur, h, _, _, hnc, _⟩
    · cases h
    · cases h
      simp [Builtin.append_, run_underlying ht, sizeOf, typeInfo, hi, Builtin.lenOf, Builtin.firstCells, hnc, storeCells]
  | some ad =>
    refine run_append_fits (P := P) w base t ty e i size ht hi hsize g n cap xs hown ad m c news hlen (fun j u hu => ?_) h1 hroom
    rcases Nat.eq_zero_or_pos m with h0 | h0
    · rw [hm0 h0] at hu; simp at hu
    · obtain ⟨b, off, he, _, hc⟩ := hat h0
      cases he
      rw [Go.WideShapes.add_plain]
      exact hc j u hu

theorem step_append_rd_fits {ops : Array Oper} {o : Oper} {a : Act} {K : Act → World → Prop} {Q : Exit → Act → World → Prop} {E : Prop} (hgd : o.guard = none) (s x : Operand) (t : TypeId)
    (ho : o.op = .call { callee := .builtin .append, args := #[s, x], argTypes := #[t, t] })
    (base : Nat) (e : TypeId) (i : TypeInfo) (size : Nat) (ht : P.underlying t = some (.slice e)) (hi : P.info? e = some i) (hsize : i.size = size)
    (g n cap : Nat) (xs : List Value) (hs : a.eval s = .slice (some ⟨g, 0, none⟩) n cap) (hown : w.ownsRow base e size (.slice (some ⟨g, 0, none⟩) n cap) n xs)
    (u : Value) (m : Nat) (news : List Value) (hx : a.eval x = u) (hr : Rd S w size u m news) (h1 : ∀ u ∈ news, u.oneCell' = true) (hroom : n + m ≤ cap)
    (h : ∀ w', w'.ownsRow base e size (.slice (some ⟨g, 0, none⟩) (n + m) cap) (n + m) (xs ++ news) → w.grownBy w' (some g) → K (a.put o.dst (.slice (some ⟨g, 0, none⟩) (n + m) cap)) w') :
    if Region.wanted o (yielded ops a.tmps) = true then Oper.wp P o a w K Q else E := by
  have hw : Region.wanted o (yielded ops a.tmps) = true := by simp [Region.wanted, hgd]
  rw [if_pos hw]
  obtain ⟨w', hrun, h2, h3⟩ := run_append_rd_fits (P := P) (S := S) w base t o.type e i size ht hi hsize g n cap xs hown u m news hr h1 hroom
  unfold Oper.wp execOp
  simp only [ho, resolve, invoke, builtin, Sem.run_bind, Sem.run_pure, Result.andThen_ok, List.map_toArray, List.map_cons, List.map_nil, hs, hx, hrun]
  exact h w' h2 h3

/-- The head of what is owned is owned. -/
theorem own_take {base : Nat} {e : TypeId} {size n cap k : Nat} {A : Option Addr} {xs : List Value} (hk : k ≤ n) (hn : 0 < n) (h : w.ownsRow base e size (.slice A n cap) n xs) : w.ownsRow base e size (.slice A k cap) k (xs.take (k * size)) := by
  obtain ⟨hl, h2⟩ := h
  have hkn : k * size ≤ n * size := Nat.mul_le_mul_right _ hk
  refine ⟨by rw [List.length_take, hl]; omega, ?_⟩
  rcases h2 with ⟨hv, h0⟩ | ⟨g, cap', cur, hv, hb, hh, hnc, hcm, hcs, htake⟩
  · omega
  · cases hv
    exact .inr ⟨g, _, cur, rfl, hb, hh, by omega, hcm, hcs, by rw [← htake, List.take_take]; congr 1; omega⟩

/-- What is owned reads as what it holds. -/
theorem Rd.of_own {base : Nat} {e : TypeId} {size n : Nat} {v : Value} {xs : List Value} (hS : ∀ b, base ≤ b → S b) (h : w.ownsRow base e size v n xs) : Rd S w size v n xs := by
  rcases h.2 with ⟨rfl, rfl⟩ | ⟨g, cap, cur, rfl, hb, hh, hnc, hcm, hcs, htake⟩
  · obtain rfl : xs = [] := List.eq_nil_of_length_eq_zero (by simpa using h.1)
    exact Rd.nil
  · refine ⟨_, cap, rfl, hnc, hcm, h.1, fun hn => ⟨g, 0, rfl, hS _ hb, fun j u hu => ?_⟩⟩
    have := h.cells (g := g) rfl j u hu
    rwa [Go.WideShapes.add_plain] at this
end
end Go.Proofs.Ytojmnfelecnenaa
namespace Go.Proofs.Ytojmnfelecnenaa
open Go.RowKit

/-- It returns a row of the call's own, that holds xs. -/
def RetOwn (e : TypeId) (size n : Nat) (xs : List Value) (w : World) : Ending → World → Prop := fun E w' => ∃ v, E = .returned v ∧ w'.ownsRow w.heap.size e size v n xs ∧ Below w.heap.size w w'

theorem reqInfo : (Try.prog.info? 44).map (fun i => (i.zero, i.size, i.bytes)) = some (some (.agg #[.bool false, .int .i64 0, .int .i64 0, .slice none 0 0, .slice none 0 0, .int .i64 0]), 6, 80) := by kernel_rfl
theorem nil_reqs (a : Option Addr) (n c : Nat) (w : World) : (binOp .eql 35 (.slice a n c) (.slice none 0 0)).run Try.prog w = .ok (.bool a.isNone) w := Lib.run_eql_slice_nil w _ _ a n c 0 0 Try.underlying35

set_option maxRecDepth 100000 in
theorem clone_any (S : Nat → Prop) (v : Value) (n : Nat) (xs : List Value) (w : World) (h : Rd S w 6 v n xs) (h1 : ∀ u ∈ xs, u.oneCell' = true) (hn : n ≤ 65536) :
    Calls Try.prog 43 #[v] w (RetOwn 44 6 n xs w) := by
  obtain ⟨i0, hi0, hz0, hz1, hz2⟩ := info_parts reqInfo
  have H := Lib.hid h
  obtain ⟨A, c, rfl, hm, hc⟩ := h.form
  clear h
  have hnil := nil_reqs A n c w
  cases A with
  | none =>
    have hn0 : n = 0 := by
      obtain ⟨A', c', e, _, _, _, h4⟩ := H.out
      cases e
      rcases Nat.eq_zero_or_pos n with h | h
      · exact h
      · obtain ⟨_, _, h, _⟩ := h4 h; cases h
    subst hn0
    have hx : xs = [] := List.eq_nil_of_length_eq_zero (by obtain ⟨_, _, _, _, _, h, _⟩ := H.out; simpa using h)
    subst hx
    go_enter Try.func43, Try.ntmps43
    go_wp2_with fail
    go_ret
    exact ⟨_, rfl, World.ownsRow_nil _ _ _ _, Below.refl _ _⟩
  | some ad =>
    go_enter Try.func43, Try.ntmps43
    go_wp2_with (at_builtin; refine wpList_append_rd (S := S) _ rfl (.tmp 5) (.tmp 6) _ rfl w.heap.size 44 i0 _ 6 80 Try.underlying35 hi0 hz0 hz1 hz2 rfl (by omega) (.slice (some ⟨w.heap.size, 0, none⟩) 0 0) 0 [] rfl (World.ownsRow_lit w #[] 0 (Nat.le_refl _) (by simp [maxLen]) (by simp)) (.slice (some ad) n c) n xs rfl (H.out.below ((Below.refl _ _).alloc (Nat.le_refl _) _)) h1 (by simp only [maxLen]; omega) (by omega) (by simp) ?_; intro v1 w1 hown1 hg1 hat1)
    go_ret
    refine ⟨v1, rfl, by simpa using hown1, ((Below.refl _ _).alloc (Nat.le_refl _) _).grown hg1 (by simp) (fun k hk => ?_)⟩
    simp [Value.ownBlock] at hk
    omega
end Go.Proofs.Ytojmnfelecnenaa
namespace Go.Proofs.Ytojmnfelecnenaa
open Go.RowKit

theorem run_clear_row {P : Program} (w : World) (t e ty : TypeId) (z : Value) (size : Nat) (ht : P.underlying t = some (.slice e)) (hv : ∀ w, (zeroValue e).run P w = .ok z w) (hz : z.cells.size = size)
    (h1 : ∀ n, ∀ u ∈ (Builtin.zeroCells z.cells n).toList, u.oneCell' = true) (g o n c : Nat) (T : TypeId) (cur : Array Value) (hg : w.heap[g]? = some (.cells cur T (0, 0))) (hfit : o + n * size ≤ cur.size) :
    ∃ cur', (Builtin.clear_ #[t] ty #[.slice (some ⟨g, o, none⟩) n c]).run P w = .ok (.tuple #[]) (w.setRow g cur') ∧ cur'.size = cur.size ∧ cur'.toList.take o = cur.toList.take o := by
  cases n with
  | zero =>
    refine ⟨cur, ?_, rfl, rfl⟩
    rw [setRow_self w g cur T (0, 0) hg]
    simp [Builtin.clear_, run_underlying ht]
  | succ m =>
    have hlen : (Builtin.zeroCells z.cells (m + 1)).toList.length = (m + 1) * size := by rw [Array.length_toList, size_zeroCells, hz]
    have hst := run_storeCells_at P g o T (Builtin.zeroCells z.cells (m + 1)).toList 0 cur w hg (by rw [hlen]; simpa using hfit) (h1 _)
    refine ⟨(cur.toList.take (o + 0) ++ (Builtin.zeroCells z.cells (m + 1)).toList ++ cur.toList.drop (o + 0 + (Builtin.zeroCells z.cells (m + 1)).toList.length)).toArray, ?_, ?_, ?_⟩
    · simp [Builtin.clear_, run_underlying ht, hv, hst]
    · simp only [List.size_toArray, List.length_append, List.length_take, List.length_drop, hlen, Array.length_toList]
      omega
    · simp only [Nat.add_zero, List.append_assoc]
      rw [List.take_append_of_le_length (by simp; omega)]
      simp [List.take_take]
end Go.Proofs.Ytojmnfelecnenaa
namespace Go.Proofs.Ytojmnfelecnenaa
open Go.RowKit

theorem one_zeros {z : Array Value} (hz : ∀ u ∈ z.toList, u.oneCell' = true) (n : Nat) : ∀ u ∈ (Builtin.zeroCells z n).toList, u.oneCell' = true := by
  intro u hu
  unfold Builtin.zeroCells at hu
  rw [Array.toList_map, List.mem_map] at hu
  obtain ⟨i, hi, rfl⟩ := hu
  simp at hi
  have hp : 0 < z.size := Nat.pos_of_ne_zero fun h => by rw [h] at hi; simp at hi
  have hm := Nat.mod_lt i hp
  rw [getElem!_pos z _ hm]
  exact hz _ (by simp)
abbrev zeroRq : Value := .agg #[.bool false, .int .i64 0, .int .i64 0, .slice none 0 0, .slice none 0 0, .int .i64 0]
theorem zero_req : ∀ w, (zeroValue 44).run Try.prog w = .ok zeroRq w := fun _ => by kernel_rfl

set_option maxRecDepth 100000 in
set_option maxHeartbeats 1000000 in
theorem delete_any (base g n cap i : Nat) (xs : List Value) (w : World) (hown : w.ownsRow base 44 6 (.slice (some ⟨g, 0, none⟩) n cap) n xs) (h1 : ∀ u ∈ xs, u.oneCell' = true) (hi : i < n) (hn : n ≤ 65536) :
    Calls Try.prog 78 #[.slice (some ⟨g, 0, none⟩) n cap, .int .i64 i, .int .i64 ((i : Int) + 1)] w fun E w' =>
      ∃ v, E = .returned v ∧ w'.ownsRow base 44 6 v (n - 1) (xs.take (i * 6) ++ xs.drop ((i + 1) * 6)) ∧ w.grownBy w' (some g) := by
  obtain ⟨i0, hi0, hz0, hz1, hz2⟩ := info_parts reqInfo
  have hcap : n ≤ cap ∧ cap ≤ maxLen := by
    rcases hown.2 with ⟨hv, _⟩ | ⟨_, _, _, hv, _, _, h3, h4, _⟩
    · cases hv
    · cases hv; exact ⟨h3, h4⟩
  obtain ⟨hc1, hc2⟩ := hcap
  unfold maxLen at hc2
  have hin : (i : Int) < (n : Int) := by omega
  have hne : ((i : Int) == (i : Int) + 1) = false := by simp; omega
  have hlen := hown.1
  have hrd := Rd.of_own (S := fun _ => True) w (fun _ _ => trivial) hown
  obtain ⟨X, hX, hR⟩ : ∃ X : Option Addr, (if cap = i + 1 then some (⟨g, 0, none⟩ : Addr) else some ⟨g, (i + 1) * 6, none⟩) = X ∧ Hid (Rd (fun _ => True) w.drew 6 (.slice X (n - (i + 1)) (cap - (i + 1))) (n - (i + 1)) (xs.drop ((i + 1) * 6))) := by
    refine ⟨_, rfl, ?_⟩
    show Rd _ _ _ _ _ _
    refine ⟨_, _, rfl, by omega, by simp only [maxLen]; omega, by rw [List.length_drop, hlen]; omega, fun hpos => ?_⟩
    rw [if_neg (by omega)]
    obtain ⟨b, off, e, _, _, hcell⟩ := hrd.at_ (by omega) (by omega)
    cases e
    refine ⟨g, (i + 1) * 6, rfl, trivial, fun j u hu => ?_⟩
    rw [List.getElem?_drop] at hu
    have := hcell _ _ hu
    simpa using this
  have hT := Lib.hid (own_take w (k := i) (by omega) (by omega) hown)
  have hic : i ≤ cap := by omega
  have hbase : base ≤ w.heap.size := by have := hown.lt g rfl; omega
  have hgl : g < w.heap.size := (hown.lt g rfl).2
  have hbg : base ≤ g := (hown.lt g rfl).1
  clear hrd hown
  have hp0 : (0 : Int) ≤ (i : Int) + 1 := by omega
  have hp1 : (i : Int) + 1 ≤ (n : Int) := by omega
  have hp2 : ((i : Int) + 1).toNat = i + 1 := by omega
  go_enter Try.func78, Try.ntmps78
  go_wp2_with fail
  go_region_law (refine step_append_rd_fits (S := fun _ => True) _ rfl (.tmp 22) (.tmp 25) _ rfl base 44 i0 6 Try.underlying35 hi0 hz1 g i cap (xs.take (i * 6)) rfl hT.out (.slice X (n - (i + 1)) (cap - (i + 1))) (n - (i + 1)) (xs.drop ((i + 1) * 6)) rfl hR.out (fun u hu => h1 u (List.mem_of_mem_drop hu)) (by omega) ?_; intro w1 hown1 hg1)
  have hm : i + (n - (i + 1)) = n - 1 := by omega
  obtain ⟨cur, hcell, hsz, htk⟩ : ∃ cur, w1.heap[g]? = some (.cells cur 44 (0, 0)) ∧ cur.size = cap * 6 ∧ cur.toList.take ((i + (n - (i + 1))) * 6) = xs.take (i * 6) ++ xs.drop ((i + 1) * 6) := by
    rcases hown1.2 with ⟨hv, _⟩ | ⟨_, _, cur, hv, _, h2, _, _, h5, h6⟩
    · cases hv
    · cases hv; exact ⟨cur, h2, h5, h6⟩
  obtain ⟨cur', hrun, hsz', htk'⟩ := run_clear_row (P := Try.prog) w1 35 44 0 zeroRq 6 Try.underlying35 zero_req rfl
    (fun n u hu => one_zeros (by decide) n u hu) g ((i + (n - (i + 1))) * 6) (n - (i + (n - (i + 1)))) (cap - (i + (n - (i + 1)))) _ cur hcell (by rw [hsz]; omega)
  have Hown := Lib.hid hown1
  have Hcell := Lib.hid hcell
  have Hs := Lib.hid hsz
  have Hs' := Lib.hid hsz'
  have Ht := Lib.hid htk
  have Ht' := Lib.hid htk'
  have Hm := Lib.hid hm
  clear hown1 hcell hsz hsz' htk htk' hm hlen hX hR hT
  go_wp2_with fail
  go_ret
  refine ⟨_, rfl, ?_, ?_⟩
  · have ht := Ht'.out.trans Ht.out
    have ht2 := Ht.out
    rw [Hm.out] at ht ht2 ⊢
    refine ⟨by rw [← ht2, List.length_take, Array.length_toList, Hs.out]; omega, .inr ⟨g, cap, cur', rfl, hbg, setRow_heap _ _ _ _ _ _ Hcell.out, by omega, by simp only [maxLen]; omega, by rw [Hs'.out, Hs.out], ht⟩⟩
  · exact ⟨hg1.os, hg1.tape, hg1.output, by simpa using hg1.size, fun k hk hkg => by rw [setRow_other _ _ _ _ (fun h => hkg (by rw [h]))]; exact hg1.block k (by simpa using hk) hkg⟩
end Go.Proofs.Ytojmnfelecnenaa
namespace Go.Proofs.Ytojmnfelecnenaa
set_option linter.unusedSimpArgs false
set_option linter.unusedVariables false
open Go.RowKit

theorem own_keep {w w' : World} {base : Nat} {e : TypeId} {size n : Nat} {g cap k : Nat} {xs : List Value} (h : w.ownsRow base e size (.slice (some ⟨g, k, none⟩) n cap) n xs) (hk : w'.heap[g]? = w.heap[g]?) :
    w'.ownsRow base e size (.slice (some ⟨g, k, none⟩) n cap) n xs := by
  obtain ⟨h1, h2⟩ := h
  refine ⟨h1, ?_⟩
  rcases h2 with h2 | ⟨g', cap', cur, hv, hb, hh, h3⟩
  · exact .inl h2
  · cases hv
    exact .inr ⟨g, cap, cur, rfl, hb, hk.trans hh, h3⟩
theorem own_form {w : World} {base : Nat} {e : TypeId} {size n : Nat} {v : Value} {xs : List Value} (h : w.ownsRow base e size v n xs) (hn : 0 < n) :
    ∃ g cap, v = .slice (some ⟨g, 0, none⟩) n cap ∧ base ≤ g ∧ g < w.heap.size ∧ n ≤ cap ∧ cap ≤ 9223372036854775807 := by
  rcases h.2 with ⟨_, h0⟩ | ⟨g, cap, cur, hv, hb, hh, h3, h4, _⟩
  · omega
  · subst hv
    unfold maxLen at h4
    exact ⟨g, cap, rfl, hb, (h.lt g rfl).2, h3, by omega⟩
theorem flat_take (cs : List Rc) : ∀ i, (cs.flatMap Rc.cells).take (i * 6) = (cs.take i).flatMap Rc.cells := by
  induction cs with
  | nil => simp
  | cons c cs ih =>
    intro i
    cases i with
    | zero => simp
    | succ i =>
      rw [List.flatMap_cons, List.take_succ_cons, List.flatMap_cons, ← ih, List.take_append]
      have : (i + 1) * 6 - c.cells.length = i * 6 := by simp [Rc.cells]; omega
      rw [this, List.take_of_length_le (by simp [Rc.cells]; omega)]
theorem flat_drop (cs : List Rc) : ∀ i, (cs.flatMap Rc.cells).drop (i * 6) = (cs.drop i).flatMap Rc.cells := by
  induction cs with
  | nil => simp
  | cons c cs ih =>
    intro i
    cases i with
    | zero => simp
    | succ i =>
      rw [List.flatMap_cons, List.drop_succ_cons, ← ih, List.drop_append]
      have : (i + 1) * 6 - c.cells.length = i * 6 := by simp [Rc.cells]; omega
      rw [this, List.drop_eq_nil_of_le (by simp [Rc.cells]; omega)]; rfl
theorem cells_one {S : Nat → Prop} {w : World} {cs : List Rc} (h : ∀ c ∈ cs, RcOk S w c) : ∀ u ∈ cs.flatMap Rc.cells, u.oneCell' = true := by
  intro u hu
  obtain ⟨c, hc, hu⟩ := List.mem_flatMap.1 hu
  have hok := h c hc
  obtain ⟨_, _, e1, _, _⟩ := hok.data.form
  obtain ⟨_, _, e2, _, _⟩ := hok.tags.form
  simp only [Rc.cells, e1, e2, List.mem_cons, List.not_mem_nil, or_false] at hu
  rcases hu with rfl | rfl | rfl | rfl | rfl | rfl <;> rfl
theorem reqs_of_own {S : Nat → Prop} {w : World} {base : Nat} {e : TypeId} {v : Value} {cs : List Rc} (hS : ∀ b, base ≤ b → S b) (h : w.ownsRow base e 6 v cs.length (cs.flatMap Rc.cells)) (hc : ∀ c ∈ cs, RcOk S w c) : ReqsAt S w v (cs.map (·.r)) :=
  ⟨cs, rfl, Rd.of_own w hS h, hc⟩

theorem keep6 {W w1 : World} {b o : Nat} {v0 v1 v2 v3 v4 v5 : Value} {B : Nat} (hb : Below B W w1) (hlt : b < B) (h : W.cell? ⟨b, o, none⟩ = some v0 ∧ W.cell? ⟨b, o + 1, none⟩ = some v1 ∧ W.cell? ⟨b, o + 2, none⟩ = some v2 ∧ W.cell? ⟨b, o + 3, none⟩ = some v3 ∧
    W.cell? ⟨b, o + 4, none⟩ = some v4 ∧ W.cell? ⟨b, o + 5, none⟩ = some v5) : w1.cell? ⟨b, o, none⟩ = some v0 ∧ w1.cell? ⟨b, o + 1, none⟩ = some v1 ∧ w1.cell? ⟨b, o + 2, none⟩ = some v2 ∧ w1.cell? ⟨b, o + 3, none⟩ = some v3 ∧
    w1.cell? ⟨b, o + 4, none⟩ = some v4 ∧ w1.cell? ⟨b, o + 5, none⟩ = some v5 := by
  obtain ⟨h0, h1, h2, h3, h4, h5⟩ := h
  exact ⟨(hb.cell (p := ⟨b, _, none⟩) hlt).trans h0, (hb.cell (p := ⟨b, _, none⟩) hlt).trans h1, (hb.cell (p := ⟨b, _, none⟩) hlt).trans h2, (hb.cell (p := ⟨b, _, none⟩) hlt).trans h3, (hb.cell (p := ⟨b, _, none⟩) hlt).trans h4, (hb.cell (p := ⟨b, _, none⟩) hlt).trans h5⟩

theorem box6 {W : World} {B : Nat} {T : TypeId} {v0 v1 v2 v3 v4 v5 : Value} (h : W.heap[B]? = some (.cells #[v0, v1, v2, v3, v4, v5] T (0, 0))) :
    (W.cell? ⟨B, 0, none⟩ = some v0 ∧ W.frozen? ⟨B, 0, none⟩ = false) ∧ (W.cell? ⟨B, 1, none⟩ = some v1 ∧ W.frozen? ⟨B, 1, none⟩ = false) ∧ (W.cell? ⟨B, 2, none⟩ = some v2 ∧ W.frozen? ⟨B, 2, none⟩ = false) ∧
    (W.cell? ⟨B, 3, none⟩ = some v3 ∧ W.frozen? ⟨B, 3, none⟩ = false) ∧ (W.cell? ⟨B, 4, none⟩ = some v4 ∧ W.frozen? ⟨B, 4, none⟩ = false) ∧ (W.cell? ⟨B, 5, none⟩ = some v5 ∧ W.frozen? ⟨B, 5, none⟩ = false) :=
  ⟨⟨cell_of_row _ _ 0 _ _ _ h, frozen_of_row _ _ 0 _ _ h⟩, ⟨cell_of_row _ _ 1 _ _ _ h, frozen_of_row _ _ 1 _ _ h⟩, ⟨cell_of_row _ _ 2 _ _ _ h, frozen_of_row _ _ 2 _ _ h⟩, ⟨cell_of_row _ _ 3 _ _ _ h, frozen_of_row _ _ 3 _ _ h⟩,
    ⟨cell_of_row _ _ 4 _ _ _ h, frozen_of_row _ _ 4 _ _ h⟩, ⟨cell_of_row _ _ 5 _ _ _ h, frozen_of_row _ _ 5 _ _ h⟩⟩

theorem own_keep' {w w' : World} {base : Nat} {e : TypeId} {size n : Nat} {v : Value} {xs : List Value} (h : w.ownsRow base e size v n xs) (hk : ∀ g, base ≤ g → w'.heap[g]? = w.heap[g]?) : w'.ownsRow base e size v n xs := by
  obtain ⟨h1, h2⟩ := h
  refine ⟨h1, ?_⟩
  rcases h2 with h2 | ⟨g', cap', cur, hv, hb, hh, h3⟩
  · exact .inl h2
  · exact .inr ⟨g', cap', cur, hv, hb, (hk _ hb).trans hh, h3⟩

theorem own_base {w : World} {base base' : Nat} {e : TypeId} {size n : Nat} {v : Value} {xs : List Value} (h : w.ownsRow base e size v n xs) (hb : base' ≤ base) : w.ownsRow base' e size v n xs := by
  obtain ⟨h1, h2⟩ := h
  refine ⟨h1, ?_⟩
  rcases h2 with h2 | ⟨g', cap', cur, hv, hbb, hh, h3⟩
  · exact .inl h2
  · exact .inr ⟨g', cap', cur, hv, by omega, hh, h3⟩
/-- A list of requests, in a row of the call's own. -/
def ReqsOwn (S : Nat → Prop) (base : Nat) (w : World) (v : Value) (l : List Rq) : Prop := ∃ cs : List Rc, cs.map (·.r) = l ∧ w.ownsRow base 44 6 v cs.length (cs.flatMap Rc.cells) ∧ ∀ c ∈ cs, RcOk (fun b => S b ∧ b < base) w c
theorem ReqsOwn.at_ {S : Nat → Prop} {base : Nat} {w : World} {v : Value} {l : List Rq} (h : ReqsOwn S base w v l) (hS : ∀ b, base ≤ b → S b) : ReqsAt S w v l := by
  obtain ⟨cs, rfl, h1, h2⟩ := h
  exact reqs_of_own hS h1 (fun c hc => (h2 c hc).more (fun b hb => hb.1))

def RetTake (S : Nat → Prop) (l : List Rq) (r : Rq) (w : World) : Ending → World → Prop := fun E w' => ∃ v' rv, E = .returned (.tuple #[v', rv]) ∧ ReqsOwn S w.heap.size w' v' l ∧ ReqAt (fun b => S b ∧ b < w.heap.size) w' rv r ∧ Below w.heap.size w w'

set_option maxRecDepth 100000 in
set_option maxHeartbeats 2000000 in
theorem take_any (S : Nat → Prop) (l : List Rq) (v : Value) (i : Nat) (r : Rq) (w : World) (h : ReqsAt S w v l) (hS : ∀ b, w.heap.size ≤ b → S b) (hi : l[i]? = some r) (hn : l.length ≤ 65536) :
    Calls Try.prog 55 #[v, .int .i64 i] w (RetTake S (l.eraseIdx i) r w) := by
  have H := Lib.hid h
  have hS' := Lib.hid hS
  have hlt : i < l.length := by
    rcases Nat.lt_or_ge i l.length with h | h
    · exact h
    · rw [List.getElem?_eq_none h] at hi; cases hi
  obtain ⟨cs, hcs, hrd, hok⟩ := h
  have hlen : cs.length = l.length := by rw [← hcs, List.length_map]
  have h1 := Lib.hid (cells_one hok)
  have Hrd := Lib.hid hrd
  have Hok := Lib.hid hok
  obtain ⟨A, cap, rfl, _, hcap⟩ := H.out.form
  obtain ⟨b, off, rfl, _, hbl, hc⟩ := H.out.at_ (by omega)
  obtain ⟨Ad, cd, At, ct, hreq, k0, k1, k2, k3, k4, k5⟩ := hc i r hi
  have Hc := Lib.hid hreq
  have Hcs := Lib.hid hcs
  have Hi := Lib.hid hi
  unfold maxLen at hcap
  clear hc hok hrd hcs hreq hi hS
  have Hlen := Lib.hid hlen
  have hii : (i : Int) < (l.length : Int) := by omega
  have hw1 : IntKind.i64.wrap ((i : Int) + 1) = (i : Int) + 1 := IntWalk.i64_in _ (by omega)
  go_enter Try.func55, Try.ntmps55
  go_wp2_with fail
  clear hlen
  have hT := (Below.refl w.heap.size w).alloc (Nat.le_refl _) (Obj.cells #[Value.bool false, Value.int IntKind.i64 0, Value.int IntKind.i64 0, Value.slice none 0 0, Value.slice none 0 0, Value.int IntKind.i64 0] 44)
  have hbox := heap_alloc_new w (Obj.cells #[Value.bool false, Value.int IntKind.i64 0, Value.int IntKind.i64 0, Value.slice none 0 0, Value.slice none 0 0, Value.int IntKind.i64 0] 44)
  have hsz : (w.alloc (Obj.cells #[Value.bool false, Value.int IntKind.i64 0, Value.int IntKind.i64 0, Value.slice none 0 0, Value.slice none 0 0, Value.int IntKind.i64 0] 44)).heap.size = w.heap.size + 1 := by simp
  generalize w.alloc (Obj.cells #[Value.bool false, Value.int IntKind.i64 0, Value.int IntKind.i64 0, Value.slice none 0 0, Value.slice none 0 0, Value.int IntKind.i64 0] 44) = W at hT hbox hsz ⊢
  have Hbox := Lib.hid hbox
  have Hsz := Lib.hid hsz
  have hlW : b < W.heap.size := by omega
  have hTd := hT.drew
  have hTW := hT.size
  have hK := keep6 hT hbl ⟨k0, k1, k2, k3, k4, k5⟩
  have HK := Lib.hid hK
  have HK0 := Lib.hid (And.intro k0 (And.intro k1 (And.intro k2 (And.intro k3 (And.intro k4 k5)))))
  obtain ⟨q0, q1, q2, q3, q4, q5⟩ := hK
  clear k0 k1 k2 k3 k4 k5 hbox hsz
  go_region_held3 (fun w' => w'.cell? ⟨b, off + i * 6, none⟩ = some (.bool r.write) ∧ w'.cell? ⟨b, off + i * 6 + 1, none⟩ = some (.int .i64 r.lo) ∧ w'.cell? ⟨b, off + i * 6 + 2, none⟩ = some (.int .i64 r.many) ∧
      w'.cell? ⟨b, off + i * 6 + 3, none⟩ = some (.slice Ad r.data.length cd) ∧ w'.cell? ⟨b, off + i * 6 + 4, none⟩ = some (.slice At r.tags.length ct) ∧ w'.cell? ⟨b, off + i * 6 + 5, none⟩ = some (.int .i64 r.born))
    (((with_reducible refine keep6 (W := w) ?hb hbl HK0.out); case hb => repeat (first | (with_reducible exact hT2) | (with_reducible exact hT1) | (with_reducible exact hT) | ((with_reducible refine Below.setCell ?_ ?hp _); case hp => simp) | (with_reducible refine Below.drew ?_))))
    (first
      | (go_at_call 43; refine (clone_any S _ l.length (cs.flatMap Rc.cells) W.drew (Hlen.out ▸ Hrd.out.below hTd) h1.out hn).mono ?_; rintro e w1 ⟨v1, rfl, hown1, hb1'⟩; have hb1 : Below W.heap.size W.drew w1 := hb1'; have hT1 := hTd.trans (hb1.mono hTW); obtain ⟨g, cap1, rfl, hg1, hg2, _, _⟩ := own_form hown1 (by omega))
      | (go_at_call 78; refine (delete_any W.heap.size g l.length cap1 i (cs.flatMap Rc.cells) w1 hown1 h1.out hlt hn).mono ?_; rintro e w2 ⟨v2, rfl, hown2, hgr2⟩; have hb2 := hb1.grown hgr2 hb1.size (fun k hk => by cases hk; exact hg1); have hT2 := hTd.trans (hb2.mono hTW); obtain ⟨⟨c0, f0⟩, ⟨c1, f1⟩, ⟨c2, f2⟩, ⟨c3, f3⟩, ⟨c4, f4⟩, ⟨c5, f5⟩⟩ := box6 ((hb2.block _ (by have := Hsz.out; omega)).trans Hbox.out)))
  go_wp2_with fail
  have hF : Below w.heap.size w ((((((w2.setCell ⟨w.heap.size, 0, none⟩ (.bool r.write)).setCell ⟨w.heap.size, 1, none⟩ (.int .i64 r.lo)).setCell ⟨w.heap.size, 2, none⟩ (.int .i64 r.many)).setCell ⟨w.heap.size, 3, none⟩ (.slice Ad r.data.length cd)).setCell
      ⟨w.heap.size, 4, none⟩ (.slice At r.tags.length ct)).setCell ⟨w.heap.size, 5, none⟩ (.int .i64 r.born)) := by
    repeat (first | (with_reducible exact hT2) | ((with_reducible refine Below.setCell ?_ ?hp _); case hp => simp))
  have hG : ∀ k, W.heap.size ≤ k → ((((((w2.setCell ⟨w.heap.size, 0, none⟩ (.bool r.write)).setCell ⟨w.heap.size, 1, none⟩ (.int .i64 r.lo)).setCell ⟨w.heap.size, 2, none⟩ (.int .i64 r.many)).setCell ⟨w.heap.size, 3, none⟩ (.slice Ad r.data.length cd)).setCell
      ⟨w.heap.size, 4, none⟩ (.slice At r.tags.length ct)).setCell ⟨w.heap.size, 5, none⟩ (.int .i64 r.born)).heap[k]? = w2.heap[k]? := by
    intro k hk
    have hz := Hsz.out
    repeat ((with_reducible rw [heap_setCell_other _ _ _ _ ?hp]); case hp => (show k ≠ w.heap.size; omega))
  clear hT2 hT1 hb2 hb1 hb1' hgr2 hown1 hTd hT HK HK0
  refine bodyPost_ret (v := .tuple #[v2, rqV r (.slice Ad r.data.length cd) (.slice At r.tags.length ct)]) (by simp [results, Try.results55, go_sem, c0, c1, c2, c3, c4, c5, f0, f1, f2, f3, f4, f5]) rfl ⟨v2, _, rfl, ?_, Hc.out.lt.below hF, hF⟩
  have e : l.eraseIdx i = (cs.take i ++ cs.drop (i + 1)).map (·.r) := by
    rw [← Hcs.out, List.eraseIdx_eq_take_drop_succ]; simp
  refine ⟨_, e.symm, own_base (base := W.heap.size) (own_keep' ?_ hG) (by omega), fun c hc => ?_⟩
  · have e2 : (cs.take i ++ cs.drop (i + 1)).length = l.length - 1 := by have := Hlen.out; simp; omega
    rw [e2, List.flatMap_append, ← flat_take, ← flat_drop]
    exact hown2
  · have hc' : c ∈ cs := by
      rcases List.mem_append.1 hc with h | h
      · exact List.mem_of_mem_take h
      · exact List.mem_of_mem_drop h
    exact (Hok.out c hc').lt.below hF
end Go.Proofs.Ytojmnfelecnenaa
namespace Go.Proofs.Ytojmnfelecnenaa
set_option linter.unusedSimpArgs false
set_option linter.unusedVariables false
open Go.RowKit

theorem rd_block {S : Nat → Prop} {w : World} {b k size n : Nat} {T : TypeId} {cs : Array Value} {v : Value} {xs : List Value} (h : w.heap[b]? = some (.cells cs T (0, 0))) (hv : cs[k]? = some v) : w.cell? ⟨b, k, none⟩ = some v := by
  rw [cell_of_row _ _ k _ _ _ h]; exact hv

theorem stringInfo : (Try.prog.info? 9).map (fun i => (i.zero, i.size, i.bytes)) = some (some (.string ByteArray.empty), 1, 16) := by kernel_rfl
set_option maxRecDepth 100000 in
theorem grow_string (n : Nat) (w : World) (hn : n ≤ 65536) : Calls Try.prog 111 #[.slice none 0 0, .int .i64 n] w (RetOwn 9 1 0 [] w) := by
  obtain ⟨i0, hi0, hz0, hz1, hz2⟩ := info_parts stringInfo
  by_cases h0 : n = 0
  · subst h0
    go_enter Try.func111, Try.ntmps111
    go_wp2
    go_ret
    exact ⟨_, rfl, World.ownsRow_nil _ _ _ _, Below.refl _ _⟩
  · have hgr : ∀ ty, (Builtin.append_ #[41, 3] ty #[.slice none 0 0, .int .i64 n]).run Try.prog w = .ok (.slice (some ⟨w.heap.size, 0, none⟩) n (grownCap w n 0 9))
        (w.drew.alloc (.cells (#[] ++ Builtin.zeroCells (Value.cells (.string ByteArray.empty)) n ++ Builtin.zeroCells (Value.cells (.string ByteArray.empty)) (grownCap w n 0 9 - n)) 9)) := fun ty => by
      have h := Lib.run_append_grow_zeros w 41 3 ty 9 i0 _ .i64 .i64 Try.underlying41 Try.underlying3 hi0 hz0 none 0 0 [] (by rw [hz1]; exact run_firstCells_none w.drew 1 0 0 0) n (by omega) (by omega) (by omega) (by omega) (by rw [hz2]; omega)
        (by rw [hz2]; exact growslice_fits (by omega) (by omega))
      simpa using h
    have hG := grownCap_ge w n 0 9
    have hG63 : grownCap w n 0 9 ≤ 9223372036854775807 := by
      have := grownCap_le_maxLen w n 0 9 (by unfold maxLen; omega)
      unfold maxLen at this; omega
    generalize grownCap w n 0 9 = G at hgr hG hG63
    obtain ⟨C, hC, hCs⟩ : ∃ C : Array Value, (#[] ++ Builtin.zeroCells (Value.cells (.string ByteArray.empty)) n ++ Builtin.zeroCells (Value.cells (.string ByteArray.empty)) (G - n)) = C ∧ C.size = G := ⟨_, rfl, by simp [size_zeroCells, Value.cells]; omega⟩
    rw [hC] at hgr
    have hn0 : decide (0 < n) = true := by simp; omega
    have hw1 : ¬ ((n : Int) < 0) := by omega
    have HC := Lib.hid hCs
    clear hC hCs
    go_enter Try.func111, Try.ntmps111
    go_wp2_with (at_builtin; refine Lib.wpList_append_run _ rfl _ _ _ _ rfl _ _ rfl rfl _ _ (hgr _) ?_)
    go_ret
    exact ⟨_, rfl, ⟨rfl, .inr ⟨w.heap.size, G, C, rfl, Nat.le_refl _, heap_alloc_new w (.cells C 9), by omega, by unfold maxLen; omega, by rw [HC.out]; omega, by simp⟩⟩, ((Below.refl _ _).alloc (Nat.le_refl _) _).drew⟩

set_option maxRecDepth 100000 in
set_option maxHeartbeats 1000000 in
theorem concat_string (S : Nat → Prop) (g n m : Nat) (va vb : Value) (xs ys : List Value) (T : TypeId) (w : World) (hg : w.heap[g]? = some (.cells #[va, vb] T (0, 0))) (ha : Rd S w 1 va n xs) (hb : Rd S w 1 vb m ys)
    (h1 : ∀ u ∈ xs, u.oneCell' = true) (h2 : ∀ u ∈ ys, u.oneCell' = true) (hn : n ≤ 30000) (hm : m ≤ 30000) :
    Calls Try.prog 107 #[.slice (some ⟨g, 0, none⟩) 2 2] w (RetOwn 9 1 (n + m) (xs ++ ys) w) := by
  obtain ⟨i0, hi0, hz0, hz1, hz2⟩ := info_parts stringInfo
  have Ha := Lib.hid ha
  have Hb := Lib.hid hb
  obtain ⟨Aa, ca, rfl, _, ha2⟩ := ha.form
  obtain ⟨Ab, cb, rfl, _, hb2⟩ := hb.form
  unfold maxLen at ha2 hb2
  have hgl : g < w.heap.size := by
    rcases Nat.lt_or_ge g w.heap.size with h | h
    · exact h
    · rw [Array.getElem?_eq_none h] at hg; cases hg
  have Hg := Lib.hid hg
  have H1 := Lib.hid h1
  have H2 := Lib.hid h2
  have c0 : w.cell? ⟨g, 0, none⟩ = some (.slice Aa n ca) := cell_of_row _ _ 0 _ _ _ hg
  have c1 : w.cell? ⟨g, 1, none⟩ = some (.slice Ab m cb) := cell_of_row _ _ 1 _ _ _ hg
  clear ha hb hg h1 h2
  go_enter Try.func107, Try.ntmps107
  go_wp2_with fail
  go_loop [3, 5, 11] (fun s _ i => (i = .int .i64 0 ∧ s = .int .i64 0) ∨ (i = .int .i64 1 ∧ s = .int .i64 n) ∨ (i = .int .i64 2 ∧ s = .int .i64 ((n : Int) + (m : Int)))) (fun _ _ i => (2 - intOf i).toNat)
  case atStart => exact .inl ⟨rfl, rfl⟩
  case round =>
    rcases hrel with ⟨rfl, rfl⟩ | ⟨rfl, rfl⟩ | ⟨rfl, rfl⟩
    · go_wp2
      go_round
      case rel => exact .inr (.inl ⟨rfl, rfl⟩)
      case measure => simp [intOf]
    · go_wp2
      go_round
      case rel => exact .inr (.inr ⟨rfl, rfl⟩)
      case measure => simp [intOf]
    · go_wp2_with fail
      have hnm : ((n : Int) + (m : Int)) = ((n + m : Nat) : Int) := by omega
      rw [hnm]
      clear hnm
      refine (grow_string (n + m) _ (by omega)).mono ?_
      rintro e w1 ⟨v1, rfl, hown1, hb1⟩
      have Ho1 := Lib.hid hown1
      have c0' : w1.cell? ⟨g, 0, none⟩ = some (.slice Aa n ca) := (hb1.cell (p := ⟨g, 0, none⟩) hgl).trans c0
      have c1' : w1.cell? ⟨g, 1, none⟩ = some (.slice Ab m cb) := (hb1.cell (p := ⟨g, 1, none⟩) hgl).trans c1
      have Hb1 := Lib.hid hb1
      clear hown1 c0 c1 hb1
      go_wp2_with fail
      obtain ⟨wo, rfl⟩ : ∃ wo : World, wo = w1 := ⟨_, rfl⟩
      go_loopw [6, 8, 27] (fun v _ i wr => Hid (Below w.heap.size w wr) ∧ ((i = .int .i64 0 ∧ Hid (wr.ownsRow w.heap.size 9 1 v 0 [])) ∨ (i = .int .i64 1 ∧ Hid (wr.ownsRow w.heap.size 9 1 v (0 + n) ([] ++ xs))) ∨ (i = .int .i64 2 ∧ Hid (wr.ownsRow w.heap.size 9 1 v (0 + n + m) ([] ++ xs ++ ys))))) (fun _ _ i _ => (2 - intOf i).toNat)
      case atStart => exact ⟨Hb1, .inl ⟨rfl, Ho1⟩⟩
      case round =>
        obtain ⟨HB, hrel⟩ := hrel
        have d0 : wr.cell? ⟨g, 0, none⟩ = some (.slice Aa n ca) := (HB.out.cell (p := ⟨g, 0, none⟩) hgl).trans (cell_of_row _ _ 0 _ _ _ Hg.out)
        have d1 : wr.cell? ⟨g, 1, none⟩ = some (.slice Ab m cb) := (HB.out.cell (p := ⟨g, 1, none⟩) hgl).trans (cell_of_row _ _ 1 _ _ _ Hg.out)
        clear c0' c1'
        rcases hrel with ⟨rfl, HO⟩ | ⟨rfl, HO⟩ | ⟨rfl, HO⟩
        · go_wp2_with (at_builtin; refine wpList_append_rd (S := S) _ rfl (.tmp 31) (.tmp 32) _ rfl w.heap.size 9 i0 _ 1 16 Try.underlying41 hi0 hz0 hz1 hz2 rfl (by omega) _ 0 [] rfl HO.out (.slice Aa n ca) n xs rfl (Ha.out.below HB.out) H1.out (by simp only [maxLen]; omega) (by omega) HB.out.size ?_; intro v2 w2 hown2 hg2 hat2)
          have HB2 := Lib.hid (HB.out.grown hg2 HB.out.size (fun k hk => (HO.out.lt k hk).1))
          have HO2 := Lib.hid hown2
          clear hown2 hg2 hat2
          go_roundw
          case rel => exact ⟨HB2, .inr (.inl ⟨rfl, HO2⟩)⟩
          case measure => simp [intOf]
        · go_wp2_with (at_builtin; refine wpList_append_rd (S := S) _ rfl (.tmp 31) (.tmp 32) _ rfl w.heap.size 9 i0 _ 1 16 Try.underlying41 hi0 hz0 hz1 hz2 rfl (by omega) _ (0 + n) ([] ++ xs) rfl HO.out (.slice Ab m cb) m ys rfl (Hb.out.below HB.out) H2.out (by simp only [maxLen]; omega) (by omega) HB.out.size ?_; intro v2 w2 hown2 hg2 hat2)
          have HB2 := Lib.hid (HB.out.grown hg2 HB.out.size (fun k hk => (HO.out.lt k hk).1))
          have HO2 := Lib.hid hown2
          clear hown2 hg2 hat2
          go_roundw
          case rel => exact ⟨HB2, .inr (.inr ⟨rfl, HO2⟩)⟩
          case measure => simp [intOf]
        · go_wp2_with fail
          go_ret
          exact ⟨_, rfl, by simpa using HO.out, HB.out⟩

theorem intInfo : (Try.prog.info? 3).map (fun i => (i.zero, i.size, i.bytes)) = some (some (.int .i64 0), 1, 8) := by kernel_rfl
set_option maxRecDepth 100000 in
theorem grow_int (n : Nat) (w : World) (hn : n ≤ 65536) : Calls Try.prog 112 #[.slice none 0 0, .int .i64 n] w (RetOwn 3 1 0 [] w) := by
  obtain ⟨i0, hi0, hz0, hz1, hz2⟩ := info_parts intInfo
  by_cases h0 : n = 0
  · subst h0
    go_enter Try.func112, Try.ntmps112
    go_wp2
    go_ret
    exact ⟨_, rfl, World.ownsRow_nil _ _ _ _, Below.refl _ _⟩
  · have hgr : ∀ ty, (Builtin.append_ #[42, 3] ty #[.slice none 0 0, .int .i64 n]).run Try.prog w = .ok (.slice (some ⟨w.heap.size, 0, none⟩) n (grownCap w n 0 3))
        (w.drew.alloc (.cells (#[] ++ Builtin.zeroCells (Value.cells (.int .i64 0)) n ++ Builtin.zeroCells (Value.cells (.int .i64 0)) (grownCap w n 0 3 - n)) 3)) := fun ty => by
      have h := Lib.run_append_grow_zeros w 42 3 ty 3 i0 _ .i64 .i64 Try.underlying42 Try.underlying3 hi0 hz0 none 0 0 [] (by rw [hz1]; exact run_firstCells_none w.drew 1 0 0 0) n (by omega) (by omega) (by omega) (by omega) (by rw [hz2]; omega)
        (by rw [hz2]; exact growslice_fits (by omega) (by omega))
      simpa using h
    have hG := grownCap_ge w n 0 3
    have hG63 : grownCap w n 0 3 ≤ 9223372036854775807 := by
      have := grownCap_le_maxLen w n 0 3 (by unfold maxLen; omega)
      unfold maxLen at this; omega
    generalize grownCap w n 0 3 = G at hgr hG hG63
    obtain ⟨C, hC, hCs⟩ : ∃ C : Array Value, (#[] ++ Builtin.zeroCells (Value.cells (.int .i64 0)) n ++ Builtin.zeroCells (Value.cells (.int .i64 0)) (G - n)) = C ∧ C.size = G := ⟨_, rfl, by simp [size_zeroCells, Value.cells]; omega⟩
    rw [hC] at hgr
    have hn0 : decide (0 < n) = true := by simp; omega
    have hw1 : ¬ ((n : Int) < 0) := by omega
    have HC := Lib.hid hCs
    clear hC hCs
    go_enter Try.func112, Try.ntmps112
    go_wp2_with (at_builtin; refine Lib.wpList_append_run _ rfl _ _ _ _ rfl _ _ rfl rfl _ _ (hgr _) ?_)
    go_ret
    exact ⟨_, rfl, ⟨rfl, .inr ⟨w.heap.size, G, C, rfl, Nat.le_refl _, heap_alloc_new w (.cells C 3), by omega, by unfold maxLen; omega, by rw [HC.out]; omega, by simp⟩⟩, ((Below.refl _ _).alloc (Nat.le_refl _) _).drew⟩

set_option maxRecDepth 100000 in
set_option maxHeartbeats 1000000 in
theorem concat_int (S : Nat → Prop) (g n m : Nat) (va vb : Value) (xs ys : List Value) (T : TypeId) (w : World) (hg : w.heap[g]? = some (.cells #[va, vb] T (0, 0))) (ha : Rd S w 1 va n xs) (hb : Rd S w 1 vb m ys)
    (h1 : ∀ u ∈ xs, u.oneCell' = true) (h2 : ∀ u ∈ ys, u.oneCell' = true) (hn : n ≤ 30000) (hm : m ≤ 30000) :
    Calls Try.prog 108 #[.slice (some ⟨g, 0, none⟩) 2 2] w (RetOwn 3 1 (n + m) (xs ++ ys) w) := by
  obtain ⟨i0, hi0, hz0, hz1, hz2⟩ := info_parts intInfo
  have Ha := Lib.hid ha
  have Hb := Lib.hid hb
  obtain ⟨Aa, ca, rfl, _, ha2⟩ := ha.form
  obtain ⟨Ab, cb, rfl, _, hb2⟩ := hb.form
  unfold maxLen at ha2 hb2
  have hgl : g < w.heap.size := by
    rcases Nat.lt_or_ge g w.heap.size with h | h
    · exact h
    · rw [Array.getElem?_eq_none h] at hg; cases hg
  have Hg := Lib.hid hg
  have H1 := Lib.hid h1
  have H2 := Lib.hid h2
  have c0 : w.cell? ⟨g, 0, none⟩ = some (.slice Aa n ca) := cell_of_row _ _ 0 _ _ _ hg
  have c1 : w.cell? ⟨g, 1, none⟩ = some (.slice Ab m cb) := cell_of_row _ _ 1 _ _ _ hg
  clear ha hb hg h1 h2
  go_enter Try.func108, Try.ntmps108
  go_wp2_with fail
  go_loop [3, 5, 11] (fun s _ i => (i = .int .i64 0 ∧ s = .int .i64 0) ∨ (i = .int .i64 1 ∧ s = .int .i64 n) ∨ (i = .int .i64 2 ∧ s = .int .i64 ((n : Int) + (m : Int)))) (fun _ _ i => (2 - intOf i).toNat)
  case atStart => exact .inl ⟨rfl, rfl⟩
  case round =>
    rcases hrel with ⟨rfl, rfl⟩ | ⟨rfl, rfl⟩ | ⟨rfl, rfl⟩
    · go_wp2
      go_round
      case rel => exact .inr (.inl ⟨rfl, rfl⟩)
      case measure => simp [intOf]
    · go_wp2
      go_round
      case rel => exact .inr (.inr ⟨rfl, rfl⟩)
      case measure => simp [intOf]
    · go_wp2_with fail
      have hnm : ((n : Int) + (m : Int)) = ((n + m : Nat) : Int) := by omega
      rw [hnm]
      clear hnm
      refine (grow_int (n + m) _ (by omega)).mono ?_
      rintro e w1 ⟨v1, rfl, hown1, hb1⟩
      have Ho1 := Lib.hid hown1
      have c0' : w1.cell? ⟨g, 0, none⟩ = some (.slice Aa n ca) := (hb1.cell (p := ⟨g, 0, none⟩) hgl).trans c0
      have c1' : w1.cell? ⟨g, 1, none⟩ = some (.slice Ab m cb) := (hb1.cell (p := ⟨g, 1, none⟩) hgl).trans c1
      have Hb1 := Lib.hid hb1
      clear hown1 c0 c1 hb1
      go_wp2_with fail
      obtain ⟨wo, rfl⟩ : ∃ wo : World, wo = w1 := ⟨_, rfl⟩
      go_loopw [6, 8, 27] (fun v _ i wr => Hid (Below w.heap.size w wr) ∧ ((i = .int .i64 0 ∧ Hid (wr.ownsRow w.heap.size 3 1 v 0 [])) ∨ (i = .int .i64 1 ∧ Hid (wr.ownsRow w.heap.size 3 1 v (0 + n) ([] ++ xs))) ∨ (i = .int .i64 2 ∧ Hid (wr.ownsRow w.heap.size 3 1 v (0 + n + m) ([] ++ xs ++ ys))))) (fun _ _ i _ => (2 - intOf i).toNat)
      case atStart => exact ⟨Hb1, .inl ⟨rfl, Ho1⟩⟩
      case round =>
        obtain ⟨HB, hrel⟩ := hrel
        have d0 : wr.cell? ⟨g, 0, none⟩ = some (.slice Aa n ca) := (HB.out.cell (p := ⟨g, 0, none⟩) hgl).trans (cell_of_row _ _ 0 _ _ _ Hg.out)
        have d1 : wr.cell? ⟨g, 1, none⟩ = some (.slice Ab m cb) := (HB.out.cell (p := ⟨g, 1, none⟩) hgl).trans (cell_of_row _ _ 1 _ _ _ Hg.out)
        clear c0' c1'
        rcases hrel with ⟨rfl, HO⟩ | ⟨rfl, HO⟩ | ⟨rfl, HO⟩
        · go_wp2_with (at_builtin; refine wpList_append_rd (S := S) _ rfl (.tmp 31) (.tmp 32) _ rfl w.heap.size 3 i0 _ 1 8 Try.underlying42 hi0 hz0 hz1 hz2 rfl (by omega) _ 0 [] rfl HO.out (.slice Aa n ca) n xs rfl (Ha.out.below HB.out) H1.out (by simp only [maxLen]; omega) (by omega) HB.out.size ?_; intro v2 w2 hown2 hg2 hat2)
          have HB2 := Lib.hid (HB.out.grown hg2 HB.out.size (fun k hk => (HO.out.lt k hk).1))
          have HO2 := Lib.hid hown2
          clear hown2 hg2 hat2
          go_roundw
          case rel => exact ⟨HB2, .inr (.inl ⟨rfl, HO2⟩)⟩
          case measure => simp [intOf]
        · go_wp2_with (at_builtin; refine wpList_append_rd (S := S) _ rfl (.tmp 31) (.tmp 32) _ rfl w.heap.size 3 i0 _ 1 8 Try.underlying42 hi0 hz0 hz1 hz2 rfl (by omega) _ (0 + n) ([] ++ xs) rfl HO.out (.slice Ab m cb) m ys rfl (Hb.out.below HB.out) H2.out (by simp only [maxLen]; omega) (by omega) HB.out.size ?_; intro v2 w2 hown2 hg2 hat2)
          have HB2 := Lib.hid (HB.out.grown hg2 HB.out.size (fun k hk => (HO.out.lt k hk).1))
          have HO2 := Lib.hid hown2
          clear hown2 hg2 hat2
          go_roundw
          case rel => exact ⟨HB2, .inr (.inr ⟨rfl, HO2⟩)⟩
          case measure => simp [intOf]
        · go_wp2_with fail
          go_ret
          exact ⟨_, rfl, by simpa using HO.out, HB.out⟩
end Go.Proofs.Ytojmnfelecnenaa
namespace Go.Proofs.Ytojmnfelecnenaa
open Go.RowKit


theorem meet_any (af am bf bm : Int) (w : World) (h1 : 0 ≤ af) (h2 : af ≤ 40) (h3 : 0 ≤ am) (h4 : am ≤ 40) (h5 : 0 ≤ bf) (h6 : bf ≤ 40) (h7 : 0 ≤ bm) (h8 : bm ≤ 40) :
    Calls Try.prog 22 #[spanV af am, spanV bf bm] w (Ret (.bool (meetB af am bf bm)) w) := by
  go_enter Try.func22, Try.ntmps22
  go_wp2
  all_goals
    go_ret
    refine ⟨?_, ((Below.refl _ _).alloc (Nat.le_refl _) _).alloc (by simp) _⟩
    simp [meetB, *]
    try omega

theorem next_any (af am bf bm : Int) (w : World) (h1 : 0 ≤ af) (h2 : af ≤ 40) (h3 : 0 ≤ am) (h4 : am ≤ 40) :
    Calls Try.prog 106 #[spanV af am, spanV bf bm] w (Ret (.bool (af + am == bf)) w) := by
  go_enter Try.func106, Try.ntmps106
  go_wp2
  go_ret
  exact ⟨rfl, ((Below.refl _ _).alloc (Nat.le_refl _) _).alloc (by simp) _⟩

theorem has_any (f m at_ : Int) (w : World) (h1 : 0 ≤ f) (h2 : f ≤ 40) (h3 : -9223372036854775808 ≤ at_) (h4 : at_ ≤ 9223372036854775807) :
    Calls Try.prog 70 #[spanV f m, .int .i64 at_] w (Ret (.bool (hasB f m at_)) w) := by
  by_cases hc : f ≤ at_
  all_goals
    go_enter Try.func70, Try.ntmps70
    go_wp2
    go_ret
    exact ⟨by simp [hasB]; omega, ((Below.refl _ _).alloc (Nat.le_refl _) _)⟩

theorem check_any (f m most : Int) (w : World) (hm : most ≤ 9223372036854775807) :
    Calls Try.prog 102 #[spanV f m, .int .i64 most] w (Ret (errV (spanF f m most)) w) := by
  by_cases hg : 0 ≤ f ∧ f ≤ 31 ∧ 1 ≤ m ∧ m ≤ most ∧ m ≤ 32 - f
  · have e0 : spanF f m most = 0 := spanF_pos hg
    rw [e0]
    obtain ⟨h1, h2, h3, h4, h5⟩ := hg
    go_enter Try.func102, Try.ntmps102
    go_wp2
    go_ret
    exact ⟨rfl, (Below.refl _ _).alloc (Nat.le_refl _) _⟩
  · have e0 : spanF f m most = 1 := spanF_neg hg
    rw [e0]
    clear e0
    by_cases h1 : f < 0
    · clear hg
      go_enter Try.func102, Try.ntmps102
      go_wp2
      go_ret
      exact ⟨rfl, (Below.refl _ _).alloc (Nat.le_refl _) _⟩
    · by_cases h2 : 31 < f
      · clear hg
        go_enter Try.func102, Try.ntmps102
        go_wp2
        go_ret
        exact ⟨rfl, (Below.refl _ _).alloc (Nat.le_refl _) _⟩
      · by_cases h3 : m < 1
        · clear hg
          go_enter Try.func102, Try.ntmps102
          go_wp2
          go_ret
          exact ⟨rfl, (Below.refl _ _).alloc (Nat.le_refl _) _⟩
        · by_cases h4 : most < m
          · clear hg
            go_enter Try.func102, Try.ntmps102
            go_wp2
            go_ret
            exact ⟨rfl, (Below.refl _ _).alloc (Nat.le_refl _) _⟩
          · have h5 : 32 - f < m := by omega
            have h6 : 32 - m < f := by omega
            clear hg
            go_enter Try.func102, Try.ntmps102
            go_wp2
            go_ret
            exact ⟨rfl, (Below.refl _ _).alloc (Nat.le_refl _) _⟩

end Go.Proofs.Ytojmnfelecnenaa
