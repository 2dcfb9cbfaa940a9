/- Closed facts on the program's types, and the words in which the contracts are said. -/
import Derived.Test.YtagndjihiklmiaaGreatDoorRows
import Derived.WalkKit
import Derived.WalkLawsBesides
import Derived.WalkSpells
import Derived.Lib.Hide
import Derived.WideLaws
import Derived.LaidEql
import Derived.Deep.QuietTactic
import Derived.BigQuiet
import Derived.Deep.RegionWith
import Derived.Lib.QuietBelow
import Derived.Maps.AppendAt
import Derived.Deep.AppendLies
import Derived.Outline
set_option linter.unusedSimpArgs false
set_option linter.unusedVariables false
set_option maxRecDepth 100000
set_option maxHeartbeats 8000000
namespace Go.Proofs.YtagndjihiklmiaaGreatDoor
open Go.RowKit
theorem errIface:Tryz.prog.underlying 25=some (.interface (Tryz.prog.methodsAt 25)):=by kernel_rfl
@[go_sem] theorem err_held_nil (u:TypeId) (x:Value) (w:World):(binOp .eql 25 (.iface u x) .nilIface).run Tryz.prog w=.ok (.bool false) w:=run_eql_held_nil _ _ _ _ errIface
@[go_sem] theorem err_held_nil' (u:TypeId) (x:Value) (w:World):(binOp .neq 25 (.iface u x) .nilIface).run Tryz.prog w=.ok (.bool true) w:=run_neq_held_nil _ _ _ _ errIface
@[go_sem] theorem err_nil_nil (w:World):(binOp .eql 25 .nilIface .nilIface).run Tryz.prog w=.ok (.bool true) w:=run_eql_nil_nil _ _ errIface
@[go_sem] theorem err_nil_nil' (w:World):(binOp .neq 25 .nilIface .nilIface).run Tryz.prog w=.ok (.bool false) w:=run_neq_nil_nil _ _ errIface
@[go_sem] theorem err_assert (x:Value) (w:World):(Instr.typeAssert (.iface 38 x) 25 38 true).run Tryz.prog w=.ok (.tuple #[x,.bool true]) w:=by kernel_rfl
abbrev spanV (f m:Int):Value:=.agg #[.int .i64 f,.int .i64 m]
def errV (n:Nat):Value:=if n=0 then .nilIface else .iface 38 (.int .i64 n)
theorem errV_zero:errV 0=.nilIface:=rfl
theorem errV_pos {n:Nat} (h:n≠0):errV n=.iface 38 (.int .i64 n):=if_neg h
@[go_sem] theorem errV_eql (n:Nat) (w:World):(binOp .eql 25 (errV n) .nilIface).run Tryz.prog w=.ok (.bool (n == 0)) w:=by
 by_cases h:n=0
 ·subst h; exact err_nil_nil w
 ·rw [errV_pos h,err_held_nil]; simp [h]
@[go_sem] theorem errV_neq (n:Nat) (w:World):(binOp .neq 25 (errV n) .nilIface).run Tryz.prog w=.ok (.bool (!(n == 0))) w:=by
 by_cases h:n=0
 ·subst h; exact err_nil_nil' w
 ·rw [errV_pos h,err_held_nil']; simp [h]
@[go_sem] theorem eqGuard_err (t:TypeId) (x:Operand) (n:Nat):eqGuard .eql t x (.const .nilIface) (errV n) .nilIface=pure ():=by
 by_cases h:n=0
 ·subst h; rw [errV_zero]; simp [eqGuard]
 ·rw [errV_pos h]; simp [eqGuard]
@[go_sem] theorem eqGuard_err' (t:TypeId) (x:Operand) (n:Nat):eqGuard .neq t x (.const .nilIface) (errV n) .nilIface=pure ():=by
 by_cases h:n=0
 ·subst h; rw [errV_zero]; simp [eqGuard]
 ·rw [errV_pos h]; simp [eqGuard]
def Ret (v:Value) (w:World):Ending→World→Prop:=fun e w'=>e=.returned v∧Below w.heap.size w w'
def RetSame (v:Value) (w:World):Ending→World→Prop:=fun e w'=>e=.returned v∧w=w'
end Go.Proofs.YtagndjihiklmiaaGreatDoor
namespace Go.Proofs.YtagndjihiklmiaaGreatDoor
open Go.RowKit
structure Rq where
 write:Bool
 lo:Int
 many:Int
 data:List ByteArray
 tags:List Int
 born:Int
 deriving DecidableEq,Inhabited
def bestOf (ok:Rq→Bool) (key:Rq→Int) (l:List Rq):Nat→Int
 |0 => -1
 |k+1=>match l[k]? with
  |none=>bestOf ok key l k
  |some r=>if ok r && (decide (bestOf ok key l k<0) || decide (key r<key (l.getD (bestOf ok key l k).toNat default))) then (k:Int) else bestOf ok key l k
theorem bestOf_range (ok:Rq→Bool) (key:Rq→Int) (l:List Rq):∀ k,-1≤bestOf ok key l k∧bestOf ok key l k<k
 |0=>by simp [bestOf]
 |k+1=>by
  have ih:=bestOf_range ok key l k;unfold bestOf
  split
  ·omega
  ·split <;> omega
theorem bestOf_no {ok:Rq→Bool} {key:Rq→Int} {l:List Rq} {k:Nat} {r:Rq} (h:l[k]?=some r) (ho:ok r=false):bestOf ok key l (k+1)=bestOf ok key l k:=by
 rw [bestOf,h]; simp [ho]
theorem bestOf_first {ok:Rq→Bool} {key:Rq→Int} {l:List Rq} {k:Nat} {r:Rq} (h:l[k]?=some r) (ho:ok r=true) (hb:bestOf ok key l k<0):bestOf ok key l (k+1)=k:=by
 rw [bestOf,h]; simp [ho,hb]
theorem bestOf_less {ok:Rq→Bool} {key:Rq→Int} {l:List Rq} {k j:Nat} {r r':Rq} (h:l[k]?=some r) (ho:ok r=true) (hb:bestOf ok key l k=j) (hj:l[j]?=some r') (hk:key r<key r'):bestOf ok key l (k+1)=k:=by
 have e:l.getD j default=r':=by rw [List.getD_eq_getElem?_getD,hj]; rfl
 rw [bestOf,h,hb]; simp only [Int.toNat_natCast,e]; simp [ho,hk]
theorem bestOf_more {ok:Rq→Bool} {key:Rq→Int} {l:List Rq} {k j:Nat} {r r':Rq} (h:l[k]?=some r) (hb:bestOf ok key l k=j) (hj:l[j]?=some r') (hk:¬ key r<key r'):bestOf ok key l (k+1)=j:=by
 have e:l.getD j default=r':=by rw [List.getD_eq_getElem?_getD,hj]; rfl
 rw [bestOf,h,hb]; simp only [Int.toNat_natCast,e]; simp; intro _ h2; omega
def oldest (l:List Rq) (write:Bool):Int:=bestOf (fun r=>r.write == write) (·.born) l l.length
def fromI (l:List Rq) (write:Bool) (at_:Int):Int:=bestOf (fun r=>r.write == write && decide (at_≤r.lo)) (·.lo) l l.length
def SpanOk (f m most:Int):Prop:=0≤f∧f≤31∧1≤m∧m≤most∧m≤32 - f
instance (f m most:Int):Decidable (SpanOk f m most):=by unfold SpanOk; infer_instance
def spanF (f m most:Int):Nat:=if SpanOk f m most then 0 else 1
theorem spanF_pos {f m most:Int} (h:SpanOk f m most):spanF f m most=0:=if_pos h
theorem spanF_neg {f m most:Int} (h:¬ SpanOk f m most):spanF f m most=1:=if_neg h
def shapeOk (r:Rq):Prop:=if r.write then (r.data.length:Int)=r.many else r.data.length=0
instance (r:Rq):Decidable (shapeOk r):=by unfold shapeOk; infer_instance
def tagsOk (r:Rq):Prop:=1≤r.tags.length∧r.tags.length≤4
instance (r:Rq):Decidable (tagsOk r):=by unfold tagsOk; infer_instance
def bornOk (r:Rq):Prop:=0≤r.born∧r.born≤1000000000
instance (r:Rq):Decidable (bornOk r):=by unfold bornOk; infer_instance
def dataOk (r:Rq):Bool:=r.data.all (fun s=>decide (s.size≤4))
def reqF (r:Rq):Nat:=if SpanOk r.lo r.many 4 then if shapeOk r then if tagsOk r then if bornOk r then if dataOk r then 0 else 1 else 1 else 3 else 3 else 1
structure ReqOk (r:Rq):Prop where
 span:SpanOk r.lo r.many 4
 shape:shapeOk r
 tags:tagsOk r
 born:bornOk r
 data:dataOk r=true
theorem reqF_ok {r:Rq} (h:ReqOk r):reqF r=0:=by
 unfold reqF; rw [if_pos h.span,if_pos h.shape,if_pos h.tags,if_pos h.born,if_pos h.data]
theorem reqF_span {r:Rq} (h:¬ SpanOk r.lo r.many 4):reqF r=1:=by unfold reqF; rw [if_neg h]
theorem reqF_shape {r:Rq} (h:SpanOk r.lo r.many 4) (h1:¬ shapeOk r):reqF r=3:=by unfold reqF; rw [if_pos h,if_neg h1]
theorem reqF_tags {r:Rq} (h:SpanOk r.lo r.many 4) (h1:shapeOk r) (h2:¬ tagsOk r):reqF r=3:=by unfold reqF; rw [if_pos h,if_pos h1,if_neg h2]
theorem reqF_born {r:Rq} (h:SpanOk r.lo r.many 4) (h1:shapeOk r) (h2:tagsOk r) (h3:¬ bornOk r):reqF r=1:=by unfold reqF; rw [if_pos h,if_pos h1,if_pos h2,if_neg h3]
theorem reqF_data {r:Rq} (h:SpanOk r.lo r.many 4) (h1:shapeOk r) (h2:tagsOk r) (h3:bornOk r) (h4:dataOk r=false):reqF r=1:=by unfold reqF; rw [if_pos h,if_pos h1,if_pos h2,if_pos h3,h4]; rfl
theorem reqF_zero {r:Rq} (h:reqF r=0):ReqOk r:=by
 unfold reqF at h
 split at h
 ·split at h
  ·split at h
   ·split at h
    ·split at h
     ·exact ⟨‹_›,‹_›,‹_›,‹_›,‹_›⟩
     ·cases h
    ·cases h
   ·cases h
  ·cases h
 ·cases h
def meetB (af am bf bm:Int):Bool:=decide (af<bf+bm) && decide (bf<af+am)
def hasB (f m a:Int):Bool:=decide (f≤a) && decide (a - f<m)
def apartFrom (r:Rq) (l:List Rq):Bool:=l.all (fun q=>!meetB r.lo r.many q.lo q.many)
def okAt (l:List Rq) (i:Nat):Bool:=match l[i]? with
 |none=>true
 |some r=>decide (reqF r=0) && apartFrom r (l.take i)
def goodReqs (l:List Rq):Bool:=(List.range l.length).all (okAt l)
theorem okAt_some {l:List Rq} {i:Nat} {r:Rq} (h:l[i]?=some r):okAt l i=(decide (reqF r=0) && apartFrom r (l.take i)):=by unfold okAt; rw [h]
theorem good_mem {l:List Rq} (h:goodReqs l=true) {i:Nat} {r:Rq} (hi:l[i]?=some r):ReqOk r:=by
 unfold goodReqs at h;rw [List.all_eq_true] at h
 have hlt:i<l.length:=by
  rcases Nat.lt_or_ge i l.length with h1 | h1
  ·exact h1
  ·rw [List.getElem?_eq_none h1] at hi; cases hi
 have:=h i (List.mem_range.2 hlt);rw [okAt_some hi] at this;simp at this;exact reqF_zero this.1
theorem SpanOk.more {f m a b:Int} (h:SpanOk f m a) (hab:a≤b):SpanOk f m b:=⟨h.1,h.2.1,h.2.2.1,by have:=h.2.2.2.1; omega,h.2.2.2.2⟩
structure Tn where
 write:Bool
 gone:Int
 starved:Int
 wh:Int
 deriving DecidableEq,Inhabited
def limit (b:Bool):Int:=if b then 8 else 4
def expB (r:Rq) (now:Int):Bool:=decide (limit r.write≤now - r.born)
def turnedM (l:List Rq) (t:Tn):Tn :=
 if 0≤oldest l false∧¬ 0≤oldest l true then { t with gone:=0,write:=false }
 else if 0≤oldest l true∧(¬ 0≤oldest l false∨2≤t.starved) then { t with gone:=0,write:=true,starved:=0 }
 else { t with gone:=0,write:=false,starved:=t.starved+1 }
end Go.Proofs.YtagndjihiklmiaaGreatDoor
namespace Go.Proofs.YtagndjihiklmiaaGreatDoor
open Go.RowKit
def Rd (S:Nat→Prop) (w:World) (size:Nat) (v:Value) (n:Nat) (xs:List Value):Prop :=
 ∃ A cap,v=.slice A n cap∧n≤cap∧cap≤maxLen∧xs.length=n * size ∧
  (0<n→∃ b off,A=some ⟨b,off,none⟩∧S b∧∀ j u,xs[j]?=some u→w.cell? ⟨b,off+j,none⟩=some u)
section
variable {S S':Nat→Prop} {w w':World} {size n:Nat} {v:Value} {xs:List Value}
theorem Rd.nil:Rd S w size (.slice none 0 0) 0 []:=⟨none,0,rfl,Nat.le_refl _,by simp [maxLen],by simp,fun h=>absurd h (by omega)⟩
theorem Rd.keep (h:Rd S w size v n xs) (hk:∀ b,S b→b<w.heap.size→w'.heap[b]?=w.heap[b]?):Rd S w' size v n xs:=by
 obtain ⟨A,cap,e,h1,h2,h3,h4⟩:=h;refine ⟨A,cap,e,h1,h2,h3,fun hn=>?_⟩;obtain ⟨b,off,e1,hS,hc⟩:=h4 hn;refine ⟨b,off,e1,hS,fun j u hu=>?_⟩;have h5:=hc j u hu;have hlt:=block_lt_of_cell h5;rw [World.cell?_of_block (w:=w) (hk b hS hlt)];exact h5
theorem Rd.below (h:Rd S w size v n xs) (hb:Below w.heap.size w w'):Rd S w' size v n xs:=h.keep fun b _ hlt=>hb.block b hlt
theorem Rd.more (h:Rd S w size v n xs) (hS:∀ b,S b→S' b):Rd S' w size v n xs:=by
 obtain ⟨A,cap,e,h1,h2,h3,h4⟩:=h;refine ⟨A,cap,e,h1,h2,h3,fun hn=>?_⟩;obtain ⟨b,off,e1,hS1,hc⟩:=h4 hn;exact ⟨b,off,e1,hS _ hS1,hc⟩
theorem Rd.len (h:Rd S w size v n xs):n≤maxLen:=by obtain ⟨_,_,_,h1,h2,_,_⟩:=h; omega
theorem Rd.at_ {A:Option Addr} {cap:Nat} (h:Rd S w size (.slice A n cap) n xs) (hn:0<n) (hs:0<size) :
  ∃ b off,A=some ⟨b,off,none⟩∧S b∧b<w.heap.size∧∀ j u,xs[j]?=some u→w.cell? ⟨b,off+j,none⟩=some u:=by
 obtain ⟨A',cap',e,_,_,h3,h4⟩:=h
 cases e
 obtain ⟨b,off,e1,hS,hc⟩:=h4 hn;have hl:0<xs.length:=by rw [h3]; exact Nat.mul_pos hn hs
 exact ⟨b,off,e1,hS,block_lt_of_cell (hc 0 _ (List.getElem?_eq_getElem hl)),hc⟩
theorem Rd.form (h:Rd S w size v n xs):∃ A cap,v=.slice A n cap∧n≤cap∧cap≤maxLen:=by
 obtain ⟨A,cap,e,h1,h2,_,_⟩:=h; exact ⟨A,cap,e,h1,h2⟩
end
def StrsAt (S:Nat→Prop) (w:World) (v:Value) (l:List ByteArray):Prop:=Rd S w 1 v l.length (l.map .string)∧∀ s ∈ l,s.size≤maxLen
def IntsAt (S:Nat→Prop) (w:World) (v:Value) (l:List Int):Prop:=Rd S w 1 v l.length (l.map (.int .i64))∧∀ x ∈ l,-9223372036854775808≤x∧x≤9223372036854775807
abbrev rqV (r:Rq) (dv tv:Value):Value:=.agg #[.bool r.write,.int .i64 r.lo,.int .i64 r.many,dv,tv,.int .i64 r.born]
structure Rc where
 r:Rq
 dv:Value
 tv:Value
def Rc.cells (c:Rc):List Value:=[.bool c.r.write,.int .i64 c.r.lo,.int .i64 c.r.many,c.dv,c.tv,.int .i64 c.r.born]
def i64 (n:Int):Prop := -9223372036854775808≤n∧n≤9223372036854775807
structure RcOk (S:Nat→Prop) (w:World) (c:Rc):Prop where
 data:StrsAt S w c.dv c.r.data
 tags:IntsAt S w c.tv c.r.tags
 lo:i64 c.r.lo
 many:i64 c.r.many
 born:i64 c.r.born
def ReqAt (S:Nat→Prop) (w:World) (v:Value) (r:Rq):Prop:=∃ c:Rc,c.r=r∧v=rqV c.r c.dv c.tv∧RcOk S w c
def ReqsAt (S:Nat→Prop) (w:World) (v:Value) (l:List Rq):Prop:=∃ cs:List Rc,cs.map (·.r)=l∧Rd S w 6 v cs.length (cs.flatMap Rc.cells)∧∀ c ∈ cs,RcOk S w c
section
variable {S S':Nat→Prop} {w w':World} {v:Value}
theorem StrsAt.keep {l:List ByteArray} (h:StrsAt S w v l) (hk:∀ b,S b→b<w.heap.size→w'.heap[b]?=w.heap[b]?):StrsAt S w' v l:=⟨h.1.keep hk,h.2⟩
theorem IntsAt.keep {l:List Int} (h:IntsAt S w v l) (hk:∀ b,S b→b<w.heap.size→w'.heap[b]?=w.heap[b]?):IntsAt S w' v l:=⟨h.1.keep hk,h.2⟩
theorem RcOk.keep {c:Rc} (h:RcOk S w c) (hk:∀ b,S b→b<w.heap.size→w'.heap[b]?=w.heap[b]?):RcOk S w' c:=⟨h.data.keep hk,h.tags.keep hk,h.lo,h.many,h.born⟩
theorem ReqAt.keep {r:Rq} (h:ReqAt S w v r) (hk:∀ b,S b→b<w.heap.size→w'.heap[b]?=w.heap[b]?):ReqAt S w' v r:=by
 obtain ⟨c,h1,h2,h3⟩:=h; exact ⟨c,h1,h2,h3.keep hk⟩
theorem ReqsAt.keep {l:List Rq} (h:ReqsAt S w v l) (hk:∀ b,S b→b<w.heap.size→w'.heap[b]?=w.heap[b]?):ReqsAt S w' v l:=by
 obtain ⟨cs,h1,h2,h3⟩:=h; exact ⟨cs,h1,h2.keep hk,fun c hc=>(h3 c hc).keep hk⟩
theorem StrsAt.below {l:List ByteArray} (h:StrsAt S w v l) (hb:Below w.heap.size w w'):StrsAt S w' v l:=h.keep fun b _ hlt=>hb.block b hlt
theorem IntsAt.below {l:List Int} (h:IntsAt S w v l) (hb:Below w.heap.size w w'):IntsAt S w' v l:=h.keep fun b _ hlt=>hb.block b hlt
theorem RcOk.below {c:Rc} (h:RcOk S w c) (hb:Below w.heap.size w w'):RcOk S w' c:=h.keep fun b _ hlt=>hb.block b hlt
theorem ReqAt.below {r:Rq} (h:ReqAt S w v r) (hb:Below w.heap.size w w'):ReqAt S w' v r:=h.keep fun b _ hlt=>hb.block b hlt
theorem ReqsAt.below {l:List Rq} (h:ReqsAt S w v l) (hb:Below w.heap.size w w'):ReqsAt S w' v l:=h.keep fun b _ hlt=>hb.block b hlt
theorem StrsAt.form {l:List ByteArray} (h:StrsAt S w v l):∃ A cap,v=.slice A l.length cap∧l.length≤cap∧cap≤maxLen:=h.1.form
theorem IntsAt.form {l:List Int} (h:IntsAt S w v l):∃ A cap,v=.slice A l.length cap∧l.length≤cap∧cap≤maxLen:=h.1.form
theorem ReqsAt.form {l:List Rq} (h:ReqsAt S w v l):∃ A cap,v=.slice A l.length cap∧l.length≤cap∧cap≤maxLen:=by
 obtain ⟨cs,rfl,h2,_⟩:=h; rw [List.length_map]; exact h2.form
theorem StrsAt.at_ {A:Option Addr} {n cap:Nat} {l:List ByteArray} (h:StrsAt S w (.slice A n cap) l) (hn:0<l.length) :
  ∃ b off,A=some ⟨b,off,none⟩∧S b∧b<w.heap.size∧∀ j s,l[j]?=some s→w.cell? ⟨b,off+j,none⟩=some (.string s)∧s.size≤maxLen:=by
 have he:n=l.length:=by obtain ⟨_,_,e,_⟩:=h.1.form; injection e
 subst he;obtain ⟨b,off,e,hS,hlt,hc⟩:=h.1.at_ hn (by omega);exact ⟨b,off,e,hS,hlt,fun j s hj=>⟨hc j _ (by rw [List.getElem?_map,hj]; rfl),h.2 s (List.mem_of_getElem? hj)⟩⟩
theorem IntsAt.at_ {A:Option Addr} {n cap:Nat} {l:List Int} (h:IntsAt S w (.slice A n cap) l) (hn:0<l.length) :
  ∃ b off,A=some ⟨b,off,none⟩∧S b∧b<w.heap.size∧∀ j x,l[j]?=some x→w.cell? ⟨b,off+j,none⟩=some (.int .i64 x)∧i64 x:=by
 have he:n=l.length:=by obtain ⟨_,_,e,_⟩:=h.1.form; injection e
 subst he;obtain ⟨b,off,e,hS,hlt,hc⟩:=h.1.at_ hn (by omega);exact ⟨b,off,e,hS,hlt,fun j x hj=>⟨hc j _ (by rw [List.getElem?_map,hj]; rfl),h.2 x (List.mem_of_getElem? hj)⟩⟩
theorem flat_get (cs:List Rc):∀ (i j:Nat) (c:Rc),cs[i]?=some c→j<6→(cs.flatMap Rc.cells)[i * 6+j]?=c.cells[j]?:=by
 induction cs with
 |nil=>intro i j c h _; simp at h
 |cons a cs ih =>
  intro i j c h hj;rw [List.flatMap_cons]
  cases i with
  |zero =>
   simp at h; subst h;rw [List.getElem?_append_left (by simp [Rc.cells]; omega)];simp
  |succ i =>
   rw [List.getElem?_append_right (by simp [Rc.cells]; omega)];simp at h;rw [← ih i j c h hj]
   congr 1
   simp [Rc.cells]; omega
theorem ReqAt.opened {r:Rq} (h:ReqAt S w v r):∃ Ad cd At ct,v=rqV r (.slice Ad r.data.length cd) (.slice At r.tags.length ct)∧StrsAt S w (.slice Ad r.data.length cd) r.data∧IntsAt S w (.slice At r.tags.length ct) r.tags ∧
  r.data.length≤9223372036854775807∧r.tags.length≤9223372036854775807∧i64 r.lo∧i64 r.many∧i64 r.born:=by
 obtain ⟨c,rfl,rfl,hok⟩:=h;obtain ⟨Ad,cd,e1,d1,d2⟩:=hok.data.form;obtain ⟨At,ct,e2,t1,t2⟩:=hok.tags.form;unfold maxLen at d2 t2;exact ⟨Ad,cd,At,ct,by rw [← e1,← e2],e1▸hok.data,e2▸hok.tags,by omega,by omega,hok.lo,hok.many,hok.born⟩
theorem RcOk.req {c:Rc} (h:RcOk S w c):ReqAt S w (rqV c.r c.dv c.tv) c.r:=⟨c,rfl,rfl,h⟩
theorem ReqsAt.at_ {A:Option Addr} {n cap:Nat} {l:List Rq} (h:ReqsAt S w (.slice A n cap) l) (hn:0<l.length) :
  ∃ b off,A=some ⟨b,off,none⟩∧S b∧b<w.heap.size∧∀ i r,l[i]?=some r→∃ Ad cd At ct,ReqAt S w (rqV r (.slice Ad r.data.length cd) (.slice At r.tags.length ct)) r ∧
   w.cell? ⟨b,off+i * 6,none⟩=some (.bool r.write)∧w.cell? ⟨b,off+i * 6+1,none⟩=some (.int .i64 r.lo)∧w.cell? ⟨b,off+i * 6+2,none⟩=some (.int .i64 r.many) ∧
   w.cell? ⟨b,off+i * 6+3,none⟩=some (.slice Ad r.data.length cd)∧w.cell? ⟨b,off+i * 6+4,none⟩=some (.slice At r.tags.length ct)∧w.cell? ⟨b,off+i * 6+5,none⟩=some (.int .i64 r.born):=by
 obtain ⟨cs,rfl,h2,h3⟩:=h;rw [List.length_map] at hn;have he:n=cs.length:=by obtain ⟨_,_,e,_⟩:=h2.form; injection e
 subst he;obtain ⟨b,off,e,hS,hlt,hc⟩:=h2.at_ hn (by omega);refine ⟨b,off,e,hS,hlt,fun i r hi=>?_⟩;rw [List.getElem?_map] at hi;obtain ⟨c,hci,rfl⟩:=Option.map_eq_some_iff.1 hi;have hg:=fun j hj=>flat_get cs i j c hci hj
 have hok:=h3 c (List.mem_of_getElem? hci);obtain ⟨Ad,cd,e1,_,_⟩:=hok.data.form;obtain ⟨At,ct,e2,_,_⟩:=hok.tags.form;exact ⟨Ad,cd,At,ct,by rw [← e1,← e2]; exact hok.req,hc _ _ (hg 0 (by omega)),hc _ _ (hg 1 (by omega)),hc _ _ (hg 2 (by omega)),by rw [← e1]; exact hc _ _ (hg 3 (by omega)),by rw [← e2]; exact hc _ _ (hg 4 (by omega)),hc _ _ (hg 5 (by omega))⟩
end
end Go.Proofs.YtagndjihiklmiaaGreatDoor
namespace Go.Proofs.YtagndjihiklmiaaGreatDoor
open Go.RowKit Go.Sort
theorem mixed:Tryz.prog.follows .mixedOrders=true:=by kernel_rfl
theorem bcell {W w1:World} (hb:Below W.heap.size W w1):(∀ b o,b<W.heap.size→w1.cell? ⟨b,o,none⟩=W.cell? ⟨b,o,none⟩)∧(∀ b o,b<W.heap.size→w1.frozen? ⟨b,o,none⟩=W.frozen? ⟨b,o,none⟩) :=
 ⟨fun b o h=>hb.cell (p:=⟨b,o,none⟩) h,fun b o h=>hb.frozen (p:=⟨b,o,none⟩) h⟩
theorem Calls.rg {f:FuncId} {args:Array Value} {w:World} {d:Nat} {os:Array Obj} {v:Value}
  (h:Calls Tryz.prog f args (grow (redrawn w d) os) (Ret v (grow (redrawn w d) os))):Calls Tryz.prog f args (grow (redrawn w d) os) fun e w''=>e=.returned v∧∃ p:Regrown,w''=grow (redrawn w p.d) p.os :=
 Calls.regrown_of h
end Go.Proofs.YtagndjihiklmiaaGreatDoor
namespace Go.Proofs.YtagndjihiklmiaaGreatDoor
open Go.RowKit
section
variable {P:Program} {S:Nat→Prop} (w:World)
theorem run_append_rd (base:Nat) (t ty e:TypeId) (i:TypeInfo) (z:Value) (size bytes:Nat) (ht:P.underlying t=some (.slice e)) (hi:P.info? e=some i) (hz:i.zero=some z)
  (hsize:i.size=size) (hby:i.bytes=bytes) (hzs:z.cells.size=size) (hsz:0<size)
  (v:Value) (n:Nat) (xs:List Value) (hown:w.ownsRow base e size v n xs)
  (x:Value) (m:Nat) (news:List Value) (hr:Rd S w size x m news) (h1:∀ u ∈ news,u.oneCell'=true)
  (h63:n+m≤maxLen) (hbytes:(n+m) * bytes≤140737488355328) (hbase:base≤w.heap.size) :
  ∃ v' w',(Builtin.append_ #[t,t] ty #[v,x]).run P w=.ok v' w'∧w'.ownsRow base e size v' (n+m) (xs ++ news)∧w.grownBy w' v.ownBlock ∧
   (v'.ownBlock=v.ownBlock∨v'.ownBlock=some w.heap.size):=by
 obtain ⟨A,c,rfl,hmc,hcm,hlen,hat⟩:=hr
 cases A with
 |none =>
  have hm:m=0:=by
   rcases Nat.eq_zero_or_pos m with h0 | h0
   ·exact h0
   ·obtain ⟨_,_,h,_⟩:=hat h0
    cases h
  subst hm;obtain rfl:news=[]:=List.eq_nil_of_length_eq_zero (by simpa using hlen);refine ⟨v,w,?_,by simpa using hown,World.grownBy.refl w _,.inl rfl⟩
  rcases hown.2 with ⟨rfl,rfl⟩ | ⟨g,cap,cur,rfl,_,_,hnc,_⟩
  ·simp [Builtin.append_,run_underlying ht,sizeOf,typeInfo,hi,Builtin.lenOf,Builtin.firstCells]
  ·simp [Builtin.append_,run_underlying ht,sizeOf,typeInfo,hi,Builtin.lenOf,Builtin.firstCells,hnc,storeCells]
 |some ad =>
  have hcells:∀ j u,news[j]?=some u→w.cell? (ad.add j)=some u:=by
   intro j u hu;rcases Nat.eq_zero_or_pos m with h0 | h0
   ·subst h0
    obtain rfl:news=[]:=List.eq_nil_of_length_eq_zero (by simpa using hlen);simp at hu
   ·obtain ⟨b,off,he,_,hc⟩:=hat h0
    cases he
    rw [Go.WideShapes.add_plain];exact hc j u hu
  obtain ⟨v',w',hrun,h2,h3,_,h5⟩:=run_append_own_at (P:=P) w base t ty e i z size bytes ht hi hz hsize hby hzs hsz v n xs hown ad m c news hlen hcells h1 h63 hbytes hbase;exact ⟨v',w',hrun,h2,h3,h5⟩
theorem wpList_append_rd {ops:Array Oper} {rest:List Oper} {o:Oper} {a:Act} {Q:Exit→Act→World→Prop} (hgd:o.guard=none) (s x:Operand) (t:TypeId)
  (ho:o.op=.call { callee:=.builtin .append,args:=#[s,x],argTypes:=#[t,t] })
  (base:Nat) (e:TypeId) (i:TypeInfo) (z:Value) (size bytes:Nat) (ht:P.underlying t=some (.slice e)) (hi:P.info? e=some i) (hz:i.zero=some z)
  (hsize:i.size=size) (hby:i.bytes=bytes) (hzs:z.cells.size=size) (hsz:0<size)
  (v:Value) (n:Nat) (xs:List Value) (hs:a.eval s=v) (hown:w.ownsRow base e size v n xs)
  (u:Value) (m:Nat) (news:List Value) (hx:a.eval x=u) (hr:Rd S w size u m news) (h1:∀ u ∈ news,u.oneCell'=true)
  (h63:n+m≤maxLen) (hbytes:(n+m) * bytes≤140737488355328) (hbase:base≤w.heap.size)
  (h:∀ v' w',w'.ownsRow base e size v' (n+m) (xs ++ news)→w.grownBy w' v.ownBlock→(v'.ownBlock=v.ownBlock∨v'.ownBlock=some w.heap.size)→wpList P ops Q rest (a.put o.dst v') w'):wpList P ops Q (o :: rest) a w :=
 wpList_plain hgd fun K hK=>by
  obtain ⟨v',w',hrun,h2,h3,h4⟩:=run_append_rd (P:=P) (S:=S) w base t o.type e i z size bytes ht hi hz hsize hby hzs hsz v n xs hown u m news hr h1 h63 hbytes hbase;unfold Oper.wp execOp;simp only [ho,resolve,invoke,builtin,Sem.run_bind,Sem.run_pure,Result.andThen_ok,List.map_toArray,List.map_cons,List.map_nil,hs,hx,hrun];exact hK _ _ (h v' w' h2 h3 h4)
theorem step_append_rd {ops:Array Oper} {o:Oper} {a:Act} {K:Act→World→Prop} {Q:Exit→Act→World→Prop} {E:Prop} (hgd:o.guard=none) (s x:Operand) (t:TypeId)
  (ho:o.op=.call { callee:=.builtin .append,args:=#[s,x],argTypes:=#[t,t] })
  (base:Nat) (e:TypeId) (i:TypeInfo) (z:Value) (size bytes:Nat) (ht:P.underlying t=some (.slice e)) (hi:P.info? e=some i) (hz:i.zero=some z)
  (hsize:i.size=size) (hby:i.bytes=bytes) (hzs:z.cells.size=size) (hsz:0<size)
  (v:Value) (n:Nat) (xs:List Value) (hs:a.eval s=v) (hown:w.ownsRow base e size v n xs)
  (u:Value) (m:Nat) (news:List Value) (hx:a.eval x=u) (hr:Rd S w size u m news) (h1:∀ u ∈ news,u.oneCell'=true)
  (h63:n+m≤maxLen) (hbytes:(n+m) * bytes≤140737488355328) (hbase:base≤w.heap.size)
  (h:∀ v' w',w'.ownsRow base e size v' (n+m) (xs ++ news)→w.grownBy w' v.ownBlock→(v'.ownBlock=v.ownBlock∨v'.ownBlock=some w.heap.size)→K (a.put o.dst v') w') :
  if Region.wanted o (yielded ops a.tmps)=true then Oper.wp P o a w K Q else E:=by
 have hw:Region.wanted o (yielded ops a.tmps)=true:=by simp [Region.wanted,hgd]
 rw [if_pos hw];obtain ⟨v',w',hrun,h2,h3,h4⟩:=run_append_rd (P:=P) (S:=S) w base t o.type e i z size bytes ht hi hz hsize hby hzs hsz v n xs hown u m news hr h1 h63 hbytes hbase;unfold Oper.wp execOp;simp only [ho,resolve,invoke,builtin,Sem.run_bind,Sem.run_pure,Result.andThen_ok,List.map_toArray,List.map_cons,List.map_nil,hs,hx,hrun];exact h v' w' h2 h3 h4
theorem run_append_rd_fits (base:Nat) (t ty e:TypeId) (i:TypeInfo) (size:Nat) (ht:P.underlying t=some (.slice e)) (hi:P.info? e=some i) (hsize:i.size=size)
  (g n cap:Nat) (xs:List Value) (hown:w.ownsRow base e size (.slice (some ⟨g,0,none⟩) n cap) n xs)
  (x:Value) (m:Nat) (news:List Value) (hr:Rd S w size x m news) (h1:∀ u ∈ news,u.oneCell'=true) (hroom:n+m≤cap) :
  ∃ w',(Builtin.append_ #[t,t] ty #[.slice (some ⟨g,0,none⟩) n cap,x]).run P w=.ok (.slice (some ⟨g,0,none⟩) (n+m) cap) w' ∧
   w'.ownsRow base e size (.slice (some ⟨g,0,none⟩) (n+m) cap) (n+m) (xs ++ news)∧w.grownBy w' (some g):=by
 obtain ⟨A,c,rfl,hmc,hcm,hlen,hat⟩:=hr;have hm0:m=0→news=[]:=fun h=>List.eq_nil_of_length_eq_zero (by rw [hlen,h]; simp)
 cases A with
 |none =>
  have hm:m=0:=by
   rcases Nat.eq_zero_or_pos m with h0 | h0
   ·exact h0
   ·obtain ⟨_,_,h,_⟩:=hat h0
    cases h
  obtain rfl:=hm0 hm;subst hm;refine ⟨w,?_,by simpa using hown,World.grownBy.refl w _⟩
  rcases hown.2 with ⟨h,_⟩ | ⟨g',cap',cur,h,_,_,hnc,_⟩
  ·cases h
  ·cases h
   simp [Builtin.append_,run_underlying ht,sizeOf,typeInfo,hi,Builtin.lenOf,Builtin.firstCells,hnc,storeCells]
 |some ad =>
  refine run_append_fits (P:=P) w base t ty e i size ht hi hsize g n cap xs hown ad m c news hlen (fun j u hu=>?_) h1 hroom;rcases Nat.eq_zero_or_pos m with h0 | h0
  ·rw [hm0 h0] at hu; simp at hu
  ·obtain ⟨b,off,he,_,hc⟩:=hat h0
   cases he
   rw [Go.WideShapes.add_plain];exact hc j u hu
theorem step_append_rd_fits {ops:Array Oper} {o:Oper} {a:Act} {K:Act→World→Prop} {Q:Exit→Act→World→Prop} {E:Prop} (hgd:o.guard=none) (s x:Operand) (t:TypeId)
  (ho:o.op=.call { callee:=.builtin .append,args:=#[s,x],argTypes:=#[t,t] })
  (base:Nat) (e:TypeId) (i:TypeInfo) (size:Nat) (ht:P.underlying t=some (.slice e)) (hi:P.info? e=some i) (hsize:i.size=size)
  (g n cap:Nat) (xs:List Value) (hs:a.eval s=.slice (some ⟨g,0,none⟩) n cap) (hown:w.ownsRow base e size (.slice (some ⟨g,0,none⟩) n cap) n xs)
  (u:Value) (m:Nat) (news:List Value) (hx:a.eval x=u) (hr:Rd S w size u m news) (h1:∀ u ∈ news,u.oneCell'=true) (hroom:n+m≤cap)
  (h:∀ w',w'.ownsRow base e size (.slice (some ⟨g,0,none⟩) (n+m) cap) (n+m) (xs ++ news)→w.grownBy w' (some g)→K (a.put o.dst (.slice (some ⟨g,0,none⟩) (n+m) cap)) w') :
  if Region.wanted o (yielded ops a.tmps)=true then Oper.wp P o a w K Q else E:=by
 have hw:Region.wanted o (yielded ops a.tmps)=true:=by simp [Region.wanted,hgd]
 rw [if_pos hw];obtain ⟨w',hrun,h2,h3⟩:=run_append_rd_fits (P:=P) (S:=S) w base t o.type e i size ht hi hsize g n cap xs hown u m news hr h1 hroom;unfold Oper.wp execOp;simp only [ho,resolve,invoke,builtin,Sem.run_bind,Sem.run_pure,Result.andThen_ok,List.map_toArray,List.map_cons,List.map_nil,hs,hx,hrun];exact h w' h2 h3
theorem own_take {base:Nat} {e:TypeId} {size n cap k:Nat} {A:Option Addr} {xs:List Value} (hk:k≤n) (hn:0<n) (h:w.ownsRow base e size (.slice A n cap) n xs):w.ownsRow base e size (.slice A k cap) k (xs.take (k * size)):=by
 obtain ⟨hl,h2⟩:=h;have hkn:k * size≤n * size:=Nat.mul_le_mul_right _ hk;refine ⟨by rw [List.length_take,hl]; omega,?_⟩
 rcases h2 with ⟨hv,h0⟩ | ⟨g,cap',cur,hv,hb,hh,hnc,hcm,hcs,htake⟩
 ·omega
 ·cases hv
  exact .inr ⟨g,_,cur,rfl,hb,hh,by omega,hcm,hcs,by rw [← htake,List.take_take]; congr 1; omega⟩
theorem Rd.of_own {base:Nat} {e:TypeId} {size n:Nat} {v:Value} {xs:List Value} (hS:∀ b,base≤b→S b) (h:w.ownsRow base e size v n xs):Rd S w size v n xs:=by
 rcases h.2 with ⟨rfl,rfl⟩ | ⟨g,cap,cur,rfl,hb,hh,hnc,hcm,hcs,htake⟩
 ·obtain rfl:xs=[]:=List.eq_nil_of_length_eq_zero (by simpa using h.1)
  exact Rd.nil
 ·refine ⟨_,cap,rfl,hnc,hcm,h.1,fun hn=>⟨g,0,rfl,hS _ hb,fun j u hu=>?_⟩⟩
  have:=h.cells (g:=g) rfl j u hu
  rwa [Go.WideShapes.add_plain] at this
end
end Go.Proofs.YtagndjihiklmiaaGreatDoor
namespace Go.Proofs.YtagndjihiklmiaaGreatDoor
open Go.RowKit
theorem own_keepL {w w':World} {base:Nat} {e:TypeId} {size n:Nat} {v:Value} {xs:List Value} (h:w.ownsRow base e size v n xs) (hk:∀ g,base≤g→g<w.heap.size→w'.heap[g]?=w.heap[g]?):w'.ownsRow base e size v n xs:=by
 have hl:=h.lt;obtain ⟨h1,h2⟩:=h;refine ⟨h1,?_⟩
 rcases h2 with h2 | ⟨g',cap',cur,hv,hb,hh,h3⟩
 ·exact .inl h2
 ·subst hv
  exact .inr ⟨g',cap',cur,rfl,hb,(hk _ hb (hl g' rfl).2).trans hh,h3⟩
theorem own_mono {w:World} {base base':Nat} {e:TypeId} {size n:Nat} {v:Value} {xs:List Value} (h:w.ownsRow base e size v n xs) (hb:base'≤base):w.ownsRow base' e size v n xs:=by
 obtain ⟨h1,h2⟩:=h;refine ⟨h1,?_⟩
 rcases h2 with h2 | ⟨g,cap,cur,hv,hg,h3⟩
 ·exact .inl h2
 ·exact .inr ⟨g,cap,cur,hv,by omega,h3⟩
theorem own_slice' {w:World} {base:Nat} {e:TypeId} {size n:Nat} {v:Value} {xs:List Value} (h:w.ownsRow base e size v n xs):∃ A m c,v=.slice A m c∧m=n:=by
 rcases h.2 with ⟨rfl,rfl⟩ | ⟨g,cap,cur,rfl,_⟩
 ·exact ⟨_,_,_,rfl,rfl⟩
 ·exact ⟨_,_,_,rfl,rfl⟩
theorem own_slice {w:World} {base:Nat} {e:TypeId} {size n:Nat} {v:Value} {xs:List Value} (h:w.ownsRow base e size v n xs):∃ A c,v=.slice A n c:=by
 rcases h.2 with ⟨rfl,rfl⟩ | ⟨g,cap,cur,rfl,_⟩
 ·exact ⟨_,_,rfl⟩
 ·exact ⟨_,_,rfl⟩
theorem own_form {w:World} {base:Nat} {e:TypeId} {size n:Nat} {v:Value} {xs:List Value} (h:w.ownsRow base e size v n xs) (hn:0<n) :
  ∃ g cap,v=.slice (some ⟨g,0,none⟩) n cap∧base≤g∧g<w.heap.size∧n≤cap∧cap≤9223372036854775807:=by
 rcases h.2 with ⟨_,h0⟩ | ⟨g,cap,cur,hv,hb,hh,h3,h4,_⟩
 ·omega
 ·subst hv
  unfold maxLen at h4;exact ⟨g,cap,rfl,hb,(h.lt g rfl).2,h3,by omega⟩
theorem rd_row1 (w:World) (u:Value) (T:TypeId):Rd (fun _=>True) (w.alloc (Obj.cells #[u] T)) 1 (.slice (some ⟨w.heap.size,0,none⟩) 1 1) 1 [u] :=
 ⟨_,1,rfl,Nat.le_refl _,by simp [maxLen],rfl,fun _=>⟨w.heap.size,0,rfl,trivial,fun j v hv=>by
  rw [Nat.zero_add,cell_of_row _ _ j _ _ _ (heap_alloc_new w _)]
  simpa using hv⟩⟩
end Go.Proofs.YtagndjihiklmiaaGreatDoor
namespace Go.Proofs.YtagndjihiklmiaaGreatDoor
open Go.RowKit
def RetOwn (e:TypeId) (size n:Nat) (xs:List Value) (w:World):Ending→World→Prop:=fun E w'=>∃ v,E=.returned v∧w'.ownsRow w.heap.size e size v n xs∧Below w.heap.size w w'
theorem reqInfo:(Tryz.prog.info? 117).map (fun i=>(i.zero,i.size,i.bytes))=some (some (.agg #[.bool false,.int .i64 0,.int .i64 0,.slice none 0 0,.slice none 0 0,.int .i64 0]),6,80):=by kernel_rfl
theorem nil_reqs (a:Option Addr) (n c:Nat) (w:World):(binOp .eql 50 (.slice a n c) (.slice none 0 0)).run Tryz.prog w=.ok (.bool a.isNone) w:=Lib.run_eql_slice_nil w _ _ a n c 0 0 Tryz.underlying50
theorem clone_any (S:Nat→Prop) (v:Value) (n:Nat) (xs:List Value) (w:World) (h:Rd S w 6 v n xs) (h1:∀ u ∈ xs,u.oneCell'=true) (hn:n≤65536) :
  Calls Tryz.prog 99 #[v] w (RetOwn 117 6 n xs w):=by
 obtain ⟨i0,hi0,hz0,hz1,hz2⟩:=info_parts reqInfo;have H:=Lib.hid h;obtain ⟨A,c,rfl,hm,hc⟩:=h.form;clear h;have hnil:=nil_reqs A n c w
 cases A with
 |none =>
  have hn0:n=0:=by
   obtain ⟨A',c',e,_,_,_,h4⟩:=H.out
   cases e
   rcases Nat.eq_zero_or_pos n with h | h
   ·exact h
   ·obtain ⟨_,_,h,_⟩:=h4 h; cases h
  subst hn0;have hx:xs=[]:=List.eq_nil_of_length_eq_zero (by obtain ⟨_,_,_,_,_,h,_⟩:=H.out; simpa using h);subst hx;go_enter Tryz.func99,Tryz.ntmps99;go_wp2_with fail;go_ret;exact ⟨_,rfl,World.ownsRow_nil _ _ _ _,Below.refl _ _⟩
 |some ad =>
  go_enter Tryz.func99,Tryz.ntmps99;go_wp2_with (at_builtin; refine wpList_append_rd (S:=S) _ rfl (.tmp 5) (.tmp 6) _ rfl w.heap.size 117 i0 _ 6 80 Tryz.underlying50 hi0 hz0 hz1 hz2 rfl (by omega) (.slice (some ⟨w.heap.size,0,none⟩) 0 0) 0 [] rfl (World.ownsRow_lit w #[] 0 (Nat.le_refl _) (by simp [maxLen]) (by simp)) (.slice (some ad) n c) n xs rfl (H.out.below ((Below.refl _ _).alloc (Nat.le_refl _) _)) h1 (by simp only [maxLen]; omega) (by omega) (by simp) ?_; intro v1 w1 hown1 hg1 hat1);go_ret;refine ⟨v1,rfl,by simpa using hown1,((Below.refl _ _).alloc (Nat.le_refl _) _).grown hg1 (by simp) (fun k hk=>?_)⟩;simp [Value.ownBlock] at hk;omega
end Go.Proofs.YtagndjihiklmiaaGreatDoor
namespace Go.Proofs.YtagndjihiklmiaaGreatDoor
open Go.RowKit
theorem run_clear_row {P:Program} (w:World) (t e ty:TypeId) (z:Value) (size:Nat) (ht:P.underlying t=some (.slice e)) (hv:∀ w,(zeroValue e).run P w=.ok z w) (hz:z.cells.size=size)
  (h1:∀ n,∀ u ∈ (Builtin.zeroCells z.cells n).toList,u.oneCell'=true) (g o n c:Nat) (T:TypeId) (cur:Array Value) (hg:w.heap[g]?=some (.cells cur T (0,0))) (hfit:o+n * size≤cur.size) :
  ∃ cur',(Builtin.clear_ #[t] ty #[.slice (some ⟨g,o,none⟩) n c]).run P w=.ok (.tuple #[]) (w.setRow g cur')∧cur'.size=cur.size∧cur'.toList.take o=cur.toList.take o:=by
 cases n with
 |zero =>
  refine ⟨cur,?_,rfl,rfl⟩;rw [setRow_self w g cur T (0,0) hg];simp [Builtin.clear_,run_underlying ht]
 |succ m =>
  have hlen:(Builtin.zeroCells z.cells (m+1)).toList.length=(m+1) * size:=by rw [Array.length_toList,size_zeroCells,hz]
  have hst:=run_storeCells_at P g o T (Builtin.zeroCells z.cells (m+1)).toList 0 cur w hg (by rw [hlen]; simpa using hfit) (h1 _);refine ⟨(cur.toList.take (o+0) ++ (Builtin.zeroCells z.cells (m+1)).toList ++ cur.toList.drop (o+0+(Builtin.zeroCells z.cells (m+1)).toList.length)).toArray,?_,?_,?_⟩
  ·simp [Builtin.clear_,run_underlying ht,hv,hst]
  ·simp only [List.size_toArray,List.length_append,List.length_take,List.length_drop,hlen,Array.length_toList]
   omega
  ·simp only [Nat.add_zero,List.append_assoc]
   rw [List.take_append_of_le_length (by simp; omega)];simp [List.take_take]
end Go.Proofs.YtagndjihiklmiaaGreatDoor
