/- From a law's walk to its row: whatever the arguments, the call returns true and writes nothing that was there. The arguments of the laws, opened: turns, requests, lists of requests. Arguments that are steps of a stack: how they lie, and opened. A step of a stack: what the laws of package weighbridgetop do with it. gen_lawstep.py prints this text. What the laws of the stack share: steps that are few, a stack that works, a stack behind some steps. -/
import Derived.Test.YtlomdfbnicbceaaGreatM1
import Derived.ProofKit
import Derived.OpenShut
import Derived.Lib.SmallJoins
import Derived.Deep.Slices
import Derived.Deep.Fields
import Derived.SliceStrings
import Derived.Test.YtlomdfbnicbceaaGreatM2
import Derived.Test.YtlomdfbnicbceaaGreatM31
import Derived.Test.YtlomdfbnicbceaaGreatM3
import Derived.Test.YtlomdfbnicbceaaGreatM10
set_option linter.unusedSimpArgs false
set_option linter.unusedVariables false
set_option maxRecDepth 100000
set_option maxHeartbeats 8000000
namespace Go.Proofs.YtlomdfbnicbceaaGreat
open Go.ChangeShapes Go.WideShapes Go.ChangeAt Go.RowKit Go.Joins
theorem own:ownKnob Tryz.prog.godebug=none:=by kernel_rfl
theorem laidOut:laidOutB Tryz.prog=true:=by kernel_rfl
section
variable {H:Type} {enc:TypeId × Value→H} {P:Program}
theorem post_of_below {f:Func} {s:ChangeSpec} {apart fresh handsOn again:Bool} {W W':World} {args:Array Value} {v:Value} {ds gs:List (DataW H)} {before pa pv:List MemPlace}
  (hW:DataW.Whole enc P f.params.toList s.vars apart W args.toList ds gs before)
  (hres:∀ (b:Nat) (sp:Nat→Bool) (hd:Bool),DataW.TrodAll enc P W' b sp hd f.resultTypes.toList (v.resultList f.resultTypes.size) (s.fn H (ds ++ gs)).results [])
  (hargs:∀ sp:Nat→Bool,(∀ p ∈ before,sp p.block=true)→DataW.TrodAll enc P W' 0 sp true f.params.toList args.toList (s.fn H (ds ++ gs)).args pa)
  (hvars:∀ sp:Nat→Bool,(∀ p ∈ before,sp p.block=true)→DataW.TrodVars enc P W' sp s.vars (s.fn H (ds ++ gs)).vars pv)
  (hps:before=pa ++ pv) (hb:Below W.heap.size W W')
  (hok:∀ (j:Nat) (t:TypeId) (r:Value),f.resultTypes[j]?=some t→(v.resultList f.resultTypes.size)[j]?=some r→Value.okWide P W' .any 0 t r) :
  s.post enc P f apart fresh handsOn again W args v W':=by
 have hlt:∀ p ∈ before,p.block<W.heap.size:=fun p hp=>hW.lt p hp
 have hold:∀ p ∈ before,(fun b=>decide (b<W.heap.size)) p.block=true:=fun p hp=>by simpa using hlt p hp
 refine ⟨ds,gs,before,[],pa,pv,hW,hres _ _ _,hargs _ hold,hvars _ hold,World.keptBut_mono (fun p hp=>⟨hp,?_⟩) (hb.frame (· ∈ before)),fun _=>?_⟩
 ·rw [hps,List.mem_append] at hp
  exact Or.inr hp
 ·obtain ⟨_,_,_,_,_,hz,hn⟩:=hW
  refine ⟨hok,_,_,([] ++ pa) ++ pv,⟨[] ++ pa,pv,trodAll_append (hargs _ (fun _ _=>rfl)) (hres _ _ _),hvars _ (fun _ _=>rfl),rfl,?_,?_⟩,?_⟩
  ·intro b off hp
   have hin:MemPlace.cell b off ∈ before:=by rw [hps]; simpa using hp
   rw [hb.frozen (hlt _ hin)]
   exact hz b off hin
  ·intro ha
   have:=hn ha
   rw [hps] at this
   simpa using this
  ·intro p hp _
   rw [hps]
   simpa using hp
theorem trodAll_stays (hl:laidOutB P=true) {W W':World} (hb:Below W.heap.size W W') {sp:Nat→Bool}:∀ {ts:List TypeId} {vs:List Value} {ds:List (DataW H)} {ps:List MemPlace},
  (∀ t ∈ ts,P.readableRec t=true∧t<P.types.size)→DataW.TrodAll enc P W 0 (fun _=>true) true ts vs ds ps→(∀ x ∈ ps,x.block<W.heap.size)→(∀ p ∈ ps,sp p.block=true) →
  DataW.TrodAll enc P W' 0 sp true ts vs ds ps
 | [],vs,ds,ps,_,h,_,_=>by
  obtain ⟨rfl,rfl,rfl⟩:=trodAll_nil h
  exact trodAll_mk0
 |t :: ts,vs,ds,ps,ht,h,hlt,hsp=>by
  obtain ⟨v,vs',d,ds',p,q,rfl,rfl,rfl,h0,h1⟩:=trodAll_cons h
  refine trodAll_cons_mk ?_ (trodAll_stays hl hb (fun x hx=>ht x (by simp [hx])) h1 (fun x hx=>hlt x (by simp [hx])) (fun x hx=>hsp x (by simp [hx])))
  exact WideElems.Trod_stays hl (ht t (by simp)).1 (ht t (by simp)).2 h0 (fun x hx=>hb.same (hlt x (by simp [hx]))) (fun x hx=>hsp x (by simp [hx]))
end
theorem ok_bool {fn:Func} {W':World} (hres:fn.resultTypes=#[4]) (b:Bool) :
  ∀ (j:Nat) (t':TypeId) (r:Value),fn.resultTypes[j]?=some t'→((Value.bool b).resultList fn.resultTypes.size)[j]?=some r→Value.okWide Tryz.prog W' .any 0 t' r:=by
 have h0:Value.okWide Tryz.prog W' .any 0 4 (.bool b):=okWide_bool_mk Tryz.underlying4 b
 generalize Tryz.prog=P at h0 ⊢
 exact ok_one hres rfl h0
theorem law_contract {H:Type} {enc:TypeId × Value→H} {F:FuncId} {fn:Func} {s:ChangeSpec} {apart fresh handsOn again:Bool} (hvars:s.vars=[]) (hres:fn.resultTypes=#[4])
  (hspec:∀ ds:List (DataW H),ds.length=fn.params.size→s.fn H ds={ results:=[.lit (.bool true)],args:=ds })
  (hread:∀ t ∈ fn.params.toList,Tryz.prog.readableRec t=true∧t<Tryz.prog.types.size)
  {W:World} {args:Array Value} {ds gs:List (DataW H)} {before:List MemPlace}
  (hW:DataW.Whole enc Tryz.prog fn.params.toList s.vars apart W args.toList ds gs before)
  (walk:∀ p,DataW.TrodAll enc Tryz.prog W 0 (fun _=>true) true fn.params.toList args.toList ds p→(∀ x ∈ p,x.block<W.heap.size)→Calls Tryz.prog F args W (Ret (.bool true) W)) :
  Calls Tryz.prog F args W fun e W'=>∃ v,e=.returned v∧s.post enc Tryz.prog fn apart fresh handsOn again W args v W':=by
 have hW':=hW
 obtain ⟨p,q,hA,hV,rfl,hfz,hnd⟩:=hW
 rw [hvars] at hV
 obtain ⟨rfl,rfl⟩:=trodVars_none hV
 have hlt:∀ x ∈ p,x.block<W.heap.size:=fun x hx=>hW'.lt x (by simp [hx])
 refine (walk p hA hlt).mono fun e W' ⟨he,hb⟩=>?_
 subst he
 have hlen:ds.length=fn.params.size:=by
  have:∀ (ts:List TypeId) (vs:List Value) (ds:List (DataW H)) (ps:List MemPlace),DataW.TrodAll enc Tryz.prog W 0 (fun _=>true) true ts vs ds ps→ds.length=ts.length:=by
   intro ts
   induction ts with
   |nil=>intro vs ds ps h; obtain ⟨_,rfl,_⟩:=trodAll_nil h; rfl
   |cons t ts ih=>intro vs ds ps h; obtain ⟨v,vs',d,ds',p,q,rfl,rfl,rfl,h0,h1⟩:=trodAll_cons h; simp [ih _ _ _ h1]
  have h2:=this _ _ _ _ hA
  simpa using h2
 have e1:s.fn H (ds ++ [])={ results:=[.lit (.bool true)],args:=ds }:=by rw [List.append_nil]; exact hspec ds hlen
 simp only [List.append_nil] at hW'
 refine ⟨_,rfl,post_of_below (pa:=p) (pv:=[]) hW' ?_ ?_ ?_ (by simp) hb ?_⟩
 ·intro b sp hd
  rw [e1,hres]
  exact trodAll_mk1 (shut_bool Tryz.underlying4 true)
 ·intro sp hsp
  rw [e1]
  exact trodAll_stays laidOut hb hread hA hlt hsp
 ·intro sp hsp
  rw [e1,hvars]
  rfl
 ·exact ok_bool hres true
end Go.Proofs.YtlomdfbnicbceaaGreat
namespace Go.Proofs.YtlomdfbnicbceaaGreat
open Go.ChangeShapes Go.WideShapes Go.ChangeAt Go.RowKit Go.Joins Go.Deep
theorem cells_int:Tryz.prog.cellsOf 3=1:=by kernel_rfl
section
variable {H:Type} {enc:TypeId × Value→H} {W:World} {base b0:Nat} {v:Value} {d:DataW H} {p:List MemPlace}
def Any:Nat→Prop:=fun _=>True
theorem ints_spot {a:Addr} {u:Value} (h:W.cell? (a.add 0)=some u):∃ b off,a=⟨b,off,none⟩:=by
 obtain ⟨b,off,spot⟩:=a
 have hspot:spot=none:=by simpa [Addr.add] using World.cell?_spot h
 subst hspot
 exact ⟨b,off,rfl⟩
end
end Go.Proofs.YtlomdfbnicbceaaGreat
namespace Go.Proofs.YtlomdfbnicbceaaGreat
open Go.ChangeShapes Go.WideShapes Go.ChangeAt Go.RowKit Go.Joins Go.Deep
structure Sp where
 word:ByteArray
 a:Int
 b:Int
 data:ByteArray
def Sp.cells (b:Sp):List Value:=[.string b.word,.int .i64 b.a,.int .i64 b.b,.string b.data]
structure SpOk (z:Sp):Prop where
 a:i64 z.a
 b:i64 z.b
 word:z.word.size≤maxLen
 data:z.data.size≤maxLen
def flatSp (l:List Sp):List Value:=l.flatMap Sp.cells
def StepsAt (S:Nat→Prop) (w:World) (v:Value) (l:List Sp):Prop:=Rd S w 4 v l.length (flatSp l)∧∀ b ∈ l,SpOk b
theorem flatSp_len (l:List Sp):(flatSp l).length=l.length * 4:=by
 induction l with
 |nil=>rfl
 |cons b l ih=>rw [flatSp,List.flatMap_cons,List.length_append]; rw [flatSp] at ih; rw [ih]; simp [Sp.cells]; omega
theorem flatSp_cons (b:Sp) (l:List Sp):flatSp (b :: l)=b.cells ++ flatSp l:=rfl
theorem flatSp_get:∀ (l:List Sp) (i j:Nat) (b:Sp),l[i]?=some b→j<4→(flatSp l)[i * 4+j]?=b.cells[j]?:=by
 intro l
 induction l with
 |nil=>intro i j c h _; simp at h
 |cons a cs ih =>
  intro i j c h hj
  rw [flatSp_cons]
  cases i with
  |zero =>
   simp at h; subst h
   rw [List.getElem?_append_left (by simp [Sp.cells]; omega)]
   simp
  |succ i =>
   rw [List.getElem?_append_right (by simp [Sp.cells]; omega)]
   simp at h
   rw [← ih i j c h hj]
   congr 1
   simp [Sp.cells]; omega
section
variable {S S':Nat→Prop} {w w':World} {v:Value} {l:List Sp}
theorem StepsAt.keep (h:StepsAt S w v l) (hk:∀ b,S b→b<w.heap.size→w'.heap[b]?=w.heap[b]?):StepsAt S w' v l:=⟨h.1.keep hk,h.2⟩
theorem StepsAt.below (h:StepsAt S w v l) (hb:Below w.heap.size w w'):StepsAt S w' v l:=⟨h.1.below hb,h.2⟩
theorem StepsAt.more (h:StepsAt S w v l) (hS:∀ b,S b→S' b):StepsAt S' w v l:=⟨h.1.more hS,h.2⟩
theorem StepsAt.lt (h:StepsAt S w v l):StepsAt (fun b=>S b∧b<w.heap.size) w v l:=⟨h.1.lt (by omega),h.2⟩
theorem StepsAt.form (h:StepsAt S w v l):∃ A cap,v=.slice A l.length cap∧l.length≤cap∧cap≤maxLen:=h.1.form
theorem StepsAt.at_ {A:Option Addr} {n cap:Nat} (h:StepsAt S w (.slice A n cap) l) (hn:0<l.length) :
  ∃ b off,A=some ⟨b,off,none⟩∧S b∧b<w.heap.size∧∀ i x,l[i]?=some x→SpOk x ∧
   w.cell? ⟨b,off+i * 4,none⟩=some (.string x.word)∧w.cell? ⟨b,off+i * 4+1,none⟩=some (.int .i64 x.a)∧w.cell? ⟨b,off+i * 4+2,none⟩=some (.int .i64 x.b) ∧
   w.cell? ⟨b,off+i * 4+3,none⟩=some (.string x.data):=by
 have he:n=l.length:=by obtain ⟨_,_,e,_⟩:=h.1.form; injection e
 subst he
 obtain ⟨b,off,e,hS,hlt,hc⟩:=h.1.at_ hn (by omega)
 refine ⟨b,off,e,hS,hlt,fun i x hi=>?_⟩
 have hg:=fun j hj=>flatSp_get l i j x hi hj
 refine ⟨h.2 x (List.mem_of_getElem? hi),?_,?_,?_,?_⟩
 ·exact hc (i * 4+0) _ ((hg 0 (by omega)).trans rfl)
 ·have:=hc (i * 4+1) _ ((hg 1 (by omega)).trans rfl); rwa [← Nat.add_assoc] at this
 ·have:=hc (i * 4+2) _ ((hg 2 (by omega)).trans rfl); rwa [← Nat.add_assoc] at this
 ·have:=hc (i * 4+3) _ ((hg 3 (by omega)).trans rfl); rwa [← Nat.add_assoc] at this
theorem StepsAt.nil:StepsAt S w (.slice none 0 0) []:=⟨Rd.nil,by simp⟩
end
theorem cells_sp:Tryz.prog.cellsOf 38=4:=by kernel_rfl
section
variable {H:Type} {enc:TypeId × Value→H} {W:World} {base b0:Nat} {v:Value} {d:DataW H} {p:List MemPlace}
theorem sp_of {fuel:Nat} {cs:List Value} {x:DataW H × List MemPlace} {sp:Nat→Bool} (h:DataW.trod enc Tryz.prog W base sp true fuel 38 cs=some x):∃ b:Sp,cs=b.cells∧SpOk b:=by
 obtain ⟨xs,n,_,_,hlen,hxl,hf⟩:=DataW.trod_struct Tryz.underlying38 h
 rw [cells_sp] at hlen
 match cs,hlen with
 | [v0,v1,v2,v3],_ =>
  match xs,hxl with
  | [x0,x1,x2,x3],_ =>
   have f0:=hf 0 _ rfl
   have f1:=hf 1 _ rfl
   have f2:=hf 2 _ rfl
   have f3:=hf 3 _ rfl
   have cs1:Tryz.prog.cellsOf 9=1:=by kernel_rfl
   simp [cs1,cells_int] at f0 f1 f2 f3
   obtain ⟨s0,e0,_,w0⟩:=DataW.trod_string Tryz.underlying9 f0
   obtain ⟨n1,e1,_,w1⟩:=DataW.trod_int Tryz.underlying3 f1
   obtain ⟨n2,e2,_,w2⟩:=DataW.trod_int Tryz.underlying3 f2
   obtain ⟨s3,e3,_,w3⟩:=DataW.trod_string Tryz.underlying9 f3
   simp at e0 e1 e2 e3
   subst e0 e1 e2 e3
   exact ⟨⟨s0,n1,n2,s3⟩,rfl,bounds_i64 w1,bounds_i64 w2,w0,w3⟩
theorem steps_of (h:DataW.Trod enc Tryz.prog W base (fun _=>true) true 22 v d p) (hs:∃ A n c,v=.slice A n c):∃ l,StepsAt Any W v l:=by
 obtain ⟨A,n0,c0,rfl⟩:=hs
 obtain ⟨fuel,hf⟩:=h
 rcases open_slice Tryz.underlying22 hf with ⟨hcs,_⟩ | ⟨a,len,cap,m,n,D,Pl,hcs,_,hl,hm,hmm,_,hi⟩
 ·simp [Value.cells] at hcs
  obtain ⟨rfl,rfl,rfl⟩:=hcs
  exact ⟨[],Rd.nil,by simp⟩
 ·simp [Value.cells] at hcs
  obtain ⟨rfl,rfl,rfl⟩:=hcs
  simp at hmm
  subst hmm
  rw [cells_sp] at hi
  have hc:∀ i,i<n0→∃ c:Sp,W.cells? base (a.add (i * 4)) 4=some c.cells∧SpOk c:=by
   intro i hin
   obtain ⟨cs',h1,h2⟩:=hi i (by omega)
   obtain ⟨c,rfl,hok⟩:=sp_of h2
   exact ⟨c,h1,hok⟩
  clear hi
  have hlist:∀ k,k≤n0→∃ cs:List Sp,cs.length=k∧∀ i c,cs[i]?=some c→W.cells? base (a.add (i * 4)) 4=some c.cells∧SpOk c:=by
   intro k
   induction k with
   |zero=>intro _; exact ⟨[],rfl,by simp⟩
   |succ k ih =>
    intro hk
    obtain ⟨cs,hlen,hall⟩:=ih (by omega)
    obtain ⟨c,h1,h2⟩:=hc k (by omega)
    refine ⟨cs ++ [c],by simp [hlen],fun i c' hi=>?_⟩
    rcases Nat.lt_or_ge i cs.length with hlt | hge
    ·rw [List.getElem?_append_left hlt] at hi; exact hall i c' hi
    ·rw [List.getElem?_append_right hge] at hi
     have hi0:i - cs.length=0:=by
      rcases Nat.eq_zero_or_pos (i - cs.length) with h | h
      ·exact h
      ·rw [List.getElem?_eq_none (by simp; omega)] at hi; cases hi
     rw [hi0] at hi
     simp at hi
     subst hi
     obtain rfl:i=k:=by omega
     exact ⟨h1,h2⟩
  obtain ⟨cs,hlen,hall⟩:=hlist n0 (Nat.le_refl _)
  subst hlen
  refine ⟨cs,⟨some a,_,rfl,hl,hm,flatSp_len cs,fun hn=>?_⟩,fun c hc=>?_⟩
  ·have h0:=(hall 0 cs[0] (List.getElem?_eq_getElem hn)).1
   obtain ⟨_,hcl,hat⟩:=World.cells?_some h0
   have hz:=hat 0 (by omega)
   obtain ⟨b,off,rfl⟩:∃ b off,a=⟨b,off,none⟩:=by
    apply ints_spot (u:=.string cs[0].word)
    have:(a.add (0 * 4)).add 0=a.add 0:=by simp [Addr.add]
    rw [← this,hz]; rfl
   refine ⟨b,off,rfl,trivial,fun j u hu=>?_⟩
   have hjl:j<cs.length * 4:=by
    rcases Nat.lt_or_ge j (cs.length * 4) with h | h
    ·exact h
    ·rw [List.getElem?_eq_none (by rw [flatSp_len]; omega)] at hu; cases hu
   have hq:j / 4<cs.length:=by omega
   have hcq:cs[j / 4]?=some cs[j / 4]:=List.getElem?_eq_getElem hq
   have he:j=j / 4 * 4+j % 4:=by omega
   rw [he,flatSp_get cs _ _ _ hcq (by omega)] at hu
   obtain ⟨_,_,hat⟩:=World.cells?_some (hall _ _ hcq).1
   have:=hat (j % 4) (by omega)
   rw [hu,Go.WideShapes.add_plain,Go.WideShapes.add_plain] at this
   rw [he]
   rw [← this]
   simp [Nat.add_assoc]
  ·obtain ⟨i,hi⟩:=List.getElem?_of_mem hc
   exact (hall i c hi).2
end
end Go.Proofs.YtlomdfbnicbceaaGreat
namespace Go.Proofs.YtlomdfbnicbceaaGreat
open Go.RowKit Go.Sort
end Go.Proofs.YtlomdfbnicbceaaGreat
namespace Go.Proofs.YtlomdfbnicbceaaGreat
open Go.RowKit Go.Sort
structure Lst (W0 w:World) (col:Nat→Nat) (b bd N:Nat) (K:Int) (x:Sv) (s:St) (l:List (Nat × TypeId × Array Value)):Prop where
 st:StAt Ts col w b bd N x s
 inv:Inv s
 bnd:Bd K s
 k0:0≤K
 below:Below W0.heap.size W0 w
 own:∀ k,Fl col k→W0.heap.size≤k
 row:∀ y ∈ l,w.heap[y.1]?=some (.cells y.2.2 y.2.1 (0,0))∧W0.heap.size≤y.1∧col y.1=0
section
variable {W0 w w':World} {col col':Nat→Nat} {b bd N M:Nat} {K L:Int} {x y:Sv} {s t:St} {l:List (Nat × TypeId × Array Value)}
theorem Lst.step (h:Lst W0 w col b bd N K x s l) (hb:Below w.heap.size w w'):Lst W0 w' col b bd N K x s l :=
 ⟨h.st.below hb,h.inv,h.bnd,h.k0,h.below.trans (hb.mono h.below.size),h.own,fun y hy=>⟨(hb.block _ (Array.getElem?_eq_some_iff.1 (h.row y hy).1).1).trans (h.row y hy).1,(h.row y hy).2⟩⟩
theorem Lst.alloc (h:Lst W0 w col b bd N K x s l) (n:Nat) (cs:Array Value) (A:TypeId) (hn:w.heap.size=n):Lst W0 (w.alloc (.cells cs A)) col b bd N K x s ((n,A,cs) :: l):=by
 subst hn
 have h1:=h.step ((Below.refl w.heap.size w).alloc (Nat.le_refl _) (.cells cs A))
 refine ⟨h1.st,h1.inv,h1.bnd,h1.k0,h1.below,h1.own,fun y hy=>?_⟩
 rcases List.mem_cons.1 hy with rfl | hy
 ·exact ⟨heap_alloc_new _ _,h.below.size,h.st.s0 _ (Nat.le_refl _)⟩
 ·exact h1.row y hy
theorem Lst.call (h:Lst W0 w col b bd N K x s l) (ha:StAt Ts col' w' b bd M y t) (hI:Inv t) (hB:Bd L t) (hL:0≤L) (hc:Chg (Fl col) w w') (hr:Rec col col' w w'):Lst W0 w' col' b bd M L y t l:=by
 refine ⟨ha,hI,hB,hL,h.below.trans ((hc.below h.own h.below.size)),fun k hk=>(hr.grow k hk).elim (h.own k) (fun h1=>Nat.le_trans h.below.size h1),fun z hz=>?_⟩
 obtain ⟨h1,h2,h3⟩:=h.row z hz
 have hlt:=(Array.getElem?_eq_some_iff.1 h1).1
 exact ⟨(hc.block _ hlt (fun hf=>hf.1 h3)).trans h1,h2,by rw [hr.old _ hlt]; exact h3⟩
theorem Lst.drop (h:Lst W0 w col b bd N K x s l):Lst W0 w col b bd N K x s []:=⟨h.st,h.inv,h.bnd,h.k0,h.below,h.own,by simp⟩
theorem Lst.tail {a:Nat × TypeId × Array Value} (h:Lst W0 w col b bd N K x s (a :: l)):Lst W0 w col b bd N K x s l:=⟨h.st,h.inv,h.bnd,h.k0,h.below,h.own,fun y hy=>h.row y (List.mem_cons_of_mem _ hy)⟩
theorem Lst.cell (h:Lst W0 w col b bd N K x s l) (i:Nat) {n:Nat} {T:TypeId} {cs:Array Value} (hi:l[i]?=some (n,T,cs)) (k:Nat):w.cell? ⟨n,k,none⟩=cs[k]?:=cell_of_row _ _ k _ _ _ (h.row _ (List.mem_of_getElem? hi)).1
theorem Lst.five {v:Value} {e:Ending} (h:Lst W0 w col b bd N K x s l) (hr:Ret5 Ts col w b bd M t v e w') (hI:Inv t) (hB:Bd L t) (hL:0≤L):e=.returned v∧∃ col' y,Lst W0 w' col' b bd M L y t l:=by
 obtain ⟨col',y,he,hst,hc,hrc⟩:=hr
 exact ⟨he,col',y,h.call hst hI hB hL hc hrc⟩
theorem Lst.two {v:Value} {e:Ending} (h:Lst W0 w col b bd N K x s l) (hr:Ret2 Ts col w b bd N x t v e w') (hI:Inv t) (hB:Bd L t) (hL:0≤L):e=.returned v∧∃ col' y,Lst W0 w' col' b bd N L y t l:=by
 obtain ⟨y,he,hst,hc,_⟩:=hr
 exact ⟨he,col,y,h.call hst hI hB hL (h.st.chg1 hc) .refl⟩
theorem Lst.four {v:Value} {e:Ending} (h:Lst W0 w col b bd N K x s l) (hr:Ret4 Ts col w b bd N x t v e w') (hI:Inv t) (hB:Bd L t) (hL:0≤L):e=.returned v∧∃ col' y,Lst W0 w' col' b bd N L y t l:=by
 obtain ⟨y,he,hst,hc,_⟩:=hr
 exact ⟨he,col,y,h.call hst hI hB hL hc .refl⟩
end
def lightSp (l:List Sp) (most:Nat):Bool:=decide (l.length≤most) && l.all (fun z=>decide (z.word.size≤20) && decide (z.data.size≤20))
theorem lightsteps_any (S:Nat→Prop) (l:List Sp) (v:Value) (most:Nat) (w:World) (h:StepsAt S w v l) (hm:most≤1000) :
  Calls Tryz.prog 6 #[v,.int .i64 (most:Int)] w (RetSame (.bool (lightSp l most)) w):=by
 obtain ⟨A,cap,rfl,hcl,hcap⟩:=h.form
 have H:=Lib.hid h
 unfold maxLen at hcap
 clear h
 by_cases hl:l.length≤most
 ·have hl2:¬ (most:Int)<(l.length:Int):=by omega
  have Hl:=Lib.hid hl
  go_enter Tryz.func6,Tryz.ntmps6
  go_wp2_with fail
  go_loop [5] (fun i=>∃ k:Nat,k≤l.length∧i=.int .i64 k∧Hid ((l.take k).all (fun z=>decide (z.word.size≤20) && decide (z.data.size≤20))=true)) (fun i=>l.length - (intOf i).toNat)
  case atStart=>exact ⟨0,by omega,rfl,rfl⟩
  case round =>
   obtain ⟨k,hk,rfl,hall⟩:=hrel
   by_cases hlt:k<l.length
   ·have hlt2:(k:Int)<(l.length:Int):=by omega
    obtain ⟨g,off,rfl,_,hgl,hc⟩:=H.out.at_ (by omega)
    have hx:l[k]?=some l[k]:=List.getElem?_eq_getElem hlt
    obtain ⟨hok,c0,c1,c2,c3⟩:=hc k _ hx
    have hw:=hok.word
    have hd:=hok.data
    unfold maxLen at hw hd
    clear hc hok
    have Hx:=Lib.hid hx
    clear hx
    generalize l[k]=z at *
    by_cases h1:z.word.size≤20
    ·have h1':¬ (20:Int)<(z.word.size:Int):=by omega
     by_cases h2:z.data.size≤20
     ·have h2':¬ (20:Int)<(z.data.size:Int):=by omega
      go_wp2_with fail
      go_round
      case rel=>exact ⟨k+1,by omega,by go_num,by show _=true; rw [all_take_succ _ _ _ _ Hx.out,hall.out]; simp [h1,h2]⟩
      case measure=>simp [intOf]; omega
     ·have h2':(20:Int)<(z.data.size:Int):=by omega
      have e:Hid (lightSp l most=false):=show _=_ by unfold lightSp; rw [all_not _ _ _ _ Hx.out (by simp [h2])]; simp
      go_wp2_with fail
      go_ret
      rw [e.out]
      exact ⟨rfl,rfl⟩
    ·have h1':(20:Int)<(z.word.size:Int):=by omega
     have e:Hid (lightSp l most=false):=show _=_ by unfold lightSp; rw [all_not _ _ _ _ Hx.out (by simp [h1])]; simp
     go_wp2_with fail
     go_ret
     rw [e.out]
     exact ⟨rfl,rfl⟩
   ·have hlt2:¬ (k:Int)<(l.length:Int):=by omega
    have e:Hid (lightSp l most=true):=show _=_ by unfold lightSp; rw [all_end _ _ _ (by omega) hall.out]; simp [Hl.out]
    go_wp2_with fail
    go_ret
    rw [e.out]
    exact ⟨rfl,rfl⟩
 ·have hl2:(most:Int)<(l.length:Int):=by omega
  have e:Hid (lightSp l most=false):=show _=_ by unfold lightSp; simp [hl]
  go_enter Tryz.func6,Tryz.ntmps6
  go_wp2_with fail
  go_ret
  rw [e.out]
  exact ⟨rfl,rfl⟩
def st0:St:=St.new Dv.new
theorem inv0:Inv st0:=Inv.new DvOk.new rfl
theorem bd0:Bd 0 st0:=⟨by decide,by decide,by decide⟩
theorem Lst.begin {W0 w w1 w2:World} {b:Nat} {col:Nat→Nat} {y:Sv} (hb:Below W0.heap.size W0 w) (hd:DevAt TDp TPp (fun _=>False) (fun k=>k=w.heap.size) w1 w.heap.size Dv.new) (hb1:Below w.heap.size w w1) (hs1:w1.heap.size=w.heap.size+1)
  (hst:StAt Ts col w2 b w.heap.size 0 y (St.new Dv.new)) (hb2:Below w1.heap.size w1 w2) (hfl:∀ k,Fl col k→k=w.heap.size∨w1.heap.size≤k):Lst W0 w2 col b w.heap.size 0 0 y st0 [] :=
 ⟨hst,inv0,bd0,Int.le_refl _,hb.trans ((hb1.trans (hb2.mono hb1.size)).mono hb.size),fun k hk=>by have:=hb.size; rcases hfl k hk with h | h <;> omega,by simp⟩
def wkX:ByteArray:=⟨#[120]⟩
def wk1:St:=(st0.ask 0 2 3 wkX).1
def wk2:St:=(wk1.ask 1 1 3 noB).1
theorem wk_e1:(st0.ask 0 2 3 wkX).2=0:=by decide
theorem wk_e2:(wk1.ask 1 1 3 noB).2=0:=by decide
theorem wk_got:wk2.got 1=(wkX,0):=by rfl
theorem wk_dirty:dirtyB wk2.bufs=1:=by rfl
end Go.Proofs.YtlomdfbnicbceaaGreat
