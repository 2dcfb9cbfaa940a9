/- From a law's walk to its row: whatever the arguments, the call returns true and writes nothing that was there. -/
import Derived.ProofKit
import Derived.OpenShut
import Derived.Lib.SmallJoins
import Derived.Deep.Slices
import Derived.Deep.Fields
import Derived.SliceStrings
import Derived.Test.YtaeadmlgffaegaaGreatDoorQ42
set_option linter.unusedSimpArgs false
set_option linter.unusedVariables false
set_option maxRecDepth 100000
set_option maxHeartbeats 8000000
namespace Go.Proofs.YtaeadmlgffaegaaGreatDoor
open Go.ChangeShapes Go.WideShapes Go.ChangeAt Go.RowKit Go.Joins
theorem own:ownKnob Tryz.prog.godebug=none:=by kernel_rfl
theorem laidOut:laidOutB Tryz.prog=true:=by kernel_rfl
section
variable {H:Type} {enc:TypeId × Value→H} {P:Program}
theorem post_of_below {f:Func} {s:ChangeSpec} {apart fresh handsOn again:Bool} {W W':World} {args:Array Value} {v:Value} {ds gs:List (DataW H)} {before pa pv:List MemPlace}
  (hW:DataW.Whole enc P f.params.toList s.vars apart W args.toList ds gs before)
  (hres:∀ (b:Nat) (sp:Nat→Bool) (hd:Bool),DataW.TrodAll enc P W' b sp hd f.resultTypes.toList (v.resultList f.resultTypes.size) (s.fn H (ds ++ gs)).results [])
  (hargs:∀ sp:Nat→Bool,(∀ p ∈ before,sp p.block=true)→DataW.TrodAll enc P W' 0 sp true f.params.toList args.toList (s.fn H (ds ++ gs)).args pa)
  (hvars:∀ sp:Nat→Bool,(∀ p ∈ before,sp p.block=true)→DataW.TrodVars enc P W' sp s.vars (s.fn H (ds ++ gs)).vars pv)
  (hps:before=pa ++ pv) (hb:Below W.heap.size W W')
  (hok:∀ (j:Nat) (t:TypeId) (r:Value),f.resultTypes[j]?=some t→(v.resultList f.resultTypes.size)[j]?=some r→Value.okWide P W' .any 0 t r) :
  s.post enc P f apart fresh handsOn again W args v W':=by
 have hlt:∀ p ∈ before,p.block<W.heap.size:=fun p hp=>hW.lt p hp
 have hold:∀ p ∈ before,(fun b=>decide (b<W.heap.size)) p.block=true:=fun p hp=>by simpa using hlt p hp
 refine ⟨ds,gs,before,[],pa,pv,hW,hres _ _ _,hargs _ hold,hvars _ hold,World.keptBut_mono (fun p hp=>⟨hp,?_⟩) (hb.frame (· ∈ before)),fun _=>?_⟩
 ·rw [hps,List.mem_append] at hp
  exact Or.inr hp
 ·obtain ⟨_,_,_,_,_,hz,hn⟩:=hW
  refine ⟨hok,_,_,([] ++ pa) ++ pv,⟨[] ++ pa,pv,trodAll_append (hargs _ (fun _ _=>rfl)) (hres _ _ _),hvars _ (fun _ _=>rfl),rfl,?_,?_⟩,?_⟩
  ·intro b off hp
   have hin:MemPlace.cell b off ∈ before:=by rw [hps]; simpa using hp
   rw [hb.frozen (hlt _ hin)]
   exact hz b off hin
  ·intro ha
   have:=hn ha
   rw [hps] at this
   simpa using this
  ·intro p hp _
   rw [hps]
   simpa using hp
theorem trodAll_stays (hl:laidOutB P=true) {W W':World} (hb:Below W.heap.size W W') {sp:Nat→Bool}:∀ {ts:List TypeId} {vs:List Value} {ds:List (DataW H)} {ps:List MemPlace},
  (∀ t ∈ ts,P.readableRec t=true∧t<P.types.size)→DataW.TrodAll enc P W 0 (fun _=>true) true ts vs ds ps→(∀ x ∈ ps,x.block<W.heap.size)→(∀ p ∈ ps,sp p.block=true) →
  DataW.TrodAll enc P W' 0 sp true ts vs ds ps
 | [],vs,ds,ps,_,h,_,_=>by
  obtain ⟨rfl,rfl,rfl⟩:=trodAll_nil h
  exact trodAll_mk0
 |t :: ts,vs,ds,ps,ht,h,hlt,hsp=>by
  obtain ⟨v,vs',d,ds',p,q,rfl,rfl,rfl,h0,h1⟩:=trodAll_cons h
  refine trodAll_cons_mk ?_ (trodAll_stays hl hb (fun x hx=>ht x (by simp [hx])) h1 (fun x hx=>hlt x (by simp [hx])) (fun x hx=>hsp x (by simp [hx])))
  exact WideElems.Trod_stays hl (ht t (by simp)).1 (ht t (by simp)).2 h0 (fun x hx=>hb.same (hlt x (by simp [hx]))) (fun x hx=>hsp x (by simp [hx]))
end
theorem ok_bool {fn:Func} {W':World} (hres:fn.resultTypes=#[4]) (b:Bool) :
  ∀ (j:Nat) (t':TypeId) (r:Value),fn.resultTypes[j]?=some t'→((Value.bool b).resultList fn.resultTypes.size)[j]?=some r→Value.okWide Tryz.prog W' .any 0 t' r:=by
 have h0:Value.okWide Tryz.prog W' .any 0 4 (.bool b):=okWide_bool_mk Tryz.underlying4 b
 generalize Tryz.prog=P at h0 ⊢
 exact ok_one hres rfl h0
theorem law_contract {H:Type} {enc:TypeId × Value→H} {F:FuncId} {fn:Func} {s:ChangeSpec} {apart fresh handsOn again:Bool} (hvars:s.vars=[]) (hres:fn.resultTypes=#[4])
  (hspec:∀ ds:List (DataW H),ds.length=fn.params.size→s.fn H ds={ results:=[.lit (.bool true)],args:=ds })
  (hread:∀ t ∈ fn.params.toList,Tryz.prog.readableRec t=true∧t<Tryz.prog.types.size)
  {W:World} {args:Array Value} {ds gs:List (DataW H)} {before:List MemPlace}
  (hW:DataW.Whole enc Tryz.prog fn.params.toList s.vars apart W args.toList ds gs before)
  (walk:∀ p,DataW.TrodAll enc Tryz.prog W 0 (fun _=>true) true fn.params.toList args.toList ds p→(∀ x ∈ p,x.block<W.heap.size)→Calls Tryz.prog F args W (Ret (.bool true) W)) :
  Calls Tryz.prog F args W fun e W'=>∃ v,e=.returned v∧s.post enc Tryz.prog fn apart fresh handsOn again W args v W':=by
 have hW':=hW
 obtain ⟨p,q,hA,hV,rfl,hfz,hnd⟩:=hW
 rw [hvars] at hV
 obtain ⟨rfl,rfl⟩:=trodVars_none hV
 have hlt:∀ x ∈ p,x.block<W.heap.size:=fun x hx=>hW'.lt x (by simp [hx])
 refine (walk p hA hlt).mono fun e W' ⟨he,hb⟩=>?_
 subst he
 have hlen:ds.length=fn.params.size:=by
  have:∀ (ts:List TypeId) (vs:List Value) (ds:List (DataW H)) (ps:List MemPlace),DataW.TrodAll enc Tryz.prog W 0 (fun _=>true) true ts vs ds ps→ds.length=ts.length:=by
   intro ts
   induction ts with
   |nil=>intro vs ds ps h; obtain ⟨_,rfl,_⟩:=trodAll_nil h; rfl
   |cons t ts ih=>intro vs ds ps h; obtain ⟨v,vs',d,ds',p,q,rfl,rfl,rfl,h0,h1⟩:=trodAll_cons h; simp [ih _ _ _ h1]
  have h2:=this _ _ _ _ hA
  simpa using h2
 have e1:s.fn H (ds ++ [])={ results:=[.lit (.bool true)],args:=ds }:=by rw [List.append_nil]; exact hspec ds hlen
 simp only [List.append_nil] at hW'
 refine ⟨_,rfl,post_of_below (pa:=p) (pv:=[]) hW' ?_ ?_ ?_ (by simp) hb ?_⟩
 ·intro b sp hd
  rw [e1,hres]
  exact trodAll_mk1 (shut_bool Tryz.underlying4 true)
 ·intro sp hsp
  rw [e1]
  exact trodAll_stays laidOut hb hread hA hlt hsp
 ·intro sp hsp
  rw [e1,hvars]
  rfl
 ·exact ok_bool hres true
end Go.Proofs.YtaeadmlgffaegaaGreatDoor
namespace Go.Proofs.YtaeadmlgffaegaaGreatDoor
open Go.ChangeShapes Go.WideShapes Go.ChangeAt Go.RowKit Go.Joins Go.Deep
theorem cells_int:Tryz.prog.cellsOf 3=1:=by kernel_rfl
section
variable {H:Type} {enc:TypeId × Value→H} {W:World} {base b0:Nat} {v:Value} {d:DataW H} {p:List MemPlace}
def Any:Nat→Prop:=fun _=>True
theorem ints_spot {a:Addr} {u:Value} (h:W.cell? (a.add 0)=some u):∃ b off,a=⟨b,off,none⟩:=by
 obtain ⟨b,off,spot⟩:=a
 have hspot:spot=none:=by simpa [Addr.add] using World.cell?_spot h
 subst hspot
 exact ⟨b,off,rfl⟩
end
end Go.Proofs.YtaeadmlgffaegaaGreatDoor
namespace Go.Proofs.YtaeadmlgffaegaaGreatDoor
open Go.ChangeShapes Go.WideShapes Go.ChangeAt Go.RowKit Go.Joins Go.Deep
def Stp.cells (b:Stp):List Value:=[.string b.word,.int .i64 b.a,.int .i64 b.b,.string b.data]
structure StpOk (z:Stp):Prop where
 a:i64 z.a
 b:i64 z.b
 word:z.word.size≤maxLen
 data:z.data.size≤maxLen
def flatStp (l:List Stp):List Value:=l.flatMap Stp.cells
def StpsAt (S:Nat→Prop) (w:World) (v:Value) (l:List Stp):Prop:=Rd S w 4 v l.length (flatStp l)∧∀ b ∈ l,StpOk b
theorem flatStp_len (l:List Stp):(flatStp l).length=l.length * 4:=by
 induction l with
 |nil=>rfl
 |cons b l ih=>rw [flatStp,List.flatMap_cons,List.length_append]; rw [flatStp] at ih; rw [ih]; simp [Stp.cells]; omega
theorem flatStp_cons (b:Stp) (l:List Stp):flatStp (b :: l)=b.cells ++ flatStp l:=rfl
theorem flatStp_get:∀ (l:List Stp) (i j:Nat) (b:Stp),l[i]?=some b→j<4→(flatStp l)[i * 4+j]?=b.cells[j]?:=by
 intro l
 induction l with
 |nil=>intro i j c h _; simp at h
 |cons a cs ih =>
  intro i j c h hj
  rw [flatStp_cons]
  cases i with
  |zero =>
   simp at h; subst h
   rw [List.getElem?_append_left (by simp [Stp.cells]; omega)]
   simp
  |succ i =>
   rw [List.getElem?_append_right (by simp [Stp.cells]; omega)]
   simp at h
   rw [← ih i j c h hj]
   congr 1
   simp [Stp.cells]; omega
section
variable {S S':Nat→Prop} {w w':World} {v:Value} {l:List Stp}
theorem StpsAt.keep (h:StpsAt S w v l) (hk:∀ b,S b→b<w.heap.size→w'.heap[b]?=w.heap[b]?):StpsAt S w' v l:=⟨h.1.keep hk,h.2⟩
theorem StpsAt.below (h:StpsAt S w v l) (hb:Below w.heap.size w w'):StpsAt S w' v l:=⟨h.1.below hb,h.2⟩
theorem StpsAt.more (h:StpsAt S w v l) (hS:∀ b,S b→S' b):StpsAt S' w v l:=⟨h.1.more hS,h.2⟩
theorem StpsAt.lt (h:StpsAt S w v l):StpsAt (fun b=>S b∧b<w.heap.size) w v l:=⟨h.1.lt (by omega),h.2⟩
theorem StpsAt.form (h:StpsAt S w v l):∃ A cap,v=.slice A l.length cap∧l.length≤cap∧cap≤maxLen:=h.1.form
theorem StpsAt.at_ {A:Option Addr} {n cap:Nat} (h:StpsAt S w (.slice A n cap) l) (hn:0<l.length) :
  ∃ b off,A=some ⟨b,off,none⟩∧S b∧b<w.heap.size∧∀ i x,l[i]?=some x→StpOk x ∧
   w.cell? ⟨b,off+i * 4,none⟩=some (.string x.word)∧w.cell? ⟨b,off+i * 4+1,none⟩=some (.int .i64 x.a)∧w.cell? ⟨b,off+i * 4+2,none⟩=some (.int .i64 x.b) ∧
   w.cell? ⟨b,off+i * 4+3,none⟩=some (.string x.data):=by
 have he:n=l.length:=by obtain ⟨_,_,e,_⟩:=h.1.form; injection e
 subst he
 obtain ⟨b,off,e,hS,hlt,hc⟩:=h.1.at_ hn (by omega)
 refine ⟨b,off,e,hS,hlt,fun i x hi=>?_⟩
 have hg:=fun j hj=>flatStp_get l i j x hi hj
 refine ⟨h.2 x (List.mem_of_getElem? hi),?_,?_,?_,?_⟩
 ·exact hc (i * 4+0) _ ((hg 0 (by omega)).trans rfl)
 ·have:=hc (i * 4+1) _ ((hg 1 (by omega)).trans rfl); rwa [← Nat.add_assoc] at this
 ·have:=hc (i * 4+2) _ ((hg 2 (by omega)).trans rfl); rwa [← Nat.add_assoc] at this
 ·have:=hc (i * 4+3) _ ((hg 3 (by omega)).trans rfl); rwa [← Nat.add_assoc] at this
theorem StpsAt.nil:StpsAt S w (.slice none 0 0) []:=⟨Rd.nil,by simp⟩
end
theorem cells_stpl:Tryz.prog.cellsOf 30=4:=by kernel_rfl
section
variable {H:Type} {enc:TypeId × Value→H} {W:World} {base b0:Nat} {v:Value} {d:DataW H} {p:List MemPlace}
theorem stp_of {fuel:Nat} {cs:List Value} {x:DataW H × List MemPlace} {sp:Nat→Bool} (h:DataW.trod enc Tryz.prog W base sp true fuel 30 cs=some x):∃ b:Stp,cs=b.cells∧StpOk b:=by
 obtain ⟨xs,n,_,_,hlen,hxl,hf⟩:=DataW.trod_struct Tryz.underlying30 h
 rw [cells_stpl] at hlen
 match cs,hlen with
 | [v0,v1,v2,v3],_ =>
  match xs,hxl with
  | [x0,x1,x2,x3],_ =>
   have f0:=hf 0 _ rfl
   have f1:=hf 1 _ rfl
   have f2:=hf 2 _ rfl
   have f3:=hf 3 _ rfl
   have cs1:Tryz.prog.cellsOf 9=1:=by kernel_rfl
   simp [cs1,cells_int] at f0 f1 f2 f3
   obtain ⟨s0,e0,_,w0⟩:=DataW.trod_string Tryz.underlying9 f0
   obtain ⟨n1,e1,_,w1⟩:=DataW.trod_int Tryz.underlying3 f1
   obtain ⟨n2,e2,_,w2⟩:=DataW.trod_int Tryz.underlying3 f2
   obtain ⟨s3,e3,_,w3⟩:=DataW.trod_string Tryz.underlying9 f3
   simp at e0 e1 e2 e3
   subst e0 e1 e2 e3
   exact ⟨⟨s0,n1,n2,s3⟩,rfl,bounds_i64 w1,bounds_i64 w2,w0,w3⟩
theorem stps_of (h:DataW.Trod enc Tryz.prog W base (fun _=>true) true 22 v d p) (hs:∃ A n c,v=.slice A n c):∃ l,StpsAt Any W v l:=by
 obtain ⟨A,n0,c0,rfl⟩:=hs
 obtain ⟨fuel,hf⟩:=h
 rcases open_slice Tryz.underlying22 hf with ⟨hcs,_⟩ | ⟨a,len,cap,m,n,D,Pl,hcs,_,hl,hm,hmm,_,hi⟩
 ·simp [Value.cells] at hcs
  obtain ⟨rfl,rfl,rfl⟩:=hcs
  exact ⟨[],Rd.nil,by simp⟩
 ·simp [Value.cells] at hcs
  obtain ⟨rfl,rfl,rfl⟩:=hcs
  simp at hmm
  subst hmm
  rw [cells_stpl] at hi
  have hc:∀ i,i<n0→∃ c:Stp,W.cells? base (a.add (i * 4)) 4=some c.cells∧StpOk c:=by
   intro i hin
   obtain ⟨cs',h1,h2⟩:=hi i (by omega)
   obtain ⟨c,rfl,hok⟩:=stp_of h2
   exact ⟨c,h1,hok⟩
  clear hi
  have hlist:∀ k,k≤n0→∃ cs:List Stp,cs.length=k∧∀ i c,cs[i]?=some c→W.cells? base (a.add (i * 4)) 4=some c.cells∧StpOk c:=by
   intro k
   induction k with
   |zero=>intro _; exact ⟨[],rfl,by simp⟩
   |succ k ih =>
    intro hk
    obtain ⟨cs,hlen,hall⟩:=ih (by omega)
    obtain ⟨c,h1,h2⟩:=hc k (by omega)
    refine ⟨cs ++ [c],by simp [hlen],fun i c' hi=>?_⟩
    rcases Nat.lt_or_ge i cs.length with hlt | hge
    ·rw [List.getElem?_append_left hlt] at hi; exact hall i c' hi
    ·rw [List.getElem?_append_right hge] at hi
     have hi0:i - cs.length=0:=by
      rcases Nat.eq_zero_or_pos (i - cs.length) with h | h
      ·exact h
      ·rw [List.getElem?_eq_none (by simp; omega)] at hi; cases hi
     rw [hi0] at hi
     simp at hi
     subst hi
     obtain rfl:i=k:=by omega
     exact ⟨h1,h2⟩
  obtain ⟨cs,hlen,hall⟩:=hlist n0 (Nat.le_refl _)
  subst hlen
  refine ⟨cs,⟨some a,_,rfl,hl,hm,flatStp_len cs,fun hn=>?_⟩,fun c hc=>?_⟩
  ·have h0:=(hall 0 cs[0] (List.getElem?_eq_getElem hn)).1
   obtain ⟨_,hcl,hat⟩:=World.cells?_some h0
   have hz:=hat 0 (by omega)
   obtain ⟨b,off,rfl⟩:∃ b off,a=⟨b,off,none⟩:=by
    apply ints_spot (u:=.string cs[0].word)
    have:(a.add (0 * 4)).add 0=a.add 0:=by simp [Addr.add]
    rw [← this,hz]; rfl
   refine ⟨b,off,rfl,trivial,fun j u hu=>?_⟩
   have hjl:j<cs.length * 4:=by
    rcases Nat.lt_or_ge j (cs.length * 4) with h | h
    ·exact h
    ·rw [List.getElem?_eq_none (by rw [flatStp_len]; omega)] at hu; cases hu
   have hq:j / 4<cs.length:=by omega
   have hcq:cs[j / 4]?=some cs[j / 4]:=List.getElem?_eq_getElem hq
   have he:j=j / 4 * 4+j % 4:=by omega
   rw [he,flatStp_get cs _ _ _ hcq (by omega)] at hu
   obtain ⟨_,_,hat⟩:=World.cells?_some (hall _ _ hcq).1
   have:=hat (j % 4) (by omega)
   rw [hu,Go.WideShapes.add_plain,Go.WideShapes.add_plain] at this
   rw [he]
   rw [← this]
   simp [Nat.add_assoc]
  ·obtain ⟨i,hi⟩:=List.getElem?_of_mem hc
   exact (hall i c hi).2
end
end Go.Proofs.YtaeadmlgffaegaaGreatDoor
namespace Go.Proofs.YtaeadmlgffaegaaGreatDoor
open Go.RowKit Go.Sort
def lightStp (l:List Stp) (most:Nat):Bool:=decide (l.length≤most) && l.all (fun z=>decide (z.word.size≤20) && decide (z.data.size≤20))
theorem lightscript_any (S:Nat→Prop) (l:List Stp) (v:Value) (most:Nat) (w:World) (h:StpsAt S w v l) (hm:most≤1000) :
  Calls Tryz.prog 5 #[v,.int .i64 (most:Int)] w (RetSame (.bool (lightStp l most)) w):=by
 obtain ⟨A,cap,rfl,hcl,hcap⟩:=h.form
 have H:=Lib.hid h
 unfold maxLen at hcap
 clear h
 by_cases hl:l.length≤most
 ·have hl2:¬ (most:Int)<(l.length:Int):=by omega
  have Hl:=Lib.hid hl
  go_enter Tryz.func5,Tryz.ntmps5
  go_wp2_with fail
  go_loop [5] (fun i=>∃ k:Nat,k≤l.length∧i=.int .i64 k∧Hid ((l.take k).all (fun z=>decide (z.word.size≤20) && decide (z.data.size≤20))=true)) (fun i=>l.length - (intOf i).toNat)
  case atStart=>exact ⟨0,by omega,rfl,rfl⟩
  case round =>
   obtain ⟨k,hk,rfl,hall⟩:=hrel
   by_cases hlt:k<l.length
   ·have hlt2:(k:Int)<(l.length:Int):=by omega
    obtain ⟨g,off,rfl,_,hgl,hc⟩:=H.out.at_ (by omega)
    have hx:l[k]?=some l[k]:=List.getElem?_eq_getElem hlt
    obtain ⟨hok,c0,c1,c2,c3⟩:=hc k _ hx
    have hw:=hok.word
    have hd:=hok.data
    unfold maxLen at hw hd
    clear hc hok
    have Hx:=Lib.hid hx
    clear hx
    generalize l[k]=z at *
    by_cases h1:z.word.size≤20
    ·have h1':¬ (20:Int)<(z.word.size:Int):=by omega
     by_cases h2:z.data.size≤20
     ·have h2':¬ (20:Int)<(z.data.size:Int):=by omega
      go_wp2_with fail
      go_round
      case rel=>exact ⟨k+1,by omega,by go_num,by show _=true; rw [all_take_succ _ _ _ _ Hx.out,hall.out]; simp [h1,h2]⟩
      case measure=>simp [intOf]; omega
     ·have h2':(20:Int)<(z.data.size:Int):=by omega
      have e:Hid (lightStp l most=false):=show _=_ by unfold lightStp; rw [all_not _ _ _ _ Hx.out (by simp [h2])]; simp
      go_wp2_with fail
      go_ret
      rw [e.out]
      exact ⟨rfl,rfl⟩
    ·have h1':(20:Int)<(z.word.size:Int):=by omega
     have e:Hid (lightStp l most=false):=show _=_ by unfold lightStp; rw [all_not _ _ _ _ Hx.out (by simp [h1])]; simp
     go_wp2_with fail
     go_ret
     rw [e.out]
     exact ⟨rfl,rfl⟩
   ·have hlt2:¬ (k:Int)<(l.length:Int):=by omega
    have e:Hid (lightStp l most=true):=show _=_ by unfold lightStp; rw [all_end _ _ _ (by omega) hall.out]; simp [Hl.out]
    go_wp2_with fail
    go_ret
    rw [e.out]
    exact ⟨rfl,rfl⟩
 ·have hl2:(most:Int)<(l.length:Int):=by omega
  have e:Hid (lightStp l most=false):=show _=_ by unfold lightStp; simp [hl]
  go_enter Tryz.func5,Tryz.ntmps5
  go_wp2_with fail
  go_ret
  rw [e.out]
  exact ⟨rfl,rfl⟩
theorem lightStp_len {l:List Stp} {m:Nat} (h:lightStp l m=true):l.length≤m:=by
 unfold lightStp at h
 rw [Bool.and_eq_true,decide_eq_true_eq] at h
 exact h.1
theorem StpsAt.cells {S:Nat→Prop} {w:World} {A:Option Addr} {n cap k:Nat} {l:List Stp} (h:StpsAt S w (.slice A n cap) l) (hk:k<l.length):∃ (g off:Nat) (z:Stp),A=some ⟨g,off,none⟩∧g<w.heap.size∧l[k]?=some z ∧
  w.cell? ⟨g,off+k * 4,none⟩=some (.string z.word)∧w.cell? ⟨g,off+k * 4+1,none⟩=some (.int .i64 z.a)∧w.cell? ⟨g,off+k * 4+2,none⟩=some (.int .i64 z.b)∧w.cell? ⟨g,off+k * 4+3,none⟩=some (.string z.data):=by
 obtain ⟨g,off,e,_,hgl,hc⟩:=h.at_ (by omega)
 have hx:l[k]?=some l[k]:=List.getElem?_eq_getElem hk
 obtain ⟨_,c0,c1,c2,c3⟩:=hc k _ hx
 exact ⟨g,off,_,e,hgl,hx,c0,c1,c2,c3⟩
def pst0:St:=St.new Dv.new
def RetPlNew (T:Tys) (tp:TypeId) (W0 w:World):Ending→World→Prop:=fun e w' =>
 ∃ (p b bd:Nat) (col:Nat→Nat) (y:Sv),e=.returned (.pointer (some ⟨p,0,none⟩))∧PlAt T tp W0 w' col p b bd 0 0 y pst0∧(∀ k,k<w.heap.size→col k=9)∧(∀ k,Pf col p k→w.heap.size≤k)∧Below w.heap.size w w'
theorem plnew_any (W0 w:World) (hW:Below W0.heap.size W0 w):Calls Tryz.prog 6 #[] w (RetPlNew Ts tPl W0 w):=by
 have HW:=Lib.hid hW
 clear hW
 go_enter Tryz.func6,Tryz.ntmps6
 go_wp2_with fail
 refine (devnew_any w).mono ?_
 rintro e w1 ⟨rfl,hd1,hb1,hs1⟩
 go_wp2_with fail
 refine (stnew_any (fun _=>False) (fun k=>k=w.heap.size) w1 w.heap.size Dv.new (hd1 _) (fun k hk=>by omega) (fun k hk=>hk.elim) (fun k hk=>hk.elim)).mono ?_
 rintro e w2 ⟨b,col,y,rfl,hst,hb2,hfl,_⟩
 have HF:Hid (∀ k,Fl col k→w.heap.size≤k):=fun k hk=>(hfl k hk).elim (fun e=>by omega) (fun e=>Nat.le_trans hb1.size e)
 have HB:=Lib.hid (hb1.trans (hb2.mono hb1.size))
 have HS:=Lib.hid hst
 obtain ⟨bd,hbd⟩:∃ n,w.heap.size=n:=⟨_,rfl⟩
 rw [hbd] at HS
 clear hd1 hb1 hs1 hst hb2 hfl
 go_wp2_with fail
 go_ret
 have hb3:=(Below.refl w2.heap.size w2).alloc (Nat.le_refl _) (.cells #[.pointer (some ⟨bd,0,none⟩),.pointer (some ⟨b,0,none⟩)] tPl)
 obtain ⟨col',h1,h2,h3⟩:=PlAt.made (F:=fun _=>False) (w1:=w) (d:=Dv.new) HW.out HS.out rfl DvOk.new rfl HB.out HF.out hb3 (Nat.le_refl _) (heap_alloc_new _ _) (Bd.newB rfl)
 exact ⟨_,b,bd,col',y,rfl,h1,h2,h3,HB.out.trans (hb3.mono HB.out.size)⟩
def dirtyZ:Stp:=⟨⟨#[100,105,114,116,121]⟩,0,0,⟨#[]⟩⟩
end Go.Proofs.YtaeadmlgffaegaaGreatDoor
namespace Go.Proofs.YtaeadmlgffaegaaGreatDoor
open Go.RowKit Go.Sort
def txs (l:List Rq) (k:Nat):List ByteArray:=(l.take k).map textP
theorem txs_succ {l:List Rq} {k:Nat} {x:Rq} (h:l[k]?=some x):txs l (k+1)=txs l k ++ [textP x]:=by
 unfold txs; rw [List.take_add_one,h]; simp
theorem txs_len {l:List Rq} {k:Nat} (h:k≤l.length):(txs l k).length=k:=by unfold txs; simp; omega
theorem txs_size {S:Nat→Prop} {w:World} {l:List Rq} {v:Value} (h:ReqsAt S w v l) (hok:∀ r ∈ l,ReqOk r):∀ x ∈ txs l l.length,x.size≤300:=fun x hx=>by
 unfold txs at hx
 obtain ⟨y,hy,rfl⟩:=List.mem_map.1 hx
 have hy:=List.mem_of_mem_take hy
 obtain ⟨cs,rfl,_,hc⟩:=h
 obtain ⟨c,hcm,rfl⟩:=List.mem_map.1 hy
 have h1:=hc c hcm
 have h2:=(hok _ hy).tags
 exact textP_size (fun x hx=>h1.tags.2 x hx) h1.lo h1.many (Nat.le_trans h2.2 (by decide))
theorem texts_any (S:Nat→Prop) (l:List Rq) (v:Value) (w:World) (h:ReqsAt S w v l) (hl:l.length≤6) (hok:∀ r ∈ l,ReqOk r) (hE:Env w) :
  Calls Tryz.prog 30 #[v] w (Ret (.string (textsM l)) w):=by
 obtain ⟨i0,hi0,hz0,hz1,hz2⟩:=info_parts ptrInfo
 obtain ⟨A,cap,rfl,_,hcap⟩:=h.form
 have Hsz:=Lib.hid (txs_size h hok)
 have H:=Lib.hid h
 have HE:=Lib.hid hE
 have Hok:=Lib.hid hok
 clear h hE hok
 go_enter Tryz.func30,Tryz.ntmps30
 go_wp2_with fail
 go_loopw [3,8] (fun v i wr=>∃ (k:Nat),k≤l.length∧i=.int .i64 k∧Below w.heap.size w wr∧Hid (wr.ownsRow w.heap.size 9 1 v k ((txs l k).map .string))) (fun _ i _=>l.length - (intOf i).toNat)
 case atStart=>exact ⟨0,by omega,rfl,Below.refl _ _,World.ownsRow_nil _ _ _ _⟩
 case round =>
  obtain ⟨k,hk,rfl,hb,HO⟩:=hrel
  by_cases hlt:k<l.length
  ·obtain ⟨b,off,rfl,_,_,hc⟩:=(H.out.below hb).at_ (by omega)
   have hx:l[k]?=some l[k]:=List.getElem?_eq_getElem hlt
   obtain ⟨Ad,cd,At,ct,hreq,c0,c1,c2,c3,c4,c5⟩:=hc k _ hx
   have Hx:=Lib.hid hx
   have Hreq:=Lib.hid hreq
   have Hr:=Lib.hid (Hok.out _ (List.mem_of_getElem? hx))
   clear hx hc hreq
   generalize l[k]=r at *
   have hk1:(k:Int)<(l.length:Int):=by omega
   have Hdec:=Lib.hid (txs_succ Hx.out)
   have Hd:=Lib.hid (fun v w h hE=>textp_any S r v w h (Nat.le_trans Hr.out.tags.2 (by decide)) hE)
   generalize textP r=dx at *
   go_wp2_with fail
   have L:=(Lay.refl wr).alloc' wr.heap.size #[Value.bool r.write,Value.int IntKind.i64 r.lo,Value.int IntKind.i64 r.many,Value.slice Ad r.data.length cd,Value.slice At r.tags.length ct,Value.int IntKind.i64 r.born] 123 rfl
   generalize World.alloc _ _=W at L ⊢
   have hw0:=hb.trans (L.below.mono hb.size)
   refine (Hd.out _ W (Hreq.out.below L.below) (HE.out.below hw0)).mono ?_
   rintro e w1 ⟨rfl,hb1⟩
   have hbr:=(Below.refl w1.heap.size w1).alloc (Nat.le_refl _) (Obj.cells #[Value.string dx] 9)
   have hw1:=hw0.trans (hb1.mono hw0.size)
   have hwb:=hw1.trans (hbr.mono hw1.size)
   have hb2:=hb1.trans (hbr.mono hb1.size)
   have hba:=(L.below.trans (hb2.mono L.below.size):Below wr.heap.size wr _)
   have HO1:=Lib.hid (own_keepL HO.out (fun g _ hg=>hba.block g hg))
   have Hrow:=Lib.hid (rd_row1 w1 (.string dx) 9)
   have Hwb:=Lib.hid hwb
   clear hbr hba hwb hb2 c0 c1 c2 c3 c4 c5 L
   go_wp2_with (at_builtin; refine wpList_append_rd (S:=fun _=>True) _ rfl (.tmp 12) (.tmp 15) _ rfl w.heap.size 9 i0 _ 1 16 Tryz.underlying121 hi0 hz0 hz1 hz2 rfl (by omega) _ k ((txs l k).map .string) rfl HO1.out _ 1 _ rfl Hrow.out (fun u hu=>by simp at hu; subst hu; rfl) (by simp only [maxLen]; omega) (by omega) Hwb.out.size ?_; intro v5 w5 hown5 hg5 hat5)
   have HB5:=Lib.hid (Hwb.out.grown hg5 Hwb.out.size (fun k hk=>(HO1.out.lt k hk).1))
   have HO5:=Lib.hid hown5
   clear hown5 hg5 hat5
   go_roundw
   case rel=>exact ⟨k+1,by omega,by go_num,HB5.out,by show World.ownsRow _ _ _ _ _ _ _; rw [Hdec.out,List.map_append]; exact HO5.out⟩
   case measure=>simp [intOf]; omega
  ·obtain rfl:k=l.length:=by omega
   have hj:(joinP (txs l l.length) 32).size≤2000:=by
    have:=joinP_size (txs l l.length) 32 300 Hsz.out
    rw [txs_len (Nat.le_refl _)] at this
    have h4:l.length * (300+1)≤6 * 301:=Nat.mul_le_mul hl (Nat.le_refl _)
    omega
   obtain ⟨A6,c6,rfl⟩:=own_slice HO.out
   have hk1:¬ (l.length:Int)<(l.length:Int):=by omega
   by_cases h0:l=[]
   ·have HT:Hid (textsM l=⟨#[45]⟩):=show _=_ by unfold textsM; rw [if_pos h0]; rfl
    have hz:((l.length:Int) == 0)=true:=by rw [h0]; rfl
    clear h0 hj
    go_wp2_with fail
    go_ret
    rw [HT.out]
    exact ⟨rfl,hb⟩
   ·have HT:Hid (textsM l=joinP (txs l l.length) 32):=show _=_ by unfold textsM txs; rw [if_neg h0,List.take_length]
    have hz:((l.length:Int) == 0)=false:=by
     have:=List.length_pos_iff.2 h0
     simp only [beq_eq_false_iff_ne]; omega
    have Hil:=Lib.hid (txs_len (l:=l) (Nat.le_refl _))
    have Hjo:=Lib.hid (fun hN=>joinp_own (32:UInt8) HO.out Hil.out hN (by omega))
    have Hj:=Lib.hid hj
    clear h0 hj
    go_wp2_with fail
    refine (Hjo.out (Nat.le_trans Hj.out (by decide))).mono ?_
    rintro e w7 ⟨rfl,hb7⟩
    go_wp2_with fail
    go_ret
    rw [HT.out]
    exact ⟨rfl,hb.trans (hb7.mono hb.size)⟩
theorem got_err {s:St} (h:Inv s) (c:Nat):(s.got c).2≤9:=by
 unfold St.got
 split
 ·exact Nat.zero_le _
 ·show s.errs.getD c 0≤9
  rw [List.getD_eq_getElem?_getD]
  cases he:s.errs[c]? with
  |none=>exact Nat.zero_le _
  |some e=>exact h.errs.2 e (List.mem_of_getElem? he)
theorem got_size {s:St} (h:Inv s) (c:Nat):(s.got c).1.size≤16:=by
 unfold St.got
 split
 ·show (s.done.getD c noB).size≤16
  rw [List.getD_eq_getElem?_getD]
  cases he:s.done[c]? with
  |none=>exact noB16
  |some e=>exact h.done.2 e (List.mem_of_getElem? he)
 ·exact noB16
theorem pgot_any (W0:World) (col:Nat→Nat) (w:World) (p b bd N:Nat) (x:Sv) (s:St) (K:Int) (a:Int) (h:PlAt Ts tPl W0 w col p b bd N K x s) (hE:Env W0) (ha:0≤a) :
  Calls Tryz.prog 21 #[.pointer (some ⟨p,0,none⟩),.int .i64 a] w (Ret (.string (gotM s a)) w):=by
 have H:=Lib.hid h
 have HE:=Lib.hid (h.env hE)
 obtain ⟨c0,c1⟩:=h.cell
 clear h hE
 go_enter Tryz.func21,Tryz.ntmps21
 by_cases h3:3≤a
 ·have HT:Hid (gotM s a=doneB 5):=show _=_ by unfold gotM; rw [if_pos h3]
  have e5:Value.iface 99 (.int .i64 5)=errV 5:=rfl
  go_wp2_with fail
  refine (done_any 5 w (by decide) HE.out).mono ?_
  rintro e w1 ⟨rfl,hb1⟩
  go_wp2_with fail
  go_ret
  rw [HT.out]
  exact ⟨rfl,hb1⟩
 ·obtain ⟨c,rfl⟩:=Int.eq_ofNat_of_zero_le ha
  have hc:c<3:=by omega
  have hn:gotM s (c:Int)=if (s.askAt c).isSome then p_waitsB else if (s.got c).2≠0 then doneB (s.got c).2 else p_dataB ++ (s.got c).1:=by
   unfold gotM; rw [if_neg h3,Int.toNat_natCast]
  have HN:=Lib.hid hn
  clear hn
  go_wp2_with fail
  refine (waits_any col w b bd N x s c H.out.st hc).mono ?_
  rintro e w1 ⟨rfl,rfl⟩
  cases ho:(s.askAt c).isSome with
  |true =>
   have HT:Hid (gotM s (c:Int)=⟨#[119,97,105,116,115]⟩):=show _=_ by rw [HN.out,ho]; rfl
   clear ho
   go_wp2_with fail
   go_ret
   rw [HT.out]
   exact ⟨rfl,Below.refl _ _⟩
  |false =>
   have Ho:=Lib.hid ho
   clear ho
   go_wp2_with fail
   refine (got_any col w b bd N x s c H.out.st hc).mono ?_
   rintro e w1 ⟨rfl,hb1⟩
   have g9:=got_err H.out.inv c
   have g16:=got_size H.out.inv c
   by_cases he:(s.got c).2=0
   ·have HT:Hid (gotM s (c:Int)=(⟨#[100,97,116,97,32]⟩:ByteArray) ++ (s.got c).1):=show _=_ by rw [HN.out,Ho.out,he]; rfl
    rw [he,errV_zero]
    clear he g9
    generalize (s.got c).1=d at *
    have z1:¬ (9223372036854775807<5+d.size):=by omega
    go_wp2_with fail
    go_ret
    rw [HT.out]
    exact ⟨rfl,hb1⟩
   ·have HT:Hid (gotM s (c:Int)=doneB (s.got c).2):=show _=_ by rw [HN.out,Ho.out,if_neg (by decide),if_pos he]
    rw [errV_pos he]
    generalize (s.got c).2=n at *
    have HV:Hid (Value.iface 99 (.int .i64 (n:Int))=errV n):=show _=_ from (errV_pos he).symm
    generalize (s.got c).1=d at *
    clear he
    go_wp2_with fail
    rw [HV.out]
    refine (done_any n w1 (by omega) (HE.out.below hb1)).mono ?_
    rintro e w2 ⟨rfl,hb2⟩
    go_wp2_with fail
    go_ret
    rw [HT.out]
    exact ⟨rfl,hb1.trans (hb2.mono hb1.size)⟩
end Go.Proofs.YtaeadmlgffaegaaGreatDoor
namespace Go.Proofs.YtaeadmlgffaegaaGreatDoor
open Go.RowKit Go.Sort
theorem wait_ok {s:St} (h:Inv s):∀ r ∈ s.wait,ReqOk r:=fun r hr=>by
 obtain ⟨i,hi⟩:=List.getElem?_of_mem (List.mem_append_left s.v.d.l hr)
 exact good_mem h.good hi
theorem busy_ok {s:St} (h:Inv s):∀ r ∈ s.v.d.l,ReqOk r:=fun r hr=>by
 obtain ⟨i,hi⟩:=List.getElem?_of_mem (List.mem_append_right s.wait hr)
 exact good_mem h.good hi
theorem ask_err (s:St) (a k p:Int) (d:ByteArray):(s.ask a k p d).2≤1000:=by
 unfold St.ask
 split
 ·exact Nat.le_of_ble_eq_true rfl
 ·split
  ·exact Nat.le_of_ble_eq_true rfl
  ·split <;> exact Nat.le_of_ble_eq_true rfl
theorem endAt_err (v:Drv) (i:Int) (f:Bool):(v.endAt i f).2.2.2≤1000:=by
 unfold Drv.endAt
 simp only
 split
 ·show (v.d.endAt i f).2.2≤1000
  unfold Dv.endAt
  split
  ·exact Nat.le_of_ble_eq_true rfl
  ·split <;> exact Nat.le_of_ble_eq_true rfl
 ·split
  ·exact Nat.zero_le _
  ·split
   ·show (Dv.start _ _).2≤1000
    unfold Dv.start
    split <;> exact Nat.le_of_ble_eq_true rfl
   ·exact Nat.zero_le _
theorem end_err (s:St) (i:Int) (f:Bool):(s.end_ i f).2≤1000:=by
 unfold St.end_
 simp only
 split
 ·exact endAt_err _ _ _
 ·split <;> exact Nat.le_of_ble_eq_true rfl
theorem yesB_size (b:Bool):(yesB b).size≤3:=by cases b <;> decide
def Ks (p b bd bb:Nat) (z:Stp) (u:World):Prop :=
 u.cell? ⟨p,0,none⟩=some (.pointer (some ⟨bd,0,none⟩))∧u.cell? ⟨p,1,none⟩=some (.pointer (some ⟨b,0,none⟩))∧u.cell? ⟨bb,0,none⟩=some (.string z.word)∧u.cell? ⟨bb,1,none⟩=some (.int .i64 z.a)∧u.cell? ⟨bb,2,none⟩=some (.int .i64 z.b)∧u.cell? ⟨bb,3,none⟩=some (.string z.data)
section
variable {W0 w w1 u1 u2 u3:World} {col col1:Nat→Nat} {p b bd bb N N1:Nat} {K K1:Int} {x y1:Sv} {s t:St} {z:Stp} {T:Tys} {tp:TypeId}
theorem Ks.keep {F:Nat→Prop} (h:Ks p b bd bb z w) (hc:Chg F w w1) (hp:¬ F p) (hb:¬ F bb) (hpl:p<w.heap.size) (hbl:bb<w.heap.size):Ks p b bd bb z w1:=by
 obtain ⟨h0,h1,h2,h3,h4,h5⟩:=h
 have e1:=hc.block p hpl hp
 have e2:=hc.block bb hbl hb
 exact ⟨(World.cell?_of_block e1).trans h0,(World.cell?_of_block e1).trans h1,(World.cell?_of_block e2).trans h2,(World.cell?_of_block e2).trans h3,(World.cell?_of_block e2).trans h4,(World.cell?_of_block e2).trans h5⟩
theorem Ks.below (h:Ks p b bd bb z w) (hb:Below w.heap.size w w1) (hpl:p<w.heap.size) (hbl:bb<w.heap.size):Ks p b bd bb z w1:=h.keep (F:=fun _=>False) (Chg.of_below hb) id id hpl hbl
theorem play_done (h1:PlAt T tp W0 u1 col1 p b bd N1 K1 y1 t) (hB:Below w.heap.size w w1) (hp:Pr col col1 p w1 u1) (hb:Below u1.heap.size u1 u2) (h9:col p=9) (hN:N1≤N+2000) (hK:K1≤K+15000) :
  ∃ (col':Nat→Nat) (b':Nat) (y:Sv),PlAt T tp W0 u2 col' p b' bd (N+2000) (K+15000) y t∧Pr col col' p w u2 :=
 ⟨col1,b,y1,(h1.mono hN hK).step hb,(hp.before hB).after (Pr.rest hb) h9⟩
end
def RetPlay (T:Tys) (tp:TypeId) (W0:World) (col:Nat→Nat) (w:World) (p bd N:Nat) (K:Int) (s:St) (z:Stp):Ending→World→Prop:=fun e w' =>
 e=.returned (.string (playM s z).2)∧∃ (col':Nat→Nat) (b':Nat) (y:Sv),PlAt T tp W0 w' col' p b' bd (N+2000) (K+15000) y (playM s z).1∧Pr col col' p w w'
theorem PlAt.call_cells {T:Tys} {tp:TypeId} {W0 w u:World} {col col2:Nat→Nat} {p b bd bb N N2:Nat} {K K2:Int} {x y:Sv} {s t:St} {z:Stp} (h:PlAt T tp W0 w col p b bd N K x s) (h2:PlAt T tp W0 u col2 p b bd N2 K2 y t) (hp:Pr col col2 p w u) (k:Ks p b bd bb z w) (hcb:¬ Fl col bb) (hbn:bb≠p) (hbl:bb<w.heap.size) :
  Ks p b bd bb z u∧p<u.heap.size∧bb<u.heap.size:=by
 obtain ⟨_,_,k2,k3,k4,k5⟩:=k
 obtain ⟨c0,c1⟩:=h2.cell
 have e:=hp.chg.block bb hbl (fun e=>e.elim hcb hbn)
 exact ⟨⟨c0,c1,(World.cell?_of_block e).trans k2,(World.cell?_of_block e).trans k3,(World.cell?_of_block e).trans k4,(World.cell?_of_block e).trans k5⟩,(Array.getElem?_eq_some_iff.1 h2.row).1,Nat.lt_of_lt_of_le hbl hp.chg.size⟩
theorem settle_le' (s:St) {m:Nat} (hm:m≤999):(St.settle m s).2≤999:=by
 have:∀ (n:Nat) (s:St),(St.settle n s).2≤n:=by
  intro n
  induction n with
  |zero=>intro s; exact Nat.le_refl _
  |succ n ih =>
   intro s
   unfold St.settle
   split
   ·exact Nat.zero_le _
   ·have:=ih s.round
    show (St.settle n s.round).2+1≤n+1
    omega
 exact Nat.le_trans (this m s) hm
structure Pre (T:Tys) (tp ts:TypeId) (W0:World) (col:Nat→Nat) (w w1:World) (p b bd bb N:Nat) (x:Sv) (s:St) (z:Stp) (K:Int):Prop where
 hbb:w.heap.size=bb
 HW:Hid (w.alloc (.cells #[.string z.word,.int .i64 z.a,.int .i64 z.b,.string z.data] ts)=w1)
 pc0:∀ o,(w.alloc o).cell? ⟨p,0,none⟩=some (.pointer (some ⟨bd,0,none⟩))
 pc1:∀ o,(w.alloc o).cell? ⟨p,1,none⟩=some (.pointer (some ⟨b,0,none⟩))
 H1:Hid (PlAt T tp W0 w1 col p b bd N K x s)
 KS:Hid (Ks p b bd bb z w1)
 HX:Hid (Below w.heap.size w w1)
 Hpl:Hid (p<w1.heap.size)
 Hbl:Hid (bb<w1.heap.size)
 Hbn:Hid (bb≠p)
 Hcb:Hid (¬ Fl col bb)
 HEE:Hid (Env W0)
 Ha:Hid (0≤z.a∧z.a≤999)
 H0:Hid (PlAt T tp W0 w col p b bd N K x s)
 q0:0≤K
 hK:K≤500000000
 hN:N≤800000000
 HD:Hid (PlAt T tp W0 w1.drew col p b bd N K x s)
 KD:Hid (Ks p b bd bb z w1.drew)
 HXD:Hid (Below w.heap.size w w1.drew)
 k:Ks p b bd bb z w1
theorem PlAt.pre {T:Tys} {tp:TypeId} {W0 w:World} {col:Nat→Nat} {p b bd N:Nat} {K:Int} {x:Sv} {s:St} (h:PlAt T tp W0 w col p b bd N K x s) (ts:TypeId) (z:Stp) (hE:Env W0) (hK:K≤500000000) (hN:N≤800000000) (ha:0≤z.a∧z.a≤999):∃ w1 bb,Pre T tp ts W0 col w w1 p b bd bb N x s z K:=by
 have hX:=StpBox.new ts z w
 have hpl:=(Array.getElem?_eq_some_iff.1 h.row).1
 obtain ⟨d0,d1,d2,d3⟩:=hX.c
 have h1:=h.step hX.bel
 obtain ⟨c0,c1⟩:=h1.cell
 have k:∀ o,(w.alloc o).heap[p]?=_:=fun o=>(Below.heap_alloc _ _ _ hpl).trans h.row
 exact ⟨_,_,rfl,rfl,fun o=>cell_of_row _ _ 0 _ _ _ (k o),fun o=>cell_of_row _ _ 1 _ _ _ (k o),h1,⟨c0,c1,d0,d1,d2,d3⟩,hX.bel,Nat.lt_of_lt_of_le hpl hX.bel.size,hX.hi,show _≠_ by omega,fun hf=>hf.1 (h.st.s0 _ (Nat.le_refl _)),hE,ha,h,h.k0,hK,hN,h1.step (Below.refl _ _).drew,⟨c0,c1,d0,d1,d2,d3⟩,hX.bel.trans (((Below.refl _ _).drew).mono hX.bel.size),c0,c1,d0,d1,d2,d3⟩
end Go.Proofs.YtaeadmlgffaegaaGreatDoor
