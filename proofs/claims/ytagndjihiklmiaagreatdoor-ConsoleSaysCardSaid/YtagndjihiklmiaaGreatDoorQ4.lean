/- elevator.expired, elevator.turned. -/
import Derived.Test.YtagndjihiklmiaaGreatDoorQ3
import Derived.Orders
set_option linter.unusedSimpArgs false
set_option linter.unusedVariables false
set_option maxRecDepth 100000
set_option maxHeartbeats 8000000
namespace Go.Proofs.YtagndjihiklmiaaGreatDoor
open Go.RowKit Go.Sort
abbrev tnV (t:Tn):Value:=.agg #[.bool t.write,.int .i64 t.gone,.int .i64 t.starved,.int .i64 t.wh]
abbrev tnCells (t:Tn):Array Value:=#[.bool t.write,.int .i64 t.gone,.int .i64 t.starved,.int .i64 t.wh]
theorem expired_any (S:Nat→Prop) (r:Rq) (v:Value) (now:Int) (w:World) (h:ReqAt S w v r) (hn:0≤now) (hn2:now≤1000000000) (hb:bornOk r) :
  Calls Tryz.prog 128 #[v,.int .i64 now] w (Ret (.bool (expB r now)) w):=by
 obtain ⟨Ad,cd,At,ct,rfl,_,_,_,_,_,_,_⟩:=h.opened;obtain ⟨b1,b2⟩:=hb;have e:expB r now=decide ((if r.write then 8 else 4)≤now - r.born):=rfl
 cases hw:r.write with
 |true =>
  rw [hw] at e;have e2:expB r now=decide (8≤now - r.born):=e;rw [e2];clear e e2;go_enter Tryz.func128,Tryz.ntmps128;go_wp2;go_ret;exact ⟨rfl,(Below.refl _ _).alloc (Nat.le_refl _) _⟩
 |false =>
  rw [hw] at e;have e2:expB r now=decide (4≤now - r.born):=e;rw [e2];clear e e2;go_enter Tryz.func128,Tryz.ntmps128;go_wp2;go_ret;exact ⟨rfl,(Below.refl _ _).alloc (Nat.le_refl _) _⟩
structure Box2 (B:Nat) (w wr:World) (cs ds:Array Value):Prop where
 below:Below B w wr
 lt:B+1<wr.heap.size
 b1:wr.heap[B]?=some (.cells cs 68 (0,0))
 b2:wr.heap[B+1]?=some (.cells ds 68 (0,0))
theorem Box2.c {B:Nat} {w wr:World} {cs ds:Array Value} (h:Box2 B w wr cs ds) (i:Nat):wr.cell? ⟨B,i,none⟩=cs[i]?:=cell_of_row _ _ i _ _ _ h.b1
theorem Box2.d {B:Nat} {w wr:World} {cs ds:Array Value} (h:Box2 B w wr cs ds) (i:Nat):wr.cell? ⟨B+1,i,none⟩=ds[i]?:=cell_of_row _ _ i _ _ _ h.b2
theorem Box2.fc {B:Nat} {w wr:World} {cs ds:Array Value} (h:Box2 B w wr cs ds) (i:Nat):wr.frozen? ⟨B,i,none⟩=false:=frozen_of_row _ _ i _ _ h.b1
theorem Box2.fd {B:Nat} {w wr:World} {cs ds:Array Value} (h:Box2 B w wr cs ds) (i:Nat):wr.frozen? ⟨B+1,i,none⟩=false:=frozen_of_row _ _ i _ _ h.b2
theorem Box2.tn {B:Nat} {w wr:World} {v0 v1 v2 v3 u0 u1 u2 u3:Value} (h:Box2 B w wr #[v0,v1,v2,v3] #[u0,u1,u2,u3]) :
  wr.cell? ⟨B,0,none⟩=some v0∧wr.cell? ⟨B,1,none⟩=some v1∧wr.cell? ⟨B,2,none⟩=some v2∧wr.cell? ⟨B,3,none⟩=some v3∧wr.cell? ⟨B+1,0,none⟩=some u0∧wr.cell? ⟨B+1,1,none⟩=some u1∧wr.cell? ⟨B+1,2,none⟩=some u2∧wr.cell? ⟨B+1,3,none⟩=some u3 ∧
  wr.frozen? ⟨B,0,none⟩=false∧wr.frozen? ⟨B,1,none⟩=false∧wr.frozen? ⟨B,2,none⟩=false∧wr.frozen? ⟨B,3,none⟩=false∧wr.frozen? ⟨B+1,0,none⟩=false∧wr.frozen? ⟨B+1,1,none⟩=false∧wr.frozen? ⟨B+1,2,none⟩=false∧wr.frozen? ⟨B+1,3,none⟩=false :=
 ⟨h.c 0,h.c 1,h.c 2,h.c 3,h.d 0,h.d 1,h.d 2,h.d 3,h.fc 0,h.fc 1,h.fc 2,h.fc 3,h.fd 0,h.fd 1,h.fd 2,h.fd 3⟩
theorem Box2.step {B:Nat} {w wr w':World} {cs ds:Array Value} (h:Box2 B w wr cs ds) (hb:Below wr.heap.size wr w'):Box2 B w w' cs ds :=
 ⟨h.below.trans (hb.mono (by have:=h.lt; omega)),by have:=hb.size; have:=h.lt; omega,(hb.block _ (by have:=h.lt; omega)).trans h.b1,(hb.block _ h.lt).trans h.b2⟩
theorem Box2.set {B:Nat} {w wr:World} {cs ds:Array Value} (h:Box2 B w wr cs ds) (i:Nat) (v:Value):Box2 B w (wr.setCell ⟨B,i,none⟩ v) (cs.setIfInBounds i v) ds :=
 ⟨h.below.setCell (Nat.le_refl _) _,by simpa using h.lt,by rw [heap_setCell_same _ _ _ _ _ _ h.b1],by rw [heap_setCell_other _ _ _ _ (by simp)]; exact h.b2⟩
theorem turned_any (S:Nat→Prop) (l:List Rq) (v:Value) (t:Tn) (w:World) (h:ReqsAt S w v l) (hs:i64 t.starved) (hne:0≤oldest l false∨0≤oldest l true) :
  Calls Tryz.prog 126 #[v,tnV t] w (Ret (tnV (turnedM l t)) w):=by
 have H:=Lib.hid h;obtain ⟨A,cap,rfl,h1,h2⟩:=h.form;clear h;obtain ⟨s1,s2⟩:=hs
 have e:turnedM l t=if 0≤oldest l false∧¬ 0≤oldest l true then { t with gone:=0,write:=false }
  else if 0≤oldest l true∧(¬ 0≤oldest l false∨2≤t.starved) then { t with gone:=0,write:=true,starved:=0 }
  else { t with gone:=0,write:=false,starved:=t.starved+1 }:=rfl
 generalize turnedM l t=t' at e ⊢;by_cases q1:0≤oldest l false;by_cases q2:0≤oldest l true;by_cases q3:2≤t.starved;rw [if_neg (by simp [q2]),if_pos ⟨q2,.inr q3⟩] at e;subst e;rotate_left;rw [if_neg (by simp [q2]),if_neg (by simp [q1,q3])] at e;subst e;rotate_left;have q2':decide (0≤oldest l true)=false:=decide_eq_false q2;rw [if_pos ⟨q1,q2⟩] at e;subst e;rotate_left;have q1':decide (0≤oldest l false)=false:=decide_eq_false q1;have q2:=hne.resolve_left q1;rw [if_neg (by simp [q1]),if_pos ⟨q2,.inl q1⟩] at e;subst e;rotate_left
 all_goals
  go_enter Tryz.func126,Tryz.ntmps126;go_wp2_with fail
  have hT:Box2 w.heap.size w ((w.alloc (Obj.cells #[Value.bool t.write,Value.int IntKind.i64 t.gone,Value.int IntKind.i64 t.starved,Value.int IntKind.i64 t.wh] 68)).alloc
    (Obj.cells #[Value.bool false,Value.int IntKind.i64 0,Value.int IntKind.i64 0,Value.int IntKind.i64 0] 68)) (tnCells t) #[.bool false,.int .i64 0,.int .i64 0,.int .i64 0] :=
   ⟨((Below.refl _ _).alloc (Nat.le_refl _) _).alloc (by simp) _,by simp,heap_alloc2_old _ _ _,heap_alloc2_new _ _ _⟩
  generalize ((w.alloc (Obj.cells #[Value.bool t.write,Value.int IntKind.i64 t.gone,Value.int IntKind.i64 t.starved,Value.int IntKind.i64 t.wh] 68)).alloc
    (Obj.cells #[Value.bool false,Value.int IntKind.i64 0,Value.int IntKind.i64 0,Value.int IntKind.i64 0] 68))=W at hT ⊢
  refine (oldest_any S l _ false _ (H.out.below (hT.below))).mono ?_;rintro e w1 ⟨rfl,hb1⟩;have hT1:=hT.step hb1;clear hT hb1;go_wp2_with fail;refine (oldest_any S l _ true _ (H.out.below (hT1.below))).mono ?_;rintro e w2 ⟨rfl,hb2⟩;have hT2:=hT1.step hb2;clear hT1 hb2;obtain ⟨c0,c1,c2,c3,d0,d1,d2,d3,f0,f1,f2,f3,e0,e1,e2,e3⟩:=hT2.tn;go_wp2_with fail;refine bodyPost_ret (v:=tnV _) (by simp [results,Tryz.results126,go_sem,d0,d1,d2,d3,e0,e1,e2,e3,c0,c1,c2,c3,f0,f1,f2]) rfl ⟨rfl,?_⟩;repeat ((with_reducible refine Below.setCell ?_ ?hp _); case hp=>simp)
  exact hT2.below
end Go.Proofs.YtagndjihiklmiaaGreatDoor
namespace Go.Proofs.YtagndjihiklmiaaGreatDoor
open Go.RowKit Go.Sort
def nextV (l:List Rq) (t:Tn) (now:Int):Value:=.tuple #[.int .i64 (nextM l t now).1,tnV (nextM l t now).2]
abbrev zeroTn:Array Value:=#[.bool false,.int .i64 0,.int .i64 0,.int .i64 0]
theorem Box2.start (w:World) (t:Tn):Box2 w.heap.size w ((w.alloc (Obj.cells #[Value.bool t.write,Value.int IntKind.i64 t.gone,Value.int IntKind.i64 t.starved,Value.int IntKind.i64 t.wh] 68)).alloc
  (Obj.cells #[Value.bool false,Value.int IntKind.i64 0,Value.int IntKind.i64 0,Value.int IntKind.i64 0] 68)) (tnCells t) zeroTn :=
 ⟨((Below.refl _ _).alloc (Nat.le_refl _) _).alloc (by simp) _,by simp,heap_alloc2_old _ _ _,heap_alloc2_new _ _ _⟩
theorem next_on (S:Nat→Prop) (l:List Rq) (v:Value) (t:Tn) (now:Int) (w:World) (h:ReqsAt S w v l) (hg:goodReqs l=true)
  (q1:0<t.gone) (q2:t.gone<3) (q3:0≤fromI l t.write t.wh) :
  Calls Tryz.prog 86 #[v,tnV t,.int .i64 now] w (Ret (nextV l t now) w):=by
 have H:=Lib.hid h;obtain ⟨A,cap,rfl,h1,h2⟩:=h.form;unfold maxLen at h2;clear h;have ev:nextV l t now=.tuple #[.int .i64 (fromI l t.write t.wh),tnV { t with gone:=t.gone+1,wh:=endOf l (fromI l t.write t.wh) }]:=by unfold nextV; rw [nextM_on q1 q2 q3]
 obtain ⟨j,r,hj,hr,_,_,hjl⟩:=fromI_ok q3;have hok:=good_mem hg hr;obtain ⟨s1,s2,s3,s4,s5⟩:=hok.span;rw [hj,endOf_at hr] at ev;rw [ev];have Hj:=Lib.hid hj;have Hr:=Lib.hid hr;clear ev hj hr q3 hok;have hji:(j:Int)<(l.length:Int):=by omega
 have hs:IntKind.i64.wrap (r.lo+r.many)=r.lo+r.many:=IntWalk.i64_in _ (by omega);go_enter Tryz.func86,Tryz.ntmps86;go_wp2_with fail;have hT:=Box2.start w t
 generalize ((w.alloc (Obj.cells #[Value.bool t.write,Value.int IntKind.i64 t.gone,Value.int IntKind.i64 t.starved,Value.int IntKind.i64 t.wh] 68)).alloc
  (Obj.cells #[Value.bool false,Value.int IntKind.i64 0,Value.int IntKind.i64 0,Value.int IntKind.i64 0] 68))=W at hT ⊢
 refine (from_any S l _ t.write t.wh _ (H.out.below hT.below)).mono ?_;rintro e w1 ⟨rfl,hb1⟩;have hT1:=hT.step hb1;clear hT hb1;rw [Hj.out];obtain ⟨b,off,rfl,_,hbl,hc⟩:=(H.out.below hT1.below).at_ (by omega);obtain ⟨_,_,_,_,_,_,k1,k2,_,_,_⟩:=hc j r Hr.out;clear hc
 have hbB:b<w.heap.size:=by
  obtain ⟨b',off',e,_,hb',_⟩:=H.out.at_ (by omega)
  cases e; exact hb'
 have c0:=hT1.c 0;have c1:=hT1.c 1;have c2:=hT1.c 2;have c3:=hT1.c 3;have f1:=hT1.fc 1;have f3:=hT1.fc 3;have d0:=hT1.d 0;have d1:=hT1.d 1;have d2:=hT1.d 2;have d3:=hT1.d 3;have e0:=hT1.fd 0;have e1:=hT1.fd 1;have e2:=hT1.fd 2;have e3:=hT1.fd 3;simp [tnCells,zeroTn] at c0 c1 c2 c3 d0 d1 d2 d3;go_wp2_with fail;go_region
 go_wp2_with fail;go_region
 go_wp2;refine bodyPost_ret (v:=.tuple #[_,tnV _]) (by simp [results,Tryz.results86,go_sem,d0,d1,d2,d3,e0,e1,e2,e3,c0,c1,c2,c3,f1,f3]) rfl ⟨rfl,?_⟩;repeat (first | (with_reducible refine Below.drew ?_) | ((with_reducible refine Below.setCell ?_ ?hp _); case hp=>simp))
 exact hT1.below
theorem next_new (S:Nat→Prop) (l:List Rq) (v:Value) (t:Tn) (now:Int) (w:World) (h:ReqsAt S w v l) (hg:goodReqs l=true) (hne:l≠[]) (hst:i64 t.starved) (hn1:0≤now) (hn2:now≤1000000000) (hnew:¬ (0<t.gone∧t.gone<3∧0≤fromI l t.write t.wh))
  (hgg:t.gone≤0∨3≤t.gone∨(0<t.gone∧t.gone<3∧fromI l t.write t.wh<0)) :
  Calls Tryz.prog 86 #[v,tnV t,.int .i64 now] w (Ret (nextV l t now) w):=by
 have H:=Lib.hid h;obtain ⟨A,cap,rfl,h1,h2⟩:=h.form;unfold maxLen at h2;clear h;have ev:nextV l t now=.tuple #[.int .i64 (pickM l (turnedM l t) now),tnV { turnedM l t with gone:=1,wh:=endOf l (pickM l (turnedM l t) now) }]:=by unfold nextV; rw [nextM_new hnew]
 clear hnew
 rcases hgg with q | q | ⟨g1,g2,g3⟩
 all_goals
  go_enter Tryz.func86,Tryz.ntmps86;go_wp2_with fail;have hT:=Box2.start w t
  generalize ((w.alloc (Obj.cells #[Value.bool t.write,Value.int IntKind.i64 t.gone,Value.int IntKind.i64 t.starved,Value.int IntKind.i64 t.wh] 68)).alloc
   (Obj.cells #[Value.bool false,Value.int IntKind.i64 0,Value.int IntKind.i64 0,Value.int IntKind.i64 0] 68))=W at hT ⊢
 rotate_left 2;refine (from_any S l _ t.write t.wh _ (H.out.below hT.below)).mono ?_;rintro e w0 ⟨rfl,hb0⟩;have hT0:=hT.step hb0;clear hT hb0;have hT:=hT0;clear hT0;have c0:=hT.c 0;have c1:=hT.c 1;have c2:=hT.c 2;have c3:=hT.c 3;simp [tnCells,zeroTn] at c0 c1 c2 c3;go_wp2_with fail;clear c0 c1 c2 c3
 all_goals
  refine (turned_any S l _ t _ (H.out.below hT.below) hst (kinds hne)).mono ?_;rintro e w1 ⟨rfl,hb1⟩;have hT1:=hT.step hb1;clear hT hb1;have hold:=turned_kind (t:=t) hne;generalize turnedM l t=t' at hold ev ⊢;obtain ⟨c0,c1,c2,c3,d0,d1,d2,d3,f0,f1,f2,f3,e0,e1,e2,e3⟩:=hT1.tn;go_wp2_with fail;have hT2:=(((hT1.set 0 (.bool t'.write)).set 1 (.int .i64 t'.gone)).set 2 (.int .i64 t'.starved)).set 3 (.int .i64 t'.wh);clear c0 c1 c2 c3 d0 d1 d2 d3 f0 f1 f2 f3 e0 e1 e2 e3;generalize (((w1.setCell ⟨w.heap.size,0,none⟩ (.bool t'.write)).setCell ⟨w.heap.size,1,none⟩ (.int .i64 t'.gone)).setCell ⟨w.heap.size,2,none⟩ (.int .i64 t'.starved)).setCell ⟨w.heap.size,3,none⟩ (.int .i64 t'.wh)=w2 at hT2 ⊢;have hT2:Box2 w.heap.size w w2 (tnCells t') zeroTn:=hT2;obtain ⟨c0,c1,c2,c3,d0,d1,d2,d3,f0,f1,f2,f3,e0,e1,e2,e3⟩:=hT2.tn;go_wp2_with fail;refine (oldest_any S l _ t'.write _ (H.out.below hT2.below)).mono ?_;rintro e w3 ⟨rfl,hb3⟩;have hT3:=hT2.step hb3;clear hT2 hb3;clear c0 c1 c2 c3 d0 d1 d2 d3 f0 f1 f2 f3 e0 e1 e2 e3;obtain ⟨c0,c1,c2,c3,d0,d1,d2,d3,f0,f1,f2,f3,e0,e1,e2,e3⟩:=hT3.tn;obtain ⟨o,ro,ho,hro,how,hol⟩:=oldest_ok hold
  have hpick:pickM l t' now=if expB ro now then oldest l t'.write else if fromI l t'.write t'.wh<0 then fromI l t'.write 0 else fromI l t'.write t'.wh:=by
   unfold pickM;rw [ho,Int.toNat_natCast,List.getD_eq_getElem?_getD,hro]; rfl
  rw [ho] at hpick ⊢;have hbo:=(good_mem hg hro).born;have Hro:=Lib.hid hro;have How:=Lib.hid how;have Ho:=Lib.hid ho;clear hro how ho hold;obtain ⟨b,off,rfl,_,hbl,hc⟩:=(H.out.below hT3.below).at_ (by omega)
  have hbB:b<w.heap.size:=by
   obtain ⟨b',off',e,_,hb',_⟩:=H.out.at_ (by omega)
   cases e; exact hb'
  obtain ⟨Ad,cd,At,ct,hreq,k0,k1,k2,k3,k4,k5⟩:=hc o ro Hro.out;clear hc;have hoi:(o:Int)<(l.length:Int):=by omega
  have Hbo:=Lib.hid hbo;clear hbo
  cases hexp:expB ro now with
  |true =>
   rw [hexp,if_pos rfl] at hpick;rw [hpick,endOf_at Hro.out] at ev;have EV:=Lib.hid ev;clear ev hpick;go_wp2_with fail;refine (expired_any S ro _ now _ hreq hn1 hn2 Hbo.out).mono ?_;rintro e w4 ⟨rfl,hb4⟩;have hT4:=hT3.step hb4;clear hT3 hb4 k0 k1 k2 k3 k4 k5 hreq hbl;clear c0 c1 c2 c3 d0 d1 d2 d3 f0 f1 f2 f3 e0 e1 e2 e3
   obtain ⟨j,hj⟩:∃ j,j=o:=⟨_,rfl⟩
   subst hj
   obtain ⟨r,hr⟩:∃ r,r=ro:=⟨_,rfl⟩
   subst hr;have Hr:=Hro;obtain ⟨s1,s2,s3,s4,s5⟩:=(good_mem hg Hr.out).span;obtain ⟨b',off',e,_,hbl,hc⟩:=(H.out.below hT4.below).at_ (by omega)
   cases e
   obtain ⟨_,_,_,_,_,_,k1,k2,_,_,_⟩:=hc j r Hr.out;clear hc;have hji:(j:Int)<(l.length:Int):=by omega
   have hs:IntKind.i64.wrap (r.lo+r.many)=r.lo+r.many:=IntWalk.i64_in _ (by omega);obtain ⟨c0,c1,c2,c3,d0,d1,d2,d3,f0,f1,f2,f3,e0,e1,e2,e3⟩:=hT4.tn;go_wp2_with fail;go_region
   go_wp2_with fail;go_region
   go_wp2;rw [EV.out];refine bodyPost_ret (v:=.tuple #[_,tnV _]) (by simp [results,Tryz.results86,go_sem,d0,d1,d2,d3,e0,e1,e2,e3,c0,c1,c2,c3,f0,f1,f2,f3]) rfl ⟨rfl,?_⟩;repeat (first | (with_reducible refine Below.drew ?_) | ((with_reducible refine Below.setCell ?_ ?hp _); case hp=>simp))
   exact hT4.below
  |false =>
   rw [hexp] at hpick;have Hpick:=Lib.hid hpick;have Ev:=Lib.hid ev;clear hpick ev;go_wp2_with fail;refine (expired_any S ro _ now _ hreq hn1 hn2 Hbo.out).mono ?_;rintro e w4 ⟨rfl,hb4⟩;have hT4:=hT3.step hb4;clear hT3 hb4 k0 k1 k2 k3 k4 k5 hreq hbl;clear c0 c1 c2 c3 d0 d1 d2 d3 f0 f1 f2 f3 e0 e1 e2 e3;obtain ⟨c0,c1,c2,c3,d0,d1,d2,d3,f0,f1,f2,f3,e0,e1,e2,e3⟩:=hT4.tn;go_wp2_with fail;refine (from_any S l _ t'.write t'.wh _ (H.out.below hT4.below)).mono ?_;rintro e w5 ⟨rfl,hb5⟩;have hT5:=hT4.step hb5;clear hT4 hb5;clear c0 c1 c2 c3 d0 d1 d2 d3 f0 f1 f2 f3 e0 e1 e2 e3;obtain ⟨c0,c1,c2,c3,d0,d1,d2,d3,f0,f1,f2,f3,e0,e1,e2,e3⟩:=hT5.tn;by_cases hf:fromI l t'.write t'.wh<0
   ·have h0:0≤fromI l t'.write 0:=fromI_some Hro.out How.out (good_mem hg Hro.out).span.1
    obtain ⟨j,r,hj,hr,_,_,hjl⟩:=fromI_ok h0;have e1:pickM l t' now=j:=by rw [Hpick.out,if_neg (by simp),if_pos hf,hj]
    have ev:=Ev.out;rw [e1,endOf_at hr] at ev;have EV:=Lib.hid ev;have Hr:=Lib.hid hr;have Hj:=Lib.hid hj;clear ev Hpick Ev hj hr h0 e1;go_wp2_with fail;refine (from_any S l _ t'.write 0 _ (H.out.below hT5.below)).mono ?_;rintro e w6 ⟨rfl,hb6⟩;have hT6:=hT5.step hb6;clear hT5 hb6 hf;rw [Hj.out];clear c0 c1 c2 c3 d0 d1 d2 d3 f0 f1 f2 f3 e0 e1 e2 e3;obtain ⟨s1,s2,s3,s4,s5⟩:=(good_mem hg Hr.out).span;obtain ⟨b',off',e,_,hbl,hc⟩:=(H.out.below hT6.below).at_ (by omega)
    cases e
    obtain ⟨_,_,_,_,_,_,k1,k2,_,_,_⟩:=hc j r Hr.out;clear hc;have hji:(j:Int)<(l.length:Int):=by omega
    have hs:IntKind.i64.wrap (r.lo+r.many)=r.lo+r.many:=IntWalk.i64_in _ (by omega);obtain ⟨c0,c1,c2,c3,d0,d1,d2,d3,f0,f1,f2,f3,e0,e1,e2,e3⟩:=hT6.tn;go_wp2_with fail;go_region
    go_wp2_with fail;go_region
    go_wp2;rw [EV.out];refine bodyPost_ret (v:=.tuple #[_,tnV _]) (by simp [results,Tryz.results86,go_sem,d0,d1,d2,d3,e0,e1,e2,e3,c0,c1,c2,c3,f0,f1,f2,f3]) rfl ⟨rfl,?_⟩;repeat (first | (with_reducible refine Below.drew ?_) | ((with_reducible refine Below.setCell ?_ ?hp _); case hp=>simp))
    exact hT6.below
   ·obtain ⟨j,r,hj,hr,_,_,hjl⟩:=fromI_ok (Int.not_lt.1 hf)
    have e1:pickM l t' now=j:=by rw [Hpick.out,if_neg (by simp),if_neg hf,hj]
    have ev:=Ev.out;rw [e1,endOf_at hr] at ev;have EV:=Lib.hid ev;have Hr:=Lib.hid hr;rw [hj];clear ev Hpick Ev hj hr e1 hf;clear c0 c1 c2 c3 d0 d1 d2 d3 f0 f1 f2 f3 e0 e1 e2 e3;obtain ⟨s1,s2,s3,s4,s5⟩:=(good_mem hg Hr.out).span;obtain ⟨b',off',e,_,hbl,hc⟩:=(H.out.below hT5.below).at_ (by omega)
    cases e
    obtain ⟨_,_,_,_,_,_,k1,k2,_,_,_⟩:=hc j r Hr.out;clear hc;have hji:(j:Int)<(l.length:Int):=by omega
    have hs:IntKind.i64.wrap (r.lo+r.many)=r.lo+r.many:=IntWalk.i64_in _ (by omega);obtain ⟨c0,c1,c2,c3,d0,d1,d2,d3,f0,f1,f2,f3,e0,e1,e2,e3⟩:=hT5.tn;go_wp2_with fail;go_region
    go_wp2_with fail;go_region
    go_wp2;rw [EV.out];refine bodyPost_ret (v:=.tuple #[_,tnV _]) (by simp [results,Tryz.results86,go_sem,d0,d1,d2,d3,e0,e1,e2,e3,c0,c1,c2,c3,f0,f1,f2,f3]) rfl ⟨rfl,?_⟩;repeat (first | (with_reducible refine Below.drew ?_) | ((with_reducible refine Below.setCell ?_ ?hp _); case hp=>simp))
    exact hT5.below
theorem next_any' (S:Nat→Prop) (l:List Rq) (v:Value) (t:Tn) (now:Int) (w:World) (h:ReqsAt S w v l) (hg:goodReqs l=true) (hne:l≠[]) (hst:i64 t.starved) (hn1:0≤now) (hn2:now≤1000000000) :
  Calls Tryz.prog 86 #[v,tnV t,.int .i64 now] w (Ret (nextV l t now) w):=by
 by_cases q1:0<t.gone
 ·by_cases q2:t.gone<3
  ·by_cases q3:0≤fromI l t.write t.wh
   ·exact next_on S l v t now w h hg q1 q2 q3
   ·exact next_new S l v t now w h hg hne hst hn1 hn2 (by omega) (by omega)
  ·exact next_new S l v t now w h hg hne hst hn1 hn2 (by omega) (by omega)
 ·exact next_new S l v t now w h hg hne hst hn1 hn2 (by omega) (by omega)
end Go.Proofs.YtagndjihiklmiaaGreatDoor
namespace Go.Proofs.YtagndjihiklmiaaGreatDoor
open Go
section
variable {P:Program}
def OpGives (P:Program) (o:Oper) (ρ:Operand→Value) (w:World) (K:Value→World→Prop):Prop :=
 match (execOp ρ o).run P w with
 |.ok (.value v) w'=>K v w'
 |.ok .skip w'=>K undef w'
 |.ok (.enter f args) w'=>Calls P f args w' (fun e w''=>∃ v,e=.returned v∧K v w'')
 |_=>False
theorem wp_of_gives {o:Oper} {a:Act} {w:World} {K:Value→World→Prop} {K':Act→World→Prop} {Q:Exit→Act→World→Prop} (h:OpGives P o a.eval w K) (hk:∀ v w',K v w'→K' (a.put o.dst v) w'):o.wp P a w K' Q:=by
 unfold OpGives at h;unfold Oper.wp;generalize (execOp a.eval o).run P w=r at *
 cases r with
 |ok n w' =>
  cases n <;> simp only [Oper.upon] at h ⊢
  case value v=>exact hk _ _ h
  case skip=>exact hk _ _ h
  case enter f args=>exact h.mono fun e w'' ⟨v,he,hv⟩=>by subst he; exact hk _ _ hv
 |halt x w'=>simp only at h
theorem gives_value {o:Oper} {ρ:Operand→Value} {w w':World} {v:Value} {K:Value→World→Prop} (h:(execOp ρ o).run P w=.ok (.value v) w') (hk:K v w'):OpGives P o ρ w K:=by
 unfold OpGives; rw [h]; exact hk
theorem gives_skip {o:Oper} {ρ:Operand→Value} {w w':World} {K:Value→World→Prop} (h:(execOp ρ o).run P w=.ok .skip w') (hk:K undef w'):OpGives P o ρ w K:=by
 unfold OpGives; rw [h]; exact hk
theorem gives_enter {o:Oper} {ρ:Operand→Value} {w w':World} {f:FuncId} {args:Array Value} {K:Value→World→Prop} (h:(execOp ρ o).run P w=.ok (.enter f args) w') (hk:Calls P f args w' (fun e w''=>∃ v,e=.returned v∧K v w'')):OpGives P o ρ w K:=by
 unfold OpGives; rw [h]; exact hk
def tmpsOf (o:Oper):List Tmp:=o.op.operands.toList.filterMap fun | .tmp t=>some t | _=>none
abbrev SlotFact:=Value→World→Prop
def slotG (Gs:List (Tmp × SlotFact)) (a:Act) (d:Tmp):SlotFact:=match Gs.lookup d with
 |some F=>F
 |none=>fun v _=>v=a.eval (.tmp d)
def Reads (G:Tmp→SlotFact) (ρ:Operand→Value) (w:World):List Tmp→Prop
 | []=>True
 |d :: r=>G d (ρ (.tmp d)) w∧Reads G ρ w r
def GD (G:Tmp→SlotFact) (d:Option Tmp):SlotFact:=match d with
 |some d=>G d
 |none=>fun _ _=>True
structure Plain (ρ:Operand→Value):Prop where
 const:∀ v,ρ (.const v)=v
 global:∀ g,ρ (.global g)=.pointer (some ⟨g,0,none⟩)
 func:∀ f,ρ (.func f)=.func (.func f) #[] #[]
def StepOk (P:Program) (G:Tmp→SlotFact) (J:World→Prop) (R:World→World→Prop) (Ev:Nat→World→Prop) (i:Nat) (o:Oper):Prop :=
 ∀ ρ w,Plain ρ→J w→Reads G ρ w (tmpsOf o)→OpGives P o ρ w (fun v w'=>GD G o.dst v w'∧J w'∧R w w'∧Ev i w')
def StepsOk (P:Program) (G:Tmp→SlotFact) (J:World→Prop) (R:World→World→Prop) (Ev:Nat→World→Prop):Nat→List Oper→Prop
 |_,[]=>True
 |i,o :: os=>StepOk P G J R Ev i o∧StepsOk P G J R Ev (i+1) os
def StableAll (R:World→World→Prop):List (Tmp × SlotFact)→Prop
 | []=>True
 |g :: gs=>(∀ v w w',g.2 v w→R w w'→g.2 v w')∧StableAll R gs
def dstsOf (ops:List Oper):List Tmp:=ops.filterMap (·.dst)
def laid (f:Tmp→Value):List Oper→Act→Act
 | [],a=>a
 |o :: os,a=>laid f os (a.put o.dst (match o.dst with | some d=>f d | none=>undef))
def FinFacts (f:Tmp→Value) (w:World):List (Tmp × SlotFact)→Prop
 | []=>True
 |g :: gs=>g.2 (f g.1) w∧FinFacts f w gs
def regB (n:Nat) (ops:List Oper):Bool :=
 (List.range ops.length).all fun i=>match ops[i]? with
  |none=>true
  |some o=>o.guard.isNone && (match o.dst with | some d=>decide (d<n) | none=>true) &&
   o.after.toList.all (fun e=>!Region.binds .any e || decide (e.on<i)) &&
   (List.range ops.length).all fun j=>match ops[j]? with
    |none=>true
    |some oj=>match oj.dst with
     |none=>true
     |some d=>(!(tmpsOf o).contains d || o.after.toList.any (fun e=>Region.binds .any e && e.on == j)) && (j == i || o.dst != some d)
theorem laid_eq {f:Tmp→Value} {a:Act} (hf:∀ d,d<a.tmps.size→a.tmps[d]?=some (f d)):∀ (ops:List Oper) (b:Act),b.defers=a.defers→b.tmps.size=a.tmps.size →
  (∀ d,d<a.tmps.size→b.tmps[d]?=a.tmps[d]?∨d ∈ dstsOf ops)→laid f ops b=a
 | [],b,h1,h2,h3=>by
  unfold laid;obtain ⟨bt,bd⟩:=b;obtain ⟨at_,ad⟩:=a;simp only at h1 h2 h3 ⊢;subst h1
  congr 1
  apply Array.ext_getElem?;intro i;rcases Nat.lt_or_ge i at_.size with h | h
  ·rcases h3 i h with h4 | h4
   ·exact h4
   ·simp [dstsOf] at h4
  ·rw [Array.getElem?_eq_none h,Array.getElem?_eq_none (by omega)]
 |o :: os,b,h1,h2,h3=>by
  unfold laid
  cases hd:o.dst with
  |none =>
   refine laid_eq hf os _ (by simpa [Act.put] using h1) (by simpa [Act.put] using h2) (fun d hl=>?_);have:=h3 d hl
   simpa [Act.put,dstsOf,hd] using this
  |some e =>
   refine laid_eq hf os _ (by simpa [Act.put] using h1) (by simpa [Act.put] using h2) (fun d hl=>?_);by_cases hde:d=e
   ·subst hde
    left;simp only [Act.put];rw [Array.getElem?_setIfInBounds_self_of_lt (by omega),hf d hl]
   ·rcases h3 d hl with h | h
    ·left
     simp only [Act.put];rw [Array.getElem?_setIfInBounds_ne (fun h=>hde h.symm)];exact h
    ·right
     simp [dstsOf,hd] at h ⊢;rcases h with h | h
     ·exact absurd h hde
     ·exact h
theorem slotG_stable {R:World→World→Prop} {a:Act} {d:Tmp} {v:Value} {w w':World}:∀ {Gs:List (Tmp × SlotFact)},StableAll R Gs→slotG Gs a d v w→R w w'→slotG Gs a d v w'
 | [],_,h,_=>h
 |g :: gs,hst,h,hr=>by
  unfold slotG at *;rw [List.lookup_cons] at *;by_cases hd:(d == g.1)=true
  ·simp only [hd,cond_true] at *
   exact hst.1 _ _ _ h hr
  ·simp only [Bool.not_eq_true] at hd
   simp only [hd,cond_false] at *;exact slotG_stable (Gs:=gs) (a:=a) hst.2 h hr
theorem slotG_none {Gs:List (Tmp × SlotFact)} {a:Act} {d:Tmp} (h:d ∉ Gs.map (·.1)):slotG Gs a d=fun v _=>v=a.eval (.tmp d):=by
 unfold slotG
 have:Gs.lookup d=none:=by
  induction Gs with
  |nil=>rfl
  |cons g gs ih =>
   simp only [List.map_cons,List.mem_cons,not_or] at h;rw [List.lookup_cons];have h1:(d == g.1)=false:=by simpa using h.1
   rw [h1];exact ih h.2
 rw [this]
theorem slotG_fin {f:Tmp→Value} {w:World} {a:Act}:∀ {Gs:List (Tmp × SlotFact)},(Gs.map (·.1)).Nodup→(∀ d,d ∈ Gs.map (·.1)→slotG Gs a d (f d) w)→FinFacts f w Gs
 | [],_,_=>trivial
 |g :: gs,hn,h=>by
  rw [List.map_cons,List.nodup_cons] at hn;refine ⟨?_,slotG_fin (a:=a) hn.2 (fun d hd=>?_)⟩
  ·have:=h g.1 (by simp)
   unfold slotG at this;rw [List.lookup_cons] at this
   simpa using this
  ·have:=h d (by simp [hd])
   unfold slotG at this ⊢;rw [List.lookup_cons] at this
   have hne:(d == g.1)=false:=by
    have:d≠g.1:=fun e=>hn.1 (e▸hd)
    simpa using this
   rw [hne] at this;exact this
theorem reads_of {G:Tmp→SlotFact} {ρ:Operand→Value} {w:World}:∀ {l:List Tmp},(∀ d ∈ l,G d (ρ (.tmp d)) w)→Reads G ρ w l
 | [],_=>trivial
 |d :: r,h=>⟨h d (by simp),reads_of fun e he=>h e (by simp [he])⟩
structure RegOk (n:Nat) (ops:List Oper):Prop where
 guard:∀ (i:Nat) (o:Oper),ops[i]?=some o→o.guard=none
 dst:∀ (i:Nat) (o:Oper) (d:Tmp),ops[i]?=some o→o.dst=some d→d<n
 order:∀ (i:Nat) (o:Oper) (e:Edge),ops[i]?=some o→e ∈ o.after→Region.binds .any e=true→e.on<i
 waits:∀ (i:Nat) (o:Oper) (j:Nat) (oj:Oper) (d:Tmp),ops[i]?=some o→ops[j]?=some oj→oj.dst=some d→d ∈ tmpsOf o→∃ e ∈ o.after,Region.binds .any e=true∧e.on=j
 once:∀ (i:Nat) (o:Oper) (j:Nat) (oj:Oper) (d:Tmp),ops[i]?=some o→ops[j]?=some oj→o.dst=some d→oj.dst=some d→j=i
theorem regB_ok {n:Nat} {ops:List Oper} (h:regB n ops=true):RegOk n ops:=by
 unfold regB at h;rw [List.all_eq_true] at h
 have key:∀ i o,ops[i]?=some o→(o.guard.isNone=true∧(match o.dst with | some d=>decide (d<n) | none=>true)=true)∧(o.after.toList.all (fun e=>!Region.binds .any e || decide (e.on<i)))=true ∧
   ∀ j oj d,ops[j]?=some oj→oj.dst=some d→(!(tmpsOf o).contains d || o.after.toList.any (fun e=>Region.binds .any e && e.on == j))=true∧(j == i || o.dst != some d)=true:=by
  intro i o hi
  have hlt:i<ops.length:=by
   rcases Nat.lt_or_ge i ops.length with h | h
   ·exact h
   ·rw [List.getElem?_eq_none h] at hi; cases hi
  have h1:=h i (List.mem_range.2 hlt);simp only [hi,Bool.and_eq_true] at h1;refine ⟨h1.1.1,h1.1.2,fun j oj d hj hd=>?_⟩
  have hlt2:j<ops.length:=by
   rcases Nat.lt_or_ge j ops.length with h | h
   ·exact h
   ·rw [List.getElem?_eq_none h] at hj; cases hj
  have h2:=List.all_eq_true.1 h1.2 j (List.mem_range.2 hlt2);simp only [hj,hd,Bool.and_eq_true] at h2;exact h2
 refine ⟨fun i o hi=>by simpa using (key i o hi).1.1,fun i o d hi hd=>?_,fun i o e hi he hb=>?_,fun i o j oj d hi hj hd hm=>?_,fun i o j oj d hi hj hd hd2=>?_⟩
 ·have:=(key i o hi).1.2
  rw [hd] at this
  simpa using this
 ·have:=List.all_eq_true.1 (key i o hi).2.1 e (by simpa using he)
  simpa [hb] using this
 ·have:=((key i o hi).2.2 j oj d hj hd).1
  simp only [Bool.or_eq_true,Bool.not_eq_true',List.any_eq_true,Bool.and_eq_true,beq_iff_eq] at this
  rcases this with h1 | ⟨e,he,hb,ho⟩
  ·rw [List.contains_iff_mem.2 hm] at h1; cases h1
  ·exact ⟨e,by simpa using he,hb,ho⟩
 ·have:=((key i o hi).2.2 j oj d hj hd2).2
  simpa [hd] using this
theorem laid_defers {f:Tmp→Value}:∀ (ops:List Oper) (a:Act),(laid f ops a).defers=a.defers
 | [],a=>rfl
 |o :: os,a=>by
  unfold laid;rw [laid_defers os];unfold Act.put; split <;> rfl
theorem laid_size {f:Tmp→Value}:∀ (ops:List Oper) (a:Act),(laid f ops a).tmps.size=a.tmps.size
 | [],a=>rfl
 |o :: os,a=>by
  unfold laid;rw [laid_size os];unfold Act.put; split <;> simp
theorem laid_out {f:Tmp→Value} {d:Tmp}:∀ (ops:List Oper) (a:Act),d ∉ dstsOf ops→(laid f ops a).tmps[d]?=a.tmps[d]?
 | [],a,_=>rfl
 |o :: os,a,h=>by
  unfold laid
  cases hd:o.dst with
  |none =>
   rw [laid_out os _ (by simpa [dstsOf,hd] using h)];rfl
  |some e =>
   have h':¬ d=e∧d ∉ dstsOf os:=by simpa [dstsOf,hd] using h
   rw [laid_out os _ h'.2];unfold Act.put;simp only;rw [Array.getElem?_setIfInBounds_ne (fun h=>h'.1 h.symm)]
theorem laid_in {f:Tmp→Value} {d:Tmp}:∀ (ops:List Oper) (a:Act),d ∈ dstsOf ops→d<a.tmps.size→(laid f ops a).tmps[d]?=some (f d)
 | [],a,h,_=>by simp [dstsOf] at h
 |o :: os,a,h,hl=>by
  unfold laid;by_cases hm:d ∈ dstsOf os
  ·exact laid_in os _ hm (by unfold Act.put; split <;> simpa using hl)
  ·rw [laid_out os _ hm]
   cases hd:o.dst with
   |none=>simp [dstsOf,hd] at h hm; exact absurd h (by simpa using hm)
   |some e =>
    have h':d=e∨d ∈ dstsOf os:=by simpa [dstsOf,hd] using h
    rcases h' with rfl | h'
    ·simp [Act.put,hl]
    ·exact absurd h' hm
theorem fin_same {f g:Tmp→Value} {w:World}:∀ {Gs:List (Tmp × SlotFact)},(∀ d,d ∈ Gs.map (·.1)→g d=f d)→FinFacts f w Gs→FinFacts g w Gs
 | [],_,_=>trivial
 |x :: xs,he,h=>by
  refine ⟨?_,fin_same (fun d hd=>he d (by simp [hd])) h.2⟩;rw [he x.1 (by simp)];exact h.1
end
end Go.Proofs.YtagndjihiklmiaaGreatDoor
