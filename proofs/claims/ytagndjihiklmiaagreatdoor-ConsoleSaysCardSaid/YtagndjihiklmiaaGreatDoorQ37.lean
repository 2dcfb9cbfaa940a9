/- The reference's Next, where a turn begins. -/
import Derived.Test.YtagndjihiklmiaaGreatDoorQ36
set_option linter.unusedSimpArgs false
set_option linter.unusedVariables false
set_option maxRecDepth 100000
set_option maxHeartbeats 8000000
namespace Go.Proofs.YtagndjihiklmiaaGreatDoor
open Go.RowKit Go.Sort
theorem pick_is {l:List Rq} (t':Tn) (now:Int) {o:Nat} {ro:Rq} (ho:oldest l t'.write=o) (hro:l[o]?=some ro) :
  pickM l t' now=if expB ro now then (o:Int) else if fromI l t'.write t'.wh<0 then fromI l t'.write 0 else fromI l t'.write t'.wh:=by
 unfold pickM;rw [ho,Int.toNat_natCast,List.getD_eq_getElem?_getD,hro]; rfl
theorem rnext_new (S:Nat→Prop) (l:List Rq) (v:Value) (t:Tn) (now:Int) (w:World) (h:ReqsAt S w v l) (hg:goodReqs l=true) (hne:l≠[]) (hst:i64 t.starved) (hn1:0≤now) (hn2:now≤1000000000) (hnew:¬ (0<t.gone∧t.gone<3∧0≤fromI l t.write t.wh))
  (hgg:((t.gone == 1)=false∧(t.gone == 2)=false)∨((t.gone == 1)=true∧fromI l t.write t.wh<0)∨((t.gone == 1)=false∧(t.gone == 2)=true∧fromI l t.write t.wh<0)) :
  Calls Tryz.prog 62 #[v,tnV t,.int .i64 now] w (Ret (nextV l t now) w):=by
 have H:=Lib.hid h;obtain ⟨A,cap,rfl,h1,h2⟩:=h.form;unfold maxLen at h2;clear h;obtain ⟨z1,z2⟩:=hst;have EV0:Hid (nextV l t now=.tuple #[.int .i64 (pickM l (turnedM l t) now),tnV { turnedM l t with gone:=1,wh:=endOf l (pickM l (turnedM l t) now) }]):=by show _=_; unfold nextV; rw [nextM_new hnew]
 clear hnew
 rcases hgg with ⟨g1,g2⟩ | ⟨g1,q3⟩ | ⟨g1,g2,q3⟩
 all_goals
  go_enter Tryz.func62,Tryz.ntmps62;go_wp2_with fail;have hT:=Box2.start w t
  generalize ((w.alloc (Obj.cells #[Value.bool t.write,Value.int IntKind.i64 t.gone,Value.int IntKind.i64 t.starved,Value.int IntKind.i64 t.wh] 68)).alloc
   (Obj.cells #[Value.bool false,Value.int IntKind.i64 0,Value.int IntKind.i64 0,Value.int IntKind.i64 0] 68))=W at hT ⊢
 rotate_left 1;refine (rfrom_any S l _ t.write t.wh _ (H.out.below hT.below)).mono ?_;rintro e w0 ⟨rfl,hb0⟩;have hT0:=hT.step hb0;clear hT hb0;have hT:=hT0;clear hT0;have c0:=hT.c 0;have c1:=hT.c 1;have c2:=hT.c 2;have c3:=hT.c 3;simp [tnCells,zeroTn] at c0 c1 c2 c3;go_wp2_with fail;clear c0 c1 c2 c3;rotate_left 1;refine (rfrom_any S l _ t.write t.wh _ (H.out.below hT.below)).mono ?_;rintro e w0 ⟨rfl,hb0⟩;have hT0:=hT.step hb0;clear hT hb0;have hT:=hT0;clear hT0;have c0:=hT.c 0;have c1:=hT.c 1;have c2:=hT.c 2;have c3:=hT.c 3;simp [tnCells,zeroTn] at c0 c1 c2 c3;go_wp2_with fail;clear c0 c1 c2 c3
 all_goals
  refine (roldest_any S l _ false _ (H.out.below (hT.below))).mono ?_;rintro e w1 ⟨rfl,hb1⟩;have hT1:=hT.step hb1;clear hT hb1;go_wp2_with fail;refine (roldest_any S l _ true _ (H.out.below (hT1.below))).mono ?_;rintro e w2 ⟨rfl,hb2⟩;have hT2:=hT1.step hb2;clear hT1 hb2;obtain ⟨c0,c1,c2,c3,d0,d1,d2,d3,f0,f1,f2,f3,e0,e1,e2,e3⟩:=hT2.tn
  rcases (by have:=kinds hne; omega:(0≤oldest l false∧0≤oldest l true∧2≤t.starved)∨(0≤oldest l false∧0≤oldest l true∧¬ 2≤t.starved)∨(0≤oldest l false∧¬ 0≤oldest l true)∨(¬ 0≤oldest l false∧0≤oldest l true)) with ⟨q1,q2,q4⟩ | ⟨q1,q2,q4⟩ | ⟨q1,q2⟩ | ⟨q1,q2⟩
  focus
   have hold:=q2
   obtain ⟨wb,hwb⟩:∃ wb:Bool,wb=true:=⟨_,rfl⟩
   have Hwb:=Lib.hid hwb;clear hwb;have ht:turnedM l t=⟨true,0,0,t.wh⟩:=by unfold turnedM; rw [if_neg (by omega),if_pos (by omega)]
   go_wp2_with fail;have hT3:Box2 w.heap.size w ((w2.setCell ⟨w.heap.size,0,none⟩ (.bool true)).setCell ⟨w.heap.size,2,none⟩ (.int .i64 0)) (tnCells ⟨true,t.gone,0,t.wh⟩) zeroTn:=(hT2.set 0 (.bool true)).set 2 (.int .i64 0);clear c0 c1 c2 c3 d0 d1 d2 d3 f0 f1 f2 f3 e0 e1 e2 e3;generalize ((w2.setCell ⟨w.heap.size,0,none⟩ (.bool true)).setCell ⟨w.heap.size,2,none⟩ (.int .i64 0))=w3 at hT3 ⊢
  rotate_left
  focus
   have hold:=q1
   obtain ⟨wb,hwb⟩:∃ wb:Bool,wb=false:=⟨_,rfl⟩
   have Hwb:=Lib.hid hwb;clear hwb;have ht:turnedM l t=⟨false,0,t.starved+1,t.wh⟩:=by unfold turnedM; rw [if_neg (by omega),if_neg (by omega)]
   go_wp2_with fail;have hT3:Box2 w.heap.size w ((w2.setCell ⟨w.heap.size,0,none⟩ (.bool false)).setCell ⟨w.heap.size,2,none⟩ (.int .i64 (t.starved+1))) (tnCells ⟨false,t.gone,t.starved+1,t.wh⟩) zeroTn:=(hT2.set 0 (.bool false)).set 2 (.int .i64 (t.starved+1));clear c0 c1 c2 c3 d0 d1 d2 d3 f0 f1 f2 f3 e0 e1 e2 e3;generalize ((w2.setCell ⟨w.heap.size,0,none⟩ (.bool false)).setCell ⟨w.heap.size,2,none⟩ (.int .i64 (t.starved+1)))=w3 at hT3 ⊢
  rotate_left
  focus
   have hold:=q1
   obtain ⟨wb,hwb⟩:∃ wb:Bool,wb=false:=⟨_,rfl⟩
   have Hwb:=Lib.hid hwb;clear hwb;have q2':decide (0≤oldest l true)=false:=decide_eq_false (by omega);have ht:turnedM l t=⟨false,0,t.starved,t.wh⟩:=by unfold turnedM; rw [if_pos (by omega)]
   go_wp2_with fail;have hT3:Box2 w.heap.size w (w2.setCell ⟨w.heap.size,0,none⟩ (.bool false)) (tnCells ⟨false,t.gone,t.starved,t.wh⟩) zeroTn:=hT2.set 0 (.bool false);clear c0 c1 c2 c3 d0 d1 d2 d3 f0 f1 f2 f3 e0 e1 e2 e3;generalize (w2.setCell ⟨w.heap.size,0,none⟩ (.bool false))=w3 at hT3 ⊢
  rotate_left
  focus
   have hold:=q2
   obtain ⟨wb,hwb⟩:∃ wb:Bool,wb=true:=⟨_,rfl⟩
   have Hwb:=Lib.hid hwb;clear hwb;have q1':decide (0≤oldest l false)=false:=decide_eq_false (by omega);have ht:turnedM l t=⟨true,0,0,t.wh⟩:=by unfold turnedM; rw [if_neg (by omega),if_pos (by omega)]
   go_wp2_with fail;have hT3:Box2 w.heap.size w ((w2.setCell ⟨w.heap.size,0,none⟩ (.bool true)).setCell ⟨w.heap.size,2,none⟩ (.int .i64 0)) (tnCells ⟨true,t.gone,0,t.wh⟩) zeroTn:=(hT2.set 0 (.bool true)).set 2 (.int .i64 0);clear c0 c1 c2 c3 d0 d1 d2 d3 f0 f1 f2 f3 e0 e1 e2 e3;generalize ((w2.setCell ⟨w.heap.size,0,none⟩ (.bool true)).setCell ⟨w.heap.size,2,none⟩ (.int .i64 0))=w3 at hT3 ⊢
  rotate_left
  all_goals
   clear hT2;refine (roldest_any S l _ _ _ (H.out.below hT3.below)).mono ?_;rintro e w4 ⟨rfl,hb4⟩;have hT4:=hT3.step hb4;clear hT3 hb4;obtain ⟨c0,c1,c2,c3,d0,d1,d2,d3,f0,f1,f2,f3,e0,e1,e2,e3⟩:=hT4.tn;try simp only at c0 c1 c2 c3
   obtain ⟨o,ro,ho,hro,how,hol⟩:=oldest_ok hold;have hpick:=pick_is (turnedM l t) now (by rw [ht]; exact ho) hro;rw [ht] at hpick;simp only at hpick;rw [ho];have hbo:=(good_mem hg hro).born;have b1:=hbo.1;have b2:=hbo.2;have Hro:=Lib.hid hro;have How:=Lib.hid how;have Ho:=Lib.hid ho;have Ht:=Lib.hid ht;clear hbo hro how ho hold ht;obtain ⟨b,off,rfl,_,hbl,hc⟩:=(H.out.below hT4.below).at_ (by omega)
   have hbB:b<w.heap.size:=by
    obtain ⟨b',off',e,_,hb',_⟩:=H.out.at_ (by omega)
    cases e; exact hb'
   obtain ⟨_,_,_,_,_,_,_,_,_,_,k5⟩:=hc o ro Hro.out;clear hc;have hoi:(o:Int)<(l.length:Int):=by omega
   first
    |(have hex:expB ro now=decide (8≤now - ro.born):=by unfold expB; rw [How.out]; rfl
      by_cases hexp:8≤now - ro.born)
    |(have hex:expB ro now=decide (4≤now - ro.born):=by unfold expB; rw [How.out]; rfl
      by_cases hexp:4≤now - ro.born)
   focus
    rw [hex,decide_eq_true hexp,if_pos rfl] at hpick;have ev:=EV0.out;rw [Ht.out,hpick,endOf_at Hro.out] at ev;have EV:=Lib.hid ev;clear ev hpick hex;go_wp2_with fail;clear k5 hbl;clear c0 c1 c2 c3 d0 d1 d2 d3 f0 f1 f2 f3 e0 e1 e2 e3
    obtain ⟨j,hj⟩:∃ j,j=o:=⟨_,rfl⟩
    subst hj
    obtain ⟨r,hr⟩:∃ r,r=ro:=⟨_,rfl⟩
    subst hr;have Hr:=Hro;have hT9:=hT4;clear hT4
   rotate_left
   focus
    rw [hex,decide_eq_false hexp] at hpick;have Hpick:=Lib.hid hpick;clear hpick hex;go_wp2_with fail;refine (rfrom_any S l _ _ t.wh _ (H.out.below hT4.below)).mono ?_;rintro e w5 ⟨rfl,hb5⟩;have hT5:=hT4.step hb5;clear hT4 hb5;clear c0 c1 c2 c3 d0 d1 d2 d3 f0 f1 f2 f3 e0 e1 e2 e3;obtain ⟨c0,c1,c2,c3,d0,d1,d2,d3,f0,f1,f2,f3,e0,e1,e2,e3⟩:=hT5.tn;try simp only at c0 c1 c2 c3
    by_cases hf':fromI l wb t.wh<0
   focus
    have h0:0≤fromI l wb 0:=fromI_some Hro.out (How.out.trans Hwb.out.symm) (good_mem hg Hro.out).span.1;obtain ⟨j,r,hj,hr,_,_,hjl⟩:=fromI_ok h0;have hf:=hf';rw [Hwb.out] at hf hj;have ep:=Hpick.out;rw [if_neg (by simp),if_pos hf,hj] at ep;have ev:=EV0.out;rw [Ht.out,ep,endOf_at hr] at ev;have EV:=Lib.hid ev;have Hr:=Lib.hid hr;have Hj:=Lib.hid hj;clear ev Hpick hj hr h0 ep hf';go_wp2_with fail;refine (rfrom_any S l _ _ 0 _ (H.out.below hT5.below)).mono ?_;rintro e w6 ⟨rfl,hb6⟩;have hT9:=hT5.step hb6;clear hT5 hb6 hf;rw [Hj.out];clear c0 c1 c2 c3 d0 d1 d2 d3 f0 f1 f2 f3 e0 e1 e2 e3
   rotate_left
   focus
    obtain ⟨j,r,hj,hr,_,_,hjl⟩:=fromI_ok (Int.not_lt.1 hf');have hf:=hf';rw [Hwb.out] at hf hj;have ep:=Hpick.out;rw [if_neg (by simp),if_neg hf,hj] at ep;have ev:=EV0.out;rw [Ht.out,ep,endOf_at hr] at ev;have EV:=Lib.hid ev;have Hr:=Lib.hid hr;rw [hj];clear ev Hpick hj hr ep hf hf';clear c0 c1 c2 c3 d0 d1 d2 d3 f0 f1 f2 f3 e0 e1 e2 e3;have hT9:=hT5;clear hT5
   all_goals
    obtain ⟨s1,s2,s3,s4,s5⟩:=(good_mem hg Hr.out).span;obtain ⟨b',off',e,_,hbl,hc⟩:=(H.out.below hT9.below).at_ (by omega)
    cases e
    obtain ⟨_,_,_,_,_,_,k1,k2,_,_,_⟩:=hc j r Hr.out;clear hc;have hji:(j:Int)<(l.length:Int):=by omega
    have hs:IntKind.i64.wrap (r.lo+r.many)=r.lo+r.many:=IntWalk.i64_in _ (by omega);obtain ⟨c0,c1,c2,c3,d0,d1,d2,d3,f0,f1,f2,f3,e0,e1,e2,e3⟩:=hT9.tn;try simp only at c0 c1 c2 c3
    go_wp2_with fail;go_region
    go_wp2_with fail;go_region
    go_wp2;rw [EV.out];refine bodyPost_ret (v:=.tuple #[_,tnV _]) (by simp [results,Tryz.results62,go_sem,d0,d1,d2,d3,e0,e1,e2,e3,c0,c1,c2,c3,f0,f1,f2,f3]) rfl ⟨rfl,?_⟩;repeat (first | (with_reducible refine Below.drew ?_) | ((with_reducible refine Below.setCell ?_ ?hp _); case hp=>simp))
    exact hT9.below
theorem rnext_any (S:Nat→Prop) (l:List Rq) (v:Value) (t:Tn) (now:Int) (w:World) (h:ReqsAt S w v l) (hg:goodReqs l=true) (hne:l≠[]) (hst:i64 t.starved) (hn1:0≤now) (hn2:now≤1000000000) :
  Calls Tryz.prog 62 #[v,tnV t,.int .i64 now] w (Ret (nextV l t now) w):=by
 by_cases q1:t.gone=1
 ·by_cases q3:0≤fromI l t.write t.wh
  ·exact rnext_on S l v t now w h hg (.inl q1) q3
  ·exact rnext_new S l v t now w h hg hne hst hn1 hn2 (by omega) (.inr (.inl ⟨by simpa using q1,by omega⟩))
 ·by_cases q2:t.gone=2
  ·by_cases q3:0≤fromI l t.write t.wh
   ·exact rnext_on S l v t now w h hg (.inr q2) q3
   ·exact rnext_new S l v t now w h hg hne hst hn1 hn2 (by omega) (.inr (.inr ⟨by simpa using q1,by simpa using q2,by omega⟩))
  ·exact rnext_new S l v t now w h hg hne hst hn1 hn2 (by omega) (.inl ⟨by simpa using q1,by simpa using q2⟩)
end Go.Proofs.YtagndjihiklmiaaGreatDoor
namespace Go.Proofs.YtagndjihiklmiaaGreatDoor
open Go.RowKit Go.Sort
theorem rwithout_st {S:Nat→Prop} {l:List Rq} {v:Value} {k:Nat} {w:World} (h:ReqsAt S w v l) (hS:∀ b,w.heap.size≤b→S b) (hk:k<l.length) (hn:l.length≤65536) :
  Calls Tryz.prog 63 #[v,.int .i64 (k:Int)] w (RetReqs S (l.eraseIdx k) w):=by
 obtain ⟨cs,rfl,hrd,hok⟩:=h;rw [List.length_map] at hk hn;obtain ⟨A,cap,rfl,_,_⟩:=hrd.form;obtain ⟨b,off,rfl,_,_,_⟩:=hrd.at_ (by omega) (by omega);refine (without_any S b off _ cap k _ w hrd (cells_one hok) hk hn).mono ?_;rintro e w' ⟨v',rfl,hown,hb⟩;rw [drop_flat] at hown;have hl3:(cs.take k ++ cs.drop (k+1)).length=cs.length - 1:=by simp; omega
 have hr:ReqsAt S w' v' ((cs.take k ++ cs.drop (k+1)).map (·.r)):=reqs_of_own hS (by rw [hl3]; exact hown) (fun c hm=>by
  have:c ∈ cs:=by rcases List.mem_append.1 hm with hm | hm; exact List.mem_of_mem_take hm; exact List.mem_of_mem_drop hm
  exact (hok c this).below hb)
 refine ⟨v',rfl,?_,hb⟩;rw [show (cs.map (·.r)).eraseIdx k=(cs.take k ++ cs.drop (k+1)).map (·.r) by rw [List.eraseIdx_eq_take_drop_succ]; simp];exact hr.more (fun k hk=>.inl hk)
theorem StAt.devg {T:Tys} {col:Nat→Nat} {w w':World} {b bd N:Nat} {x:Sv} {s:St} (h:StAt T col w b bd N x s) {d':Dv} (hd:DevAt T.D T.P (Im w col) (Grow (Fd col) w w') w' bd d') (hc:Chg (Fd col) w w'):DrvAt T.D T.P T.V (Im w col) (Grow (Fd col) w w') w' x.bv bd x.bt x.n { s.v with d:=d' }:=by
 obtain ⟨f,hf,hv⟩:=h.drv.map;have lv:=h.lt x.bv (by rw [h.cv]; decide);have lt:=h.lt x.bt (by rw [h.ct]; decide);have n2:¬ Fd col x.bv:=fun hf=>by have h1:col x.bv=4:=hf; rw [h.cv] at h1; cases h1
 have n3:¬ Fd col x.bt:=fun hf=>by have h1:col x.bt=4:=hf; rw [h.ct] at h1; cases h1
 exact ⟨(hc.block _ lv n2).trans h.drv.row,⟨f,hf.keep (hc.block _ lt n3),hv⟩,hd,fun hf=>hf.elim n2 (fun h=>by have:=h.1; omega),fun hf=>hf.elim n3 (fun h=>by have:=h.1; omega),h.nv⟩
theorem rdispatch_any (col:Nat→Nat) (w:World) (b bd N:Nat) (x:Sv) (s:St) (h:StAt Tr col w b bd N x s) (hI:Inv s) :
  Calls Tryz.prog 26 #[.pointer (some ⟨b,0,none⟩)] w (Ret5 Tr col w b bd N s.dispatch.1 (.bool s.dispatch.2)):=by
 have H:=Lib.hid h;have HI:=Lib.hid hI;obtain ⟨A,cap,hwv,_,_⟩:=h.wait.form;obtain ⟨_,hk32,hn32,wv,lv,ds,hrowd,_,hld,hds,_⟩:=h.drv.dev;obtain ⟨Ad,cd,hlv,_,_⟩:=hld.form;subst hlv;have hdl:ds.length=s.v.d.l.length:=by rw [← hds,List.length_map]
 have c0:w.cell? ⟨b,0,none⟩=some (.pointer (some ⟨bd,0,none⟩)):=h.cell 0;have c3:w.cell? ⟨b,3,none⟩=some (.slice A s.wait.length cap):=(h.cell 3).trans (congrArg some hwv);have c65:w.cell? ⟨bd,65,none⟩=some (.slice Ad s.v.d.l.length cd):=by rw [← hdl,cell_of_row _ _ _ _ _ _ hrowd]; simpa using devCells_at_l s.v.d wv _ hk32 hn32
 have Hwv:=Lib.hid hwv;clear h hrowd hld hds hdl hk32 hn32 hwv;go_enter Tryz.func26,Tryz.ntmps26;by_cases hno:s.wait=[]∨2≤s.v.d.l.length
 ·have Hd:=Lib.hid (Inv.dispatch_no (s:=s) hno)
  by_cases hne:s.wait=[]
  ·have hl0:s.wait.length=0:=by rw [hne]; rfl
   rw [hl0] at c3;clear hne hl0 hno hI;go_wp2_with fail;go_ret;rw [Hd.out];exact ⟨_,_,rfl,H.out,Chg.refl,.refl⟩
  ·have hl1:(((s.wait.length:Nat):Int) == 0)=false:=by simp only [beq_eq_false_iff_ne]; have:=List.length_pos_iff.2 hne; omega
   have hl2:s.v.d.l.length=2:=by have:=hI.dv.two; have:=hno.resolve_left hne; omega
   rw [hl2] at c65;clear hne hl2 hno hI;go_wp2_with fail;go_ret;rw [Hd.out];exact ⟨_,_,rfl,H.out,Chg.refl,.refl⟩
 ·have hne:¬ s.wait=[]:=fun h=>hno (.inl h)
  have h2:s.v.d.l.length<2:=by omega
  obtain ⟨j,r,t',hx,hde⟩:=hI.dispatched hne h2;have hl1:(((s.wait.length:Nat):Int) == 0)=false:=by simp only [beq_eq_false_iff_ne]; have:=List.length_pos_iff.2 hne; omega
  have hl2:(((s.v.d.l.length:Nat):Int) == 2)=false:=by simp only [beq_eq_false_iff_ne]; omega
  have Hne:=Lib.hid hne;have H2:=Lib.hid h2;have Hx:=Lib.hid hx;have Hde:=Lib.hid hde;clear hno hne h2 hx hde hI;go_wp2_with fail;clear hl1 hl2 c0 c65;have c4:w.cell? ⟨b,4,none⟩=some (.bool s.turn.write):=H.out.cell 4;have c5:w.cell? ⟨b,5,none⟩=some (.int .i64 s.turn.gone):=H.out.cell 5;have c6:w.cell? ⟨b,6,none⟩=some (.int .i64 s.turn.starved):=H.out.cell 6;have c7:w.cell? ⟨b,7,none⟩=some (.int .i64 s.turn.wh):=H.out.cell 7;have c8:w.cell? ⟨b,8,none⟩=some (.int .i64 s.now):=H.out.cell 8;have Hw0:Hid (ReqsAt (Im w col) w (.slice A s.wait.length cap) s.wait):=show ReqsAt _ _ _ _ from Hwv.out▸H.out.wait
  have Hcall:Hid (∀ u,Below w.heap.size w u→Calls Tryz.prog 62 #[(.slice A s.wait.length cap),.agg #[.bool s.turn.write,.int .i64 s.turn.gone,.int .i64 s.turn.starved,.int .i64 s.turn.wh],.int .i64 s.now] u (Ret (.tuple #[.int .i64 (j:Int),.agg #[.bool t'.write,.int .i64 t'.gone,.int .i64 t'.starved,.int .i64 t'.wh]]) u)):=fun u hu=>by
   have:=rnext_any (Im w col) s.wait (.slice A s.wait.length cap) s.turn s.now u (Hw0.out.below hu) (good_app.1 HI.out.good).1 Hne.out (by have:=HI.out.turn; unfold i64; omega) HI.out.now.1 HI.out.now.2;unfold nextV at this;rw [Hx.out.eq] at this;exact this
  obtain ⟨FB,hFB⟩:∃ F:Array Value,F=#[.bool t'.write,.int .i64 t'.gone,.int .i64 t'.starved,.int .i64 t'.wh]:=⟨_,rfl⟩
  refine wp_region_ev mixed [(24,fun v _=>v=(.pointer (some ⟨b,0,none⟩))),(25,fun v _=>v=(.pointer (some ⟨b,0,none⟩))),(26,fun v _=>v=(.pointer (some ⟨b,3,none⟩))),(27,fun v _=>v=(.slice A s.wait.length cap)),(28,fun v _=>v=(.pointer (some ⟨b,0,none⟩))),(29,fun v _=>v=(.pointer (some ⟨b,0,none⟩))),(30,fun v _=>v=(.pointer (some ⟨b,4,none⟩))),(31,fun v _=>v=(.agg #[.bool s.turn.write,.int .i64 s.turn.gone,.int .i64 s.turn.starved,.int .i64 s.turn.wh])),(32,fun v _=>v=(.pointer (some ⟨b,0,none⟩))),(33,fun v _=>v=(.pointer (some ⟨b,0,none⟩))),(34,fun v _=>v=(.pointer (some ⟨b,8,none⟩))),(35,fun v _=>v=(.int .i64 s.now)),(36,fun v _=>v=(.tuple #[.int .i64 (j:Int),.agg #[.bool t'.write,.int .i64 t'.gone,.int .i64 t'.starved,.int .i64 t'.wh]])),(23,fun v _=>v=(.tuple #[.int .i64 (j:Int),.agg #[.bool t'.write,.int .i64 t'.gone,.int .i64 t'.starved,.int .i64 t'.wh]])),(37,fun v _=>v=(.int .i64 (j:Int))),(38,fun v _=>v=(.agg #[.bool t'.write,.int .i64 t'.gone,.int .i64 t'.starved,.int .i64 t'.wh])),(4,BxF 68 FB w.heap.size),(3,fun v _=>v=(.int .i64 (j:Int)))] (fun u=>Below w.heap.size w u) (BR 68 FB w.heap.size) (BxE 68 FB 18) (by kernel_rfl) rfl (by decide) (Below.refl _ _).drew ?st3 (fun k vs u u' h hr=>h.step hr) ?steps3 ?fin3;case st3=>repeat' first | exact trivial | exact fun v u u' h hr=>h.step hr | exact fun v u u' h _=>h | refine ⟨?_,?_⟩
  case steps3 =>
   refine ⟨?_,?_,?_,?_,?_,?_,?_,?_,?_,?_,?_,?_,?a3,?_,?_,?_,?b3,?_,?c3,trivial⟩
   case a3 =>
    intro ρ u hp hJ hr;have r1:ρ _=(.slice A s.wait.length cap):=hr.1;have r2:ρ _=.agg #[.bool s.turn.write,.int .i64 s.turn.gone,.int .i64 s.turn.starved,.int .i64 s.turn.wh]:=hr.2.1;have r3:ρ _=.int .i64 s.now:=hr.2.2.1;clear hr;refine gives_enter (f:=62) (args:=#[(.slice A s.wait.length cap),.agg #[.bool s.turn.write,.int .i64 s.turn.gone,.int .i64 s.turn.starved,.int .i64 s.turn.wh],.int .i64 s.now]) (w':=u) ?_ ((Hcall.out u hJ).mono ?_)
    ·have hpf:=hp.func 62
     go_simp
    rintro e u' ⟨rfl,hb⟩;exact ⟨_,rfl,rfl,hJ.trans (hb.mono hJ.size),BR.below hb,fun h=>absurd h (by decide)⟩
   case b3 =>
    intro ρ u hp hJ hr;clear hr;refine gives_value (v:=.pointer (some ⟨u.heap.size,0,none⟩)) (w':=u.alloc (.cells #[.bool false,.int .i64 0,.int .i64 0,.int .i64 0] 68)) ?_ ⟨⟨_,rfl,hJ.size,⟨_,by rw [hFB]; rfl,heap_alloc_new _ _⟩⟩,hJ.trans (((Below.refl _ _).alloc (Nat.le_refl _) _).mono hJ.size),BR.below ((Below.refl _ _).alloc (Nat.le_refl _) _),fun h=>absurd h (by decide)⟩;go_simp
   case c3 =>
    intro ρ u hp hJ hr;obtain ⟨bb,y0,y1,y2,y3,e1,z0,z1,z2,z3,f0,g1,g2,g3⟩:=bx_store hr.1 hFB;have r2:ρ _=.agg #[.bool t'.write,.int .i64 t'.gone,.int .i64 t'.starved,.int .i64 t'.wh]:=hr.2.1;clear hr;refine gives_skip (w':=_) ?_ ⟨trivial,hJ.trans g3,g1,BxE.at e1 rfl g2⟩;clear g1 g2 g3;go_simp
   all_goals
    intro ρ u hp hJ hr;have r1:ρ _=_:=hr.1;clear hr;have d3:=cell_b hJ c3;have d4:=cell_b hJ c4;have d5:=cell_b hJ c5;have d6:=cell_b hJ c6;have d7:=cell_b hJ c7;have d8:=cell_b hJ c8;refine gives_value (v:=_) (w':=u) ?_ ⟨rfl,hJ,BR.refl _,fun h=>absurd h (by decide)⟩;go_simp
  case fin3 =>
   intro f u hF hJ hU hE;have f4:BxF 68 FB w.heap.size (f 4) u:=hF.2.2.2.2.2.2.2.2.2.2.2.2.2.2.2.2.1;have f3:f 3=.int .i64 (j:Int):=hF.2.2.2.2.2.2.2.2.2.2.2.2.2.2.2.2.2.1;obtain ⟨bb,e4,hbb,hbz⟩:=f4;have hbx:u.heap[bb]?=some (.cells FB 68 (0,0)):=hE 18 _ rfl rfl bb (by rw [argsOf_store rfl,e4]; rfl);clear hF hU hE c3 c4 c5 c6 c7 c8 Hcall;rw [hFB] at hbx;clear hbz hFB FB;have H3:=Lib.hid (H.out.below hJ);have Hbx:=Lib.hid hbx;have HJ:=Lib.hid hJ;have hbne:bb≠b:=by have:=H.out.bl; omega
   simp only [laid];rw [f3,e4];have hjl:(j:Int)<(s.wait.length:Int):=by have:=Hx.out.lt; omega
   have hj0:¬ (j:Int)<0:=by omega
   obtain ⟨q,off,rfl,_,_,hc⟩:=(Hw0.out.below hJ).at_ (by have:=Hx.out.lt; omega);obtain ⟨Ad,cd,At,ct,hrq,k0,k1,k2,k3,k4,k5⟩:=hc j r Hx.out.get;have Hrq:=Lib.hid hrq;have c3:u.cell? ⟨b,3,none⟩=some (.slice (some ⟨q,off,none⟩) s.wait.length cap):=(H3.out.cell 3).trans (congrArg some Hwv.out);have c3a:∀ o,(u.alloc o).cell? ⟨b,3,none⟩=some (.slice (some ⟨q,off,none⟩) s.wait.length cap):=fun o=>(World.cell?_alloc_lt _ _ _ H3.out.bl).trans c3
   clear hc hrq hJ hbx hbb f3 e4;go_wp2_with fail;clear c3a c3
   obtain ⟨b6,hb6⟩:∃ n,u.heap.size=n:=⟨_,rfl⟩
   have Hc6:Hid (col b6=0):=H3.out.s0 b6 (by omega);have hbA:=(Below.refl u.heap.size u).alloc (Nat.le_refl _) (.cells #[.bool r.write,.int .i64 r.lo,.int .i64 r.many,.slice Ad r.data.length cd,.slice At r.tags.length ct,.int .i64 r.born] 117);have hx6:(u.alloc (.cells #[.bool r.write,.int .i64 r.lo,.int .i64 r.many,.slice Ad r.data.length cd,.slice At r.tags.length ct,.int .i64 r.born] 117)).heap[b6]?=some (.cells #[.bool r.write,.int .i64 r.lo,.int .i64 r.many,.slice Ad r.data.length cd,.slice At r.tags.length ct,.int .i64 r.born] 117 (0,0)):=hb6▸heap_alloc_new u _;have hlt6:b6<(u.alloc (.cells #[.bool r.write,.int .i64 r.lo,.int .i64 r.many,.slice Ad r.data.length cd,.slice At r.tags.length ct,.int .i64 r.born] 117)).heap.size:=by simp; omega
   have hb6ne:b6≠b:=by have:=H3.out.bl; omega
   rw [hb6];have HBA:=Lib.hid hbA;have Hx6:=Lib.hid hx6;have Hl6:=Lib.hid hlt6;clear hbA hx6 hlt6 hb6 k0 k1 k2 k3 k4 k5;generalize u.alloc _=w5 at HBA Hx6 Hl6 ⊢;have H5:=Lib.hid (H3.out.below HBA.out);have Hbx5:=Lib.hid ((HBA.out.block _ (Array.getElem?_eq_some_iff.1 Hbx.out).1).trans Hbx.out);refine (rwithout_st (S:=S0 col) (k:=j) ((Hwv.out▸H5.out.wait:ReqsAt (Im w5 col) w5 _ s.wait).more (fun k hk=>hk.2)) H5.out.s0 Hx.out.lt (by have:=HI.out.wait6; omega)).mono ?_;rintro e w6 ⟨v6,rfl,hW6,hB6⟩;have hW6:ReqsAt (S0 col) w6 v6 (s.wait.eraseIdx j):=hW6.more (fun k hk=>hk.elim id (H5.out.s0 k));obtain ⟨A6,cap6,hv6,_,_⟩:=hW6.form;subst hv6;have HW6:=Lib.hid hW6;have H6:=Lib.hid (H5.out.below hB6);have HB06:Hid (Below w.heap.size w w6):=show Below _ _ _ from HJ.out.trans ((HBA.out.trans (hB6.mono HBA.out.size)).mono HJ.out.size);have hbx6:=(hB6.block _ (Array.getElem?_eq_some_iff.1 Hbx5.out).1).trans Hbx5.out;have Hy6:=Lib.hid ((hB6.block _ Hl6.out).trans Hx6.out);have Hrq6:Hid (ReqAt (S0 col) w6 (.agg #[.bool r.write,.int .i64 r.lo,.int .i64 r.many,.slice Ad r.data.length cd,.slice At r.tags.length ct,.int .i64 r.born]) r):=show ReqAt _ _ _ _ from (((Hrq.out.below HBA.out).below hB6).more (fun k hk=>hk.2));have Hs6:Hid (w5.heap.size≤w6.heap.size):=hB6.size;have c3:w6.cell? ⟨b,3,none⟩=some (.slice (some ⟨q,off,none⟩) s.wait.length cap):=(H6.out.cell 3).trans (congrArg some Hwv.out);have c4:w6.cell? ⟨b,4,none⟩=some (.bool s.turn.write):=H6.out.cell 4;have c5:w6.cell? ⟨b,5,none⟩=some (.int .i64 s.turn.gone):=H6.out.cell 5;have c6:w6.cell? ⟨b,6,none⟩=some (.int .i64 s.turn.starved):=H6.out.cell 6;have c7:w6.cell? ⟨b,7,none⟩=some (.int .i64 s.turn.wh):=H6.out.cell 7;have hfr:=fun k=>H6.out.frozen k
   have d0:w6.cell? ⟨bb,0,none⟩=some (.bool t'.write):=cell_of_row _ _ 0 _ _ _ hbx6;have d1:w6.cell? ⟨bb,1,none⟩=some (.int .i64 t'.gone):=cell_of_row _ _ 1 _ _ _ hbx6;have d2:w6.cell? ⟨bb,2,none⟩=some (.int .i64 t'.starved):=cell_of_row _ _ 2 _ _ _ hbx6;have d3:w6.cell? ⟨bb,3,none⟩=some (.int .i64 t'.wh):=cell_of_row _ _ 3 _ _ _ hbx6;clear hW6 hB6 hbx6;go_wp2_with fail;have hS7:=(((((Same1.refl (b:=b) (w:=w6)).setCell 3 (.slice A6 (s.wait.eraseIdx j).length cap6)).setCell 4 (.bool t'.write)).setCell 5 (.int .i64 t'.gone)).setCell 6 (.int .i64 t'.starved)).setCell 7 (.int .i64 t'.wh);have H7:=Lib.hid (H6.out.taken hS7 HW6.out (t:=t') (heap_setCell_same _ _ 7 _ _ _ (heap_setCell_same _ _ 6 _ _ _ (heap_setCell_same _ _ 5 _ _ _ (heap_setCell_same _ _ 4 _ _ _ (heap_setCell_same _ _ 3 _ _ _ H6.out.row))))));have HS7:=Lib.hid hS7;clear hS7 c3 c4 c5 c6 c7 hfr d0 d1 d2 d3;generalize World.setCell _ _ _=w7 at H7 HS7 ⊢;have H8:=Lib.hid (H7.out.below (Below.refl _ _).drew);have Hb8:Hid (w7.drew.heap[b6]?=_):=show _=_ from (HS7.out.block b6 hb6ne).trans Hy6.out
   have Hrq8:Hid (ReqAt (Im w7.drew col) w7.drew (.agg #[.bool r.write,.int .i64 r.lo,.int .i64 r.many,.slice Ad r.data.length cd,.slice At r.tags.length ct,.int .i64 r.born]) r):=show ReqAt _ _ _ _ from
    ((Hrq6.out.lt.keep (fun k hk _=>HS7.out.block k (fun e=>by have h1:col k=0:=hk.1; rw [e,H6.out.cb] at h1; cases h1))).below (Below.refl _ _).drew).more (fun k hk=>⟨by
     have h2:=hk.2;show k<w7.heap.size
     rw [HS7.out.size]; exact h2,hk.1⟩)
   have Hfl:Hid (∀ k,Fd col k→k<w7.drew.heap.size):=fun k (hk:col k=4)=>H8.out.lt k (by omega)
   have Him:Hid (∀ k,Im w7.drew col k→¬ Fd col k):=StAt.imfd;have hst:s.v.d.start r=({ s.v.d with l:=s.v.d.l ++ [r] },0):=by unfold Dv.start; rw [if_neg (by have:=H2.out; omega)]
   have Hcl:Hid (Calls Tryz.prog 64 #[.pointer (some ⟨bd,0,none⟩),.agg #[.bool r.write,.int .i64 r.lo,.int .i64 r.many,.slice Ad r.data.length cd,.slice At r.tags.length ct,.int .i64 r.born]] w7.drew (RetDev TDr TPr (Im w7.drew col) (Fd col) w7.drew bd { s.v.d with l:=s.v.d.l ++ [r] } (.int .i64 0))):=show Calls _ _ _ _ _ from by
    have:=rdevstart_any (Im w7.drew col) (Fd col) w7.drew bd s.v.d r _ H8.out.drv.dev Hrq8.out Hfl.out Him.out HI.out.dv.two;rw [hst] at this;exact this
   clear hst
   have K0:w7.drew.cell? ⟨b,0,none⟩=some (.pointer (some ⟨bd,0,none⟩))∧w7.drew.cell? ⟨b6,0,none⟩=some (.bool r.write)∧w7.drew.cell? ⟨b6,1,none⟩=some (.int .i64 r.lo)∧w7.drew.cell? ⟨b6,2,none⟩=some (.int .i64 r.many)∧w7.drew.cell? ⟨b6,3,none⟩=some (.slice Ad r.data.length cd)∧w7.drew.cell? ⟨b6,4,none⟩=some (.slice At r.tags.length ct)∧w7.drew.cell? ⟨b6,5,none⟩=some (.int .i64 r.born):=⟨H8.out.cell 0,cell_of_row _ _ 0 _ _ _ Hb8.out,cell_of_row _ _ 1 _ _ _ Hb8.out,cell_of_row _ _ 2 _ _ _ Hb8.out,cell_of_row _ _ 3 _ _ _ Hb8.out,cell_of_row _ _ 4 _ _ _ Hb8.out,cell_of_row _ _ 5 _ _ _ Hb8.out⟩
   go_region_held3 (fun q=>q.cell? ⟨b,0,none⟩=some (.pointer (some ⟨bd,0,none⟩))∧q.cell? ⟨b6,0,none⟩=some (.bool r.write)∧q.cell? ⟨b6,1,none⟩=some (.int .i64 r.lo)∧q.cell? ⟨b6,2,none⟩=some (.int .i64 r.many)∧q.cell? ⟨b6,3,none⟩=some (.slice Ad r.data.length cd)∧q.cell? ⟨b6,4,none⟩=some (.slice At r.tags.length ct)∧q.cell? ⟨b6,5,none⟩=some (.int .i64 r.born))
    (first | exact K1 | exact K0)
    (first
     |((with_reducible refine Hcl.out.mono ?_); rintro e u1 ⟨rfl,hp1,hc1⟩; have HP1:=Lib.hid hp1; have HC1:=Lib.hid hc1; have K1:u1.cell? ⟨b,0,none⟩=some (.pointer (some ⟨bd,0,none⟩))∧u1.cell? ⟨b6,0,none⟩=some (.bool r.write)∧u1.cell? ⟨b6,1,none⟩=some (.int .i64 r.lo)∧u1.cell? ⟨b6,2,none⟩=some (.int .i64 r.many)∧u1.cell? ⟨b6,3,none⟩=some (.slice Ad r.data.length cd)∧u1.cell? ⟨b6,4,none⟩=some (.slice At r.tags.length ct)∧u1.cell? ⟨b6,5,none⟩=some (.int .i64 r.born):=⟨(World.cell?_of_block (hc1.block b H8.out.bl (fun hf=>by have h1:col b=4:=hf; rw [H8.out.cb] at h1; cases h1))).trans K0.1,(by have hbb:=(hc1.block b6 (Array.getElem?_eq_some_iff.1 Hb8.out).1 (fun hf=>by have h1:col b6=4:=hf; rw [Hc6.out] at h1; cases h1)).trans Hb8.out; exact ⟨cell_of_row _ _ 0 _ _ _ hbb,cell_of_row _ _ 1 _ _ _ hbb,cell_of_row _ _ 2 _ _ _ hbb,cell_of_row _ _ 3 _ _ _ hbb,cell_of_row _ _ 4 _ _ _ hbb,cell_of_row _ _ 5 _ _ _ hbb⟩)⟩; clear hp1 hc1)
     |fail)
   all_goals
    clear K0 K1;try go_wp2_with fail
    go_ret;obtain ⟨col',hst',hrec,_⟩:=H8.out.drvd (H8.out.devg HP1.out HC1.out) (HC1.out.mono (fun k hk=>.inl hk)) (fun k hk=>hk) (fun k hk=>.inl hk) (fun k hk hg=>hg.elim (Him.out k hk) (fun h2=>by have h3:=hk.1; omega)) H8.out.n;rw [Hde.out];have HC07:Chg (Fl col) w w7.drew:=((Chg.of_below HB06.out).two (H6.out.chg1 (HS7.out.chg (F:=fun k=>k=b) rfl))).drew;exact ⟨col',_,rfl,hst',HC07.two (HC1.out.mono Fl.of_d),Rec.refl.trans hrec HC07.size⟩
end Go.Proofs.YtagndjihiklmiaaGreatDoor
namespace Go.Proofs.YtagndjihiklmiaaGreatDoor
open Go.RowKit
theorem rquiet_any (col:Nat→Nat) (w:World) (b bd N:Nat) (x:Sv) (s:St) (h:StAt Tr col w b bd N x s) :
  Calls Tryz.prog 70 #[.pointer (some ⟨b,0,none⟩)] w (Ret (.bool s.quiet) w):=by
 obtain ⟨p0,e0,n0,q0⟩:=h.ptr 0 (by omega);obtain ⟨p1,e1,n1,q1⟩:=h.ptr 1 (by omega);obtain ⟨p2,e2,n2,q2⟩:=h.ptr 2 (by omega);obtain ⟨Aw,cw,hxw,_,_⟩:=h.wait.form;obtain ⟨_,hk32,hn32,wv,lv,ds,hrowd,_,hld,hds,_⟩:=h.drv.dev;obtain ⟨Ad,cd,hlv,_,_⟩:=hld.form;subst hlv;have hdl:ds.length=s.v.d.l.length:=by rw [← hds,List.length_map]
 have c0:w.cell? ⟨b,0,none⟩=some (.pointer (some ⟨bd,0,none⟩)):=h.cell 0;have c3:w.cell? ⟨b,3,none⟩=some (.slice Aw s.wait.length cw):=(h.cell 3).trans (by rw [← hxw]; rfl);have c11:w.cell? ⟨b,11,none⟩=some (.pointer p0):=(h.cell 11).trans (by rw [← e0]; rfl);have c12:w.cell? ⟨b,12,none⟩=some (.pointer p1):=(h.cell 12).trans (by rw [← e1]; rfl);have c13:w.cell? ⟨b,13,none⟩=some (.pointer p2):=(h.cell 13).trans (by rw [← e2]; rfl);have c65:w.cell? ⟨bd,65,none⟩=some (.slice Ad s.v.d.l.length cd):=by rw [← hdl,cell_of_row _ _ _ _ _ _ hrowd]; simpa using devCells_at_l s.v.d wv _ hk32 hn32
 have HQ:=Lib.hid (quiet_iff h.asks);have Q0:=Lib.hid q0;have Q1:=Lib.hid q1;have Q2:=Lib.hid q2;clear h e0 e1 e2 q0 q1 q2 hxw hrowd hld hds hdl hk32 hn32
 have hno:∀ c,c<3→(∃ a,s.askAt c=some a)→s.quiet=false:=fun c hc ⟨a,ha⟩=>by
  rw [Bool.eq_false_iff];intro hq;rw [(HQ.out.1 hq).1 c hc] at ha
  cases ha
 have Hno:=Lib.hid hno;clear hno
 cases ho0:s.askAt 0 with
 |some a =>
  obtain ⟨ba,rfl⟩:=Q0.out a ho0;have HE:=Lib.hid (Hno.out 0 (by omega) ⟨a,ho0⟩);clear ho0 n0 n1 n2;go_enter Tryz.func70,Tryz.ntmps70;go_wp2_with fail;go_ret;rw [HE.out];exact ⟨rfl,Below.refl _ _⟩
 |none =>
  obtain rfl:=n0 ho0;have Ho0:=Lib.hid ho0;clear ho0 n0
  cases ho1:s.askAt 1 with
  |some a =>
   obtain ⟨ba,rfl⟩:=Q1.out a ho1;have HE:=Lib.hid (Hno.out 1 (by omega) ⟨a,ho1⟩);clear ho1 n1 n2;go_enter Tryz.func70,Tryz.ntmps70;go_wp2_with fail;go_ret;rw [HE.out];exact ⟨rfl,Below.refl _ _⟩
  |none =>
   obtain rfl:=n1 ho1;have Ho1:=Lib.hid ho1;clear ho1 n1
   cases ho2:s.askAt 2 with
   |some a =>
    obtain ⟨ba,rfl⟩:=Q2.out a ho2;have HE:=Lib.hid (Hno.out 2 (by omega) ⟨a,ho2⟩);clear ho2 n2;go_enter Tryz.func70,Tryz.ntmps70;go_wp2_with fail;go_ret;rw [HE.out];exact ⟨rfl,Below.refl _ _⟩
   |none =>
    obtain rfl:=n2 ho2;have Ho2:=Lib.hid ho2;clear ho2 n2;by_cases hw:s.wait=[]
    ·have hl0:s.wait.length=0:=by rw [hw]; rfl
     rw [hl0] at c3;have Hw:=Lib.hid hw;clear hw hl0;by_cases hd:s.v.d.l=[]
     ·have hl0:s.v.d.l.length=0:=by rw [hd]; rfl
      rw [hl0] at c65
      have HE:Hid (s.quiet=true):=show _=_ from HQ.out.2 ⟨fun c hc=>by
       match c,hc with
       |0,_=>exact Ho0.out
       |1,_=>exact Ho1.out
       |2,_=>exact Ho2.out,Hw.out,hd⟩
      clear hd hl0;go_enter Tryz.func70,Tryz.ntmps70;go_wp2_with fail;go_ret;rw [HE.out];exact ⟨rfl,Below.refl _ _⟩
     ·have hl1:(((s.v.d.l.length:Nat):Int) == 0)=false:=by simp only [beq_eq_false_iff_ne]; have:=List.length_pos_iff.2 hd; omega
      have HE:Hid (s.quiet=false):=show _=_ by
       rw [Bool.eq_false_iff]; exact fun hq=>hd (HQ.out.1 hq).2.2
      clear hd;generalize s.v.d.l.length=n at *;go_enter Tryz.func70,Tryz.ntmps70;go_wp2_with fail;go_ret;rw [HE.out];exact ⟨rfl,Below.refl _ _⟩
    ·have hl1:(((s.wait.length:Nat):Int) == 0)=false:=by simp only [beq_eq_false_iff_ne]; have:=List.length_pos_iff.2 hw; omega
     have HE:Hid (s.quiet=false):=show _=_ by
      rw [Bool.eq_false_iff]; exact fun hq=>hw (HQ.out.1 hq).2.1
     clear hw;generalize s.wait.length=n at *;go_enter Tryz.func70,Tryz.ntmps70;go_wp2_with fail;go_ret;rw [HE.out];exact ⟨rfl,Below.refl _ _⟩
end Go.Proofs.YtagndjihiklmiaaGreatDoor
