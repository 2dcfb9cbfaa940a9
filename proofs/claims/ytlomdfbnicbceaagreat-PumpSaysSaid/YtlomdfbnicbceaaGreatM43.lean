/- The reference's Next, where a turn begins. -/
import Derived.Test.YtlomdfbnicbceaaGreatM42
set_option linter.unusedSimpArgs false
set_option linter.unusedVariables false
set_option maxRecDepth 100000
set_option maxHeartbeats 8000000
namespace Go.Proofs.YtlomdfbnicbceaaGreat
open Go.RowKit Go.Sort
theorem rnext_new (S:Nat→Prop) (l:List Rq) (v:Value) (t:Tn) (now:Int) (w:World) (h:ReqsAt S w v l) (hg:goodReqs l=true) (hne:l≠[]) (hst:i64 t.starved) (hn1:0≤now) (hn2:now≤1000000000) (hnew:¬ (0<t.gone∧t.gone<3∧0≤fromI l t.write t.wh))
  (hgg:((t.gone == 1)=false∧(t.gone == 2)=false)∨((t.gone == 1)=true∧fromI l t.write t.wh<0)∨((t.gone == 1)=false∧(t.gone == 2)=true∧fromI l t.write t.wh<0)) :
  Calls Tryz.prog 56 #[v,tnV t,.int .i64 now] w (Ret (nextV l t now) w):=by
 have H:=Lib.hid h
 obtain ⟨A,cap,rfl,h1,h2⟩:=h.form
 unfold maxLen at h2
 clear h
 obtain ⟨z1,z2⟩:=hst
 have EV0:Hid (nextV l t now=.tuple #[.int .i64 (pickM l (turnedM l t) now),tnV { turnedM l t with gone:=1,wh:=endOf l (pickM l (turnedM l t) now) }]):=by show _=_; unfold nextV; rw [nextM_new hnew]
 clear hnew
 rcases hgg with ⟨g1,g2⟩ | ⟨g1,q3⟩ | ⟨g1,g2,q3⟩
 all_goals
  go_enter Tryz.func56,Tryz.ntmps56
  go_wp2_with fail
  have hT:=Box2.start w t
  generalize ((w.alloc (Obj.cells #[Value.bool t.write,Value.int IntKind.i64 t.gone,Value.int IntKind.i64 t.starved,Value.int IntKind.i64 t.wh] 54)).alloc
   (Obj.cells #[Value.bool false,Value.int IntKind.i64 0,Value.int IntKind.i64 0,Value.int IntKind.i64 0] 54))=W at hT ⊢
 rotate_left 1
 refine (rfrom_any S l _ t.write t.wh _ (H.out.below hT.below)).mono ?_
 rintro e w0 ⟨rfl,hb0⟩
 have hT0:=hT.step hb0
 clear hT hb0
 have hT:=hT0
 clear hT0
 have c0:=hT.c 0
 have c1:=hT.c 1
 have c2:=hT.c 2
 have c3:=hT.c 3
 simp [tnCells,zeroTn] at c0 c1 c2 c3
 go_wp2_with fail
 clear c0 c1 c2 c3
 rotate_left 1
 refine (rfrom_any S l _ t.write t.wh _ (H.out.below hT.below)).mono ?_
 rintro e w0 ⟨rfl,hb0⟩
 have hT0:=hT.step hb0
 clear hT hb0
 have hT:=hT0
 clear hT0
 have c0:=hT.c 0
 have c1:=hT.c 1
 have c2:=hT.c 2
 have c3:=hT.c 3
 simp [tnCells,zeroTn] at c0 c1 c2 c3
 go_wp2_with fail
 clear c0 c1 c2 c3
 all_goals
  refine (roldest_any S l _ false _ (H.out.below (hT.below))).mono ?_
  rintro e w1 ⟨rfl,hb1⟩
  have hT1:=hT.step hb1
  clear hT hb1
  go_wp2_with fail
  refine (roldest_any S l _ true _ (H.out.below (hT1.below))).mono ?_
  rintro e w2 ⟨rfl,hb2⟩
  have hT2:=hT1.step hb2
  clear hT1 hb2
  have c0:=hT2.c 0
  have c1:=hT2.c 1
  have c2:=hT2.c 2
  have c3:=hT2.c 3
  have f0:=hT2.fc 0
  have f1:=hT2.fc 1
  have f2:=hT2.fc 2
  have f3:=hT2.fc 3
  have d0:=hT2.d 0
  have d1:=hT2.d 1
  have d2:=hT2.d 2
  have d3:=hT2.d 3
  have e0:=hT2.fd 0
  have e1:=hT2.fd 1
  have e2:=hT2.fd 2
  have e3:=hT2.fd 3
  simp [tnCells,zeroTn] at c0 c1 c2 c3 d0 d1 d2 d3
  by_cases q1:0≤oldest l false
  ·by_cases q2:0≤oldest l true
   ·by_cases q4:2≤t.starved
    ·have hold:=q2
     have ht:turnedM l t=⟨true,0,0,t.wh⟩:=by unfold turnedM; rw [if_neg (by simp [q2]),if_pos ⟨q2,.inr q4⟩]
     go_wp2_with fail
     have hT3:Box2 w.heap.size w ((w2.setCell ⟨w.heap.size,0,none⟩ (.bool true)).setCell ⟨w.heap.size,2,none⟩ (.int .i64 0)) (tnCells ⟨true,t.gone,0,t.wh⟩) zeroTn:=((hT2.set 0 (.bool true)).set 2 (.int .i64 0))
     clear c0 c1 c2 c3 d0 d1 d2 d3 f0 f1 f2 f3 e0 e1 e2 e3
     generalize ((w2.setCell ⟨w.heap.size,0,none⟩ (.bool true)).setCell ⟨w.heap.size,2,none⟩ (.int .i64 0))=w3 at hT3 ⊢
     clear hT2
     refine (roldest_any S l _ true _ (H.out.below hT3.below)).mono ?_
     rintro e w4 ⟨rfl,hb4⟩
     have hT4:=hT3.step hb4
     clear hT3 hb4
     have c0:=hT4.c 0
     have c1:=hT4.c 1
     have c2:=hT4.c 2
     have c3:=hT4.c 3
     have f0:=hT4.fc 0
     have f1:=hT4.fc 1
     have f2:=hT4.fc 2
     have f3:=hT4.fc 3
     have d0:=hT4.d 0
     have d1:=hT4.d 1
     have d2:=hT4.d 2
     have d3:=hT4.d 3
     have e0:=hT4.fd 0
     have e1:=hT4.fd 1
     have e2:=hT4.fd 2
     have e3:=hT4.fd 3
     simp [tnCells,zeroTn] at c0 c1 c2 c3 d0 d1 d2 d3
     obtain ⟨o,ro,ho,hro,how,hol⟩:=oldest_ok hold
     have hpick:pickM l ⟨true,0,0,t.wh⟩ now=if expB ro now then oldest l true else if fromI l true t.wh<0 then fromI l true 0 else fromI l true t.wh:=by
      unfold pickM
      simp only
      rw [ho,Int.toNat_natCast,List.getD_eq_getElem?_getD,hro]; rfl
     rw [ho] at hpick ⊢
     have hbo:=(good_mem hg hro).born
     have b1:=hbo.1
     have b2:=hbo.2
     have Hro:=Lib.hid hro
     have How:=Lib.hid how
     have Ho:=Lib.hid ho
     have Ht:=Lib.hid ht
     clear hbo hro how ho hold ht
     obtain ⟨b,off,rfl,_,hbl,hc⟩:=(H.out.below hT4.below).at_ (by omega)
     have hbB:b<w.heap.size:=by
      obtain ⟨b',off',e,_,hb',_⟩:=H.out.at_ (by omega)
      cases e; exact hb'
     obtain ⟨_,_,_,_,_,_,_,_,_,_,k5⟩:=hc o ro Hro.out
     clear hc
     have hoi:(o:Int)<(l.length:Int):=by omega
     have hex:expB ro now=decide (8≤now - ro.born):=by unfold expB; rw [How.out]; rfl
     by_cases hexp:8≤now - ro.born
     ·rw [hex,decide_eq_true hexp,if_pos rfl] at hpick
      have ev:=EV0.out
      rw [Ht.out,hpick,endOf_at Hro.out] at ev
      have EV:=Lib.hid ev
      clear ev hpick hex
      go_wp2_with fail
      clear k5 hbl
      clear c0 c1 c2 c3 d0 d1 d2 d3 f0 f1 f2 f3 e0 e1 e2 e3
      obtain ⟨j,hj⟩:∃ j,j=o:=⟨_,rfl⟩
      subst hj
      obtain ⟨r,hr⟩:∃ r,r=ro:=⟨_,rfl⟩
      subst hr
      have Hr:=Hro
      obtain ⟨s1,s2,s3,s4,s5⟩:=(good_mem hg Hr.out).span
      obtain ⟨b',off',e,_,hbl,hc⟩:=(H.out.below hT4.below).at_ (by omega)
      cases e
      obtain ⟨_,_,_,_,_,_,k1,k2,_,_,_⟩:=hc j r Hr.out
      clear hc
      have hji:(j:Int)<(l.length:Int):=by omega
      have hs:IntKind.i64.wrap (r.lo+r.many)=r.lo+r.many:=IntWalk.i64_in _ (by omega)
      have c0:=hT4.c 0
      have c1:=hT4.c 1
      have c2:=hT4.c 2
      have c3:=hT4.c 3
      have f0:=hT4.fc 0
      have f1:=hT4.fc 1
      have f2:=hT4.fc 2
      have f3:=hT4.fc 3
      have d0:=hT4.d 0
      have d1:=hT4.d 1
      have d2:=hT4.d 2
      have d3:=hT4.d 3
      have e0:=hT4.fd 0
      have e1:=hT4.fd 1
      have e2:=hT4.fd 2
      have e3:=hT4.fd 3
      simp [tnCells,zeroTn] at c0 c1 c2 c3 d0 d1 d2 d3
      go_wp2_with fail
      go_region
      go_wp2_with fail
      go_region
      go_wp2
      rw [EV.out]
      refine bodyPost_ret (v:=.tuple #[_,tnV _]) (by simp [results,Tryz.results56,go_sem,d0,d1,d2,d3,e0,e1,e2,e3,c0,c1,c2,c3,f0,f1,f2,f3]) rfl ⟨rfl,?_⟩
      repeat (first | (with_reducible refine Below.drew ?_) | ((with_reducible refine Below.setCell ?_ ?hp _); case hp=>simp))
      exact hT4.below
     ·rw [hex,decide_eq_false hexp] at hpick
      have Hpick:=Lib.hid hpick
      clear hpick hex
      go_wp2_with fail
      refine (rfrom_any S l _ true t.wh _ (H.out.below hT4.below)).mono ?_
      rintro e w5 ⟨rfl,hb5⟩
      have hT5:=hT4.step hb5
      clear hT4 hb5
      clear c0 c1 c2 c3 d0 d1 d2 d3 f0 f1 f2 f3 e0 e1 e2 e3
      have c0:=hT5.c 0
      have c1:=hT5.c 1
      have c2:=hT5.c 2
      have c3:=hT5.c 3
      have f0:=hT5.fc 0
      have f1:=hT5.fc 1
      have f2:=hT5.fc 2
      have f3:=hT5.fc 3
      have d0:=hT5.d 0
      have d1:=hT5.d 1
      have d2:=hT5.d 2
      have d3:=hT5.d 3
      have e0:=hT5.fd 0
      have e1:=hT5.fd 1
      have e2:=hT5.fd 2
      have e3:=hT5.fd 3
      simp [tnCells,zeroTn] at c0 c1 c2 c3 d0 d1 d2 d3
      by_cases hf:fromI l true t.wh<0
      ·have h0:0≤fromI l true 0:=fromI_some Hro.out How.out (good_mem hg Hro.out).span.1
       obtain ⟨j,r,hj,hr,_,_,hjl⟩:=fromI_ok h0
       have e1:pickM l ⟨true,0,0,t.wh⟩ now=j:=by rw [Hpick.out,if_neg (by simp),if_pos hf,hj]
       have ev:=EV0.out
       rw [Ht.out,e1,endOf_at hr] at ev
       have EV:=Lib.hid ev
       have Hr:=Lib.hid hr
       have Hj:=Lib.hid hj
       clear ev Hpick hj hr h0 e1
       go_wp2_with fail
       refine (rfrom_any S l _ true 0 _ (H.out.below hT5.below)).mono ?_
       rintro e w6 ⟨rfl,hb6⟩
       have hT6:=hT5.step hb6
       clear hT5 hb6 hf
       rw [Hj.out]
       clear c0 c1 c2 c3 d0 d1 d2 d3 f0 f1 f2 f3 e0 e1 e2 e3
       obtain ⟨s1,s2,s3,s4,s5⟩:=(good_mem hg Hr.out).span
       obtain ⟨b',off',e,_,hbl,hc⟩:=(H.out.below hT6.below).at_ (by omega)
       cases e
       obtain ⟨_,_,_,_,_,_,k1,k2,_,_,_⟩:=hc j r Hr.out
       clear hc
       have hji:(j:Int)<(l.length:Int):=by omega
       have hs:IntKind.i64.wrap (r.lo+r.many)=r.lo+r.many:=IntWalk.i64_in _ (by omega)
       have c0:=hT6.c 0
       have c1:=hT6.c 1
       have c2:=hT6.c 2
       have c3:=hT6.c 3
       have f0:=hT6.fc 0
       have f1:=hT6.fc 1
       have f2:=hT6.fc 2
       have f3:=hT6.fc 3
       have d0:=hT6.d 0
       have d1:=hT6.d 1
       have d2:=hT6.d 2
       have d3:=hT6.d 3
       have e0:=hT6.fd 0
       have e1:=hT6.fd 1
       have e2:=hT6.fd 2
       have e3:=hT6.fd 3
       simp [tnCells,zeroTn] at c0 c1 c2 c3 d0 d1 d2 d3
       go_wp2_with fail
       go_region
       go_wp2_with fail
       go_region
       go_wp2
       rw [EV.out]
       refine bodyPost_ret (v:=.tuple #[_,tnV _]) (by simp [results,Tryz.results56,go_sem,d0,d1,d2,d3,e0,e1,e2,e3,c0,c1,c2,c3,f0,f1,f2,f3]) rfl ⟨rfl,?_⟩
       repeat (first | (with_reducible refine Below.drew ?_) | ((with_reducible refine Below.setCell ?_ ?hp _); case hp=>simp))
       exact hT6.below
      ·obtain ⟨j,r,hj,hr,_,_,hjl⟩:=fromI_ok (Int.not_lt.1 hf)
       have e1:pickM l ⟨true,0,0,t.wh⟩ now=j:=by rw [Hpick.out,if_neg (by simp),if_neg hf,hj]
       have ev:=EV0.out
       rw [Ht.out,e1,endOf_at hr] at ev
       have EV:=Lib.hid ev
       have Hr:=Lib.hid hr
       rw [hj]
       clear ev Hpick hj hr e1 hf
       clear c0 c1 c2 c3 d0 d1 d2 d3 f0 f1 f2 f3 e0 e1 e2 e3
       obtain ⟨s1,s2,s3,s4,s5⟩:=(good_mem hg Hr.out).span
       obtain ⟨b',off',e,_,hbl,hc⟩:=(H.out.below hT5.below).at_ (by omega)
       cases e
       obtain ⟨_,_,_,_,_,_,k1,k2,_,_,_⟩:=hc j r Hr.out
       clear hc
       have hji:(j:Int)<(l.length:Int):=by omega
       have hs:IntKind.i64.wrap (r.lo+r.many)=r.lo+r.many:=IntWalk.i64_in _ (by omega)
       have c0:=hT5.c 0
       have c1:=hT5.c 1
       have c2:=hT5.c 2
       have c3:=hT5.c 3
       have f0:=hT5.fc 0
       have f1:=hT5.fc 1
       have f2:=hT5.fc 2
       have f3:=hT5.fc 3
       have d0:=hT5.d 0
       have d1:=hT5.d 1
       have d2:=hT5.d 2
       have d3:=hT5.d 3
       have e0:=hT5.fd 0
       have e1:=hT5.fd 1
       have e2:=hT5.fd 2
       have e3:=hT5.fd 3
       simp [tnCells,zeroTn] at c0 c1 c2 c3 d0 d1 d2 d3
       go_wp2_with fail
       go_region
       go_wp2_with fail
       go_region
       go_wp2
       rw [EV.out]
       refine bodyPost_ret (v:=.tuple #[_,tnV _]) (by simp [results,Tryz.results56,go_sem,d0,d1,d2,d3,e0,e1,e2,e3,c0,c1,c2,c3,f0,f1,f2,f3]) rfl ⟨rfl,?_⟩
       repeat (first | (with_reducible refine Below.drew ?_) | ((with_reducible refine Below.setCell ?_ ?hp _); case hp=>simp))
       exact hT5.below
    ·have hold:=q1
     have ht:turnedM l t=⟨false,0,t.starved+1,t.wh⟩:=by unfold turnedM; rw [if_neg (by simp [q2]),if_neg (by simp [q1,q4])]
     go_wp2_with fail
     have hT3:Box2 w.heap.size w ((w2.setCell ⟨w.heap.size,0,none⟩ (.bool false)).setCell ⟨w.heap.size,2,none⟩ (.int .i64 (t.starved+1))) (tnCells ⟨false,t.gone,t.starved+1,t.wh⟩) zeroTn:=((hT2.set 0 (.bool false)).set 2 (.int .i64 (t.starved+1)))
     clear c0 c1 c2 c3 d0 d1 d2 d3 f0 f1 f2 f3 e0 e1 e2 e3
     generalize ((w2.setCell ⟨w.heap.size,0,none⟩ (.bool false)).setCell ⟨w.heap.size,2,none⟩ (.int .i64 (t.starved+1)))=w3 at hT3 ⊢
     clear hT2
     refine (roldest_any S l _ false _ (H.out.below hT3.below)).mono ?_
     rintro e w4 ⟨rfl,hb4⟩
     have hT4:=hT3.step hb4
     clear hT3 hb4
     have c0:=hT4.c 0
     have c1:=hT4.c 1
     have c2:=hT4.c 2
     have c3:=hT4.c 3
     have f0:=hT4.fc 0
     have f1:=hT4.fc 1
     have f2:=hT4.fc 2
     have f3:=hT4.fc 3
     have d0:=hT4.d 0
     have d1:=hT4.d 1
     have d2:=hT4.d 2
     have d3:=hT4.d 3
     have e0:=hT4.fd 0
     have e1:=hT4.fd 1
     have e2:=hT4.fd 2
     have e3:=hT4.fd 3
     simp [tnCells,zeroTn] at c0 c1 c2 c3 d0 d1 d2 d3
     obtain ⟨o,ro,ho,hro,how,hol⟩:=oldest_ok hold
     have hpick:pickM l ⟨false,0,t.starved+1,t.wh⟩ now=if expB ro now then oldest l false else if fromI l false t.wh<0 then fromI l false 0 else fromI l false t.wh:=by
      unfold pickM
      simp only
      rw [ho,Int.toNat_natCast,List.getD_eq_getElem?_getD,hro]; rfl
     rw [ho] at hpick ⊢
     have hbo:=(good_mem hg hro).born
     have b1:=hbo.1
     have b2:=hbo.2
     have Hro:=Lib.hid hro
     have How:=Lib.hid how
     have Ho:=Lib.hid ho
     have Ht:=Lib.hid ht
     clear hbo hro how ho hold ht
     obtain ⟨b,off,rfl,_,hbl,hc⟩:=(H.out.below hT4.below).at_ (by omega)
     have hbB:b<w.heap.size:=by
      obtain ⟨b',off',e,_,hb',_⟩:=H.out.at_ (by omega)
      cases e; exact hb'
     obtain ⟨_,_,_,_,_,_,_,_,_,_,k5⟩:=hc o ro Hro.out
     clear hc
     have hoi:(o:Int)<(l.length:Int):=by omega
     have hex:expB ro now=decide (4≤now - ro.born):=by unfold expB; rw [How.out]; rfl
     by_cases hexp:4≤now - ro.born
     ·rw [hex,decide_eq_true hexp,if_pos rfl] at hpick
      have ev:=EV0.out
      rw [Ht.out,hpick,endOf_at Hro.out] at ev
      have EV:=Lib.hid ev
      clear ev hpick hex
      go_wp2_with fail
      clear k5 hbl
      clear c0 c1 c2 c3 d0 d1 d2 d3 f0 f1 f2 f3 e0 e1 e2 e3
      obtain ⟨j,hj⟩:∃ j,j=o:=⟨_,rfl⟩
      subst hj
      obtain ⟨r,hr⟩:∃ r,r=ro:=⟨_,rfl⟩
      subst hr
      have Hr:=Hro
      obtain ⟨s1,s2,s3,s4,s5⟩:=(good_mem hg Hr.out).span
      obtain ⟨b',off',e,_,hbl,hc⟩:=(H.out.below hT4.below).at_ (by omega)
      cases e
      obtain ⟨_,_,_,_,_,_,k1,k2,_,_,_⟩:=hc j r Hr.out
      clear hc
      have hji:(j:Int)<(l.length:Int):=by omega
      have hs:IntKind.i64.wrap (r.lo+r.many)=r.lo+r.many:=IntWalk.i64_in _ (by omega)
      have c0:=hT4.c 0
      have c1:=hT4.c 1
      have c2:=hT4.c 2
      have c3:=hT4.c 3
      have f0:=hT4.fc 0
      have f1:=hT4.fc 1
      have f2:=hT4.fc 2
      have f3:=hT4.fc 3
      have d0:=hT4.d 0
      have d1:=hT4.d 1
      have d2:=hT4.d 2
      have d3:=hT4.d 3
      have e0:=hT4.fd 0
      have e1:=hT4.fd 1
      have e2:=hT4.fd 2
      have e3:=hT4.fd 3
      simp [tnCells,zeroTn] at c0 c1 c2 c3 d0 d1 d2 d3
      go_wp2_with fail
      go_region
      go_wp2_with fail
      go_region
      go_wp2
      rw [EV.out]
      refine bodyPost_ret (v:=.tuple #[_,tnV _]) (by simp [results,Tryz.results56,go_sem,d0,d1,d2,d3,e0,e1,e2,e3,c0,c1,c2,c3,f0,f1,f2,f3]) rfl ⟨rfl,?_⟩
      repeat (first | (with_reducible refine Below.drew ?_) | ((with_reducible refine Below.setCell ?_ ?hp _); case hp=>simp))
      exact hT4.below
     ·rw [hex,decide_eq_false hexp] at hpick
      have Hpick:=Lib.hid hpick
      clear hpick hex
      go_wp2_with fail
      refine (rfrom_any S l _ false t.wh _ (H.out.below hT4.below)).mono ?_
      rintro e w5 ⟨rfl,hb5⟩
      have hT5:=hT4.step hb5
      clear hT4 hb5
      clear c0 c1 c2 c3 d0 d1 d2 d3 f0 f1 f2 f3 e0 e1 e2 e3
      have c0:=hT5.c 0
      have c1:=hT5.c 1
      have c2:=hT5.c 2
      have c3:=hT5.c 3
      have f0:=hT5.fc 0
      have f1:=hT5.fc 1
      have f2:=hT5.fc 2
      have f3:=hT5.fc 3
      have d0:=hT5.d 0
      have d1:=hT5.d 1
      have d2:=hT5.d 2
      have d3:=hT5.d 3
      have e0:=hT5.fd 0
      have e1:=hT5.fd 1
      have e2:=hT5.fd 2
      have e3:=hT5.fd 3
      simp [tnCells,zeroTn] at c0 c1 c2 c3 d0 d1 d2 d3
      by_cases hf:fromI l false t.wh<0
      ·have h0:0≤fromI l false 0:=fromI_some Hro.out How.out (good_mem hg Hro.out).span.1
       obtain ⟨j,r,hj,hr,_,_,hjl⟩:=fromI_ok h0
       have e1:pickM l ⟨false,0,t.starved+1,t.wh⟩ now=j:=by rw [Hpick.out,if_neg (by simp),if_pos hf,hj]
       have ev:=EV0.out
       rw [Ht.out,e1,endOf_at hr] at ev
       have EV:=Lib.hid ev
       have Hr:=Lib.hid hr
       have Hj:=Lib.hid hj
       clear ev Hpick hj hr h0 e1
       go_wp2_with fail
       refine (rfrom_any S l _ false 0 _ (H.out.below hT5.below)).mono ?_
       rintro e w6 ⟨rfl,hb6⟩
       have hT6:=hT5.step hb6
       clear hT5 hb6 hf
       rw [Hj.out]
       clear c0 c1 c2 c3 d0 d1 d2 d3 f0 f1 f2 f3 e0 e1 e2 e3
       obtain ⟨s1,s2,s3,s4,s5⟩:=(good_mem hg Hr.out).span
       obtain ⟨b',off',e,_,hbl,hc⟩:=(H.out.below hT6.below).at_ (by omega)
       cases e
       obtain ⟨_,_,_,_,_,_,k1,k2,_,_,_⟩:=hc j r Hr.out
       clear hc
       have hji:(j:Int)<(l.length:Int):=by omega
       have hs:IntKind.i64.wrap (r.lo+r.many)=r.lo+r.many:=IntWalk.i64_in _ (by omega)
       have c0:=hT6.c 0
       have c1:=hT6.c 1
       have c2:=hT6.c 2
       have c3:=hT6.c 3
       have f0:=hT6.fc 0
       have f1:=hT6.fc 1
       have f2:=hT6.fc 2
       have f3:=hT6.fc 3
       have d0:=hT6.d 0
       have d1:=hT6.d 1
       have d2:=hT6.d 2
       have d3:=hT6.d 3
       have e0:=hT6.fd 0
       have e1:=hT6.fd 1
       have e2:=hT6.fd 2
       have e3:=hT6.fd 3
       simp [tnCells,zeroTn] at c0 c1 c2 c3 d0 d1 d2 d3
       go_wp2_with fail
       go_region
       go_wp2_with fail
       go_region
       go_wp2
       rw [EV.out]
       refine bodyPost_ret (v:=.tuple #[_,tnV _]) (by simp [results,Tryz.results56,go_sem,d0,d1,d2,d3,e0,e1,e2,e3,c0,c1,c2,c3,f0,f1,f2,f3]) rfl ⟨rfl,?_⟩
       repeat (first | (with_reducible refine Below.drew ?_) | ((with_reducible refine Below.setCell ?_ ?hp _); case hp=>simp))
       exact hT6.below
      ·obtain ⟨j,r,hj,hr,_,_,hjl⟩:=fromI_ok (Int.not_lt.1 hf)
       have e1:pickM l ⟨false,0,t.starved+1,t.wh⟩ now=j:=by rw [Hpick.out,if_neg (by simp),if_neg hf,hj]
       have ev:=EV0.out
       rw [Ht.out,e1,endOf_at hr] at ev
       have EV:=Lib.hid ev
       have Hr:=Lib.hid hr
       rw [hj]
       clear ev Hpick hj hr e1 hf
       clear c0 c1 c2 c3 d0 d1 d2 d3 f0 f1 f2 f3 e0 e1 e2 e3
       obtain ⟨s1,s2,s3,s4,s5⟩:=(good_mem hg Hr.out).span
       obtain ⟨b',off',e,_,hbl,hc⟩:=(H.out.below hT5.below).at_ (by omega)
       cases e
       obtain ⟨_,_,_,_,_,_,k1,k2,_,_,_⟩:=hc j r Hr.out
       clear hc
       have hji:(j:Int)<(l.length:Int):=by omega
       have hs:IntKind.i64.wrap (r.lo+r.many)=r.lo+r.many:=IntWalk.i64_in _ (by omega)
       have c0:=hT5.c 0
       have c1:=hT5.c 1
       have c2:=hT5.c 2
       have c3:=hT5.c 3
       have f0:=hT5.fc 0
       have f1:=hT5.fc 1
       have f2:=hT5.fc 2
       have f3:=hT5.fc 3
       have d0:=hT5.d 0
       have d1:=hT5.d 1
       have d2:=hT5.d 2
       have d3:=hT5.d 3
       have e0:=hT5.fd 0
       have e1:=hT5.fd 1
       have e2:=hT5.fd 2
       have e3:=hT5.fd 3
       simp [tnCells,zeroTn] at c0 c1 c2 c3 d0 d1 d2 d3
       go_wp2_with fail
       go_region
       go_wp2_with fail
       go_region
       go_wp2
       rw [EV.out]
       refine bodyPost_ret (v:=.tuple #[_,tnV _]) (by simp [results,Tryz.results56,go_sem,d0,d1,d2,d3,e0,e1,e2,e3,c0,c1,c2,c3,f0,f1,f2,f3]) rfl ⟨rfl,?_⟩
       repeat (first | (with_reducible refine Below.drew ?_) | ((with_reducible refine Below.setCell ?_ ?hp _); case hp=>simp))
       exact hT5.below
   ·have hold:=q1
    have q2':decide (0≤oldest l true)=false:=decide_eq_false q2
    have ht:turnedM l t=⟨false,0,t.starved,t.wh⟩:=by unfold turnedM; rw [if_pos ⟨q1,q2⟩]
    go_wp2_with fail
    have hT3:Box2 w.heap.size w (w2.setCell ⟨w.heap.size,0,none⟩ (.bool false)) (tnCells ⟨false,t.gone,t.starved,t.wh⟩) zeroTn:=(hT2.set 0 (.bool false))
    clear c0 c1 c2 c3 d0 d1 d2 d3 f0 f1 f2 f3 e0 e1 e2 e3
    generalize (w2.setCell ⟨w.heap.size,0,none⟩ (.bool false))=w3 at hT3 ⊢
    clear hT2
    refine (roldest_any S l _ false _ (H.out.below hT3.below)).mono ?_
    rintro e w4 ⟨rfl,hb4⟩
    have hT4:=hT3.step hb4
    clear hT3 hb4
    have c0:=hT4.c 0
    have c1:=hT4.c 1
    have c2:=hT4.c 2
    have c3:=hT4.c 3
    have f0:=hT4.fc 0
    have f1:=hT4.fc 1
    have f2:=hT4.fc 2
    have f3:=hT4.fc 3
    have d0:=hT4.d 0
    have d1:=hT4.d 1
    have d2:=hT4.d 2
    have d3:=hT4.d 3
    have e0:=hT4.fd 0
    have e1:=hT4.fd 1
    have e2:=hT4.fd 2
    have e3:=hT4.fd 3
    simp [tnCells,zeroTn] at c0 c1 c2 c3 d0 d1 d2 d3
    obtain ⟨o,ro,ho,hro,how,hol⟩:=oldest_ok hold
    have hpick:pickM l ⟨false,0,t.starved,t.wh⟩ now=if expB ro now then oldest l false else if fromI l false t.wh<0 then fromI l false 0 else fromI l false t.wh:=by
     unfold pickM
     simp only
     rw [ho,Int.toNat_natCast,List.getD_eq_getElem?_getD,hro]; rfl
    rw [ho] at hpick ⊢
    have hbo:=(good_mem hg hro).born
    have b1:=hbo.1
    have b2:=hbo.2
    have Hro:=Lib.hid hro
    have How:=Lib.hid how
    have Ho:=Lib.hid ho
    have Ht:=Lib.hid ht
    clear hbo hro how ho hold ht
    obtain ⟨b,off,rfl,_,hbl,hc⟩:=(H.out.below hT4.below).at_ (by omega)
    have hbB:b<w.heap.size:=by
     obtain ⟨b',off',e,_,hb',_⟩:=H.out.at_ (by omega)
     cases e; exact hb'
    obtain ⟨_,_,_,_,_,_,_,_,_,_,k5⟩:=hc o ro Hro.out
    clear hc
    have hoi:(o:Int)<(l.length:Int):=by omega
    have hex:expB ro now=decide (4≤now - ro.born):=by unfold expB; rw [How.out]; rfl
    by_cases hexp:4≤now - ro.born
    ·rw [hex,decide_eq_true hexp,if_pos rfl] at hpick
     have ev:=EV0.out
     rw [Ht.out,hpick,endOf_at Hro.out] at ev
     have EV:=Lib.hid ev
     clear ev hpick hex
     go_wp2_with fail
     clear k5 hbl
     clear c0 c1 c2 c3 d0 d1 d2 d3 f0 f1 f2 f3 e0 e1 e2 e3
     obtain ⟨j,hj⟩:∃ j,j=o:=⟨_,rfl⟩
     subst hj
     obtain ⟨r,hr⟩:∃ r,r=ro:=⟨_,rfl⟩
     subst hr
     have Hr:=Hro
     obtain ⟨s1,s2,s3,s4,s5⟩:=(good_mem hg Hr.out).span
     obtain ⟨b',off',e,_,hbl,hc⟩:=(H.out.below hT4.below).at_ (by omega)
     cases e
     obtain ⟨_,_,_,_,_,_,k1,k2,_,_,_⟩:=hc j r Hr.out
     clear hc
     have hji:(j:Int)<(l.length:Int):=by omega
     have hs:IntKind.i64.wrap (r.lo+r.many)=r.lo+r.many:=IntWalk.i64_in _ (by omega)
     have c0:=hT4.c 0
     have c1:=hT4.c 1
     have c2:=hT4.c 2
     have c3:=hT4.c 3
     have f0:=hT4.fc 0
     have f1:=hT4.fc 1
     have f2:=hT4.fc 2
     have f3:=hT4.fc 3
     have d0:=hT4.d 0
     have d1:=hT4.d 1
     have d2:=hT4.d 2
     have d3:=hT4.d 3
     have e0:=hT4.fd 0
     have e1:=hT4.fd 1
     have e2:=hT4.fd 2
     have e3:=hT4.fd 3
     simp [tnCells,zeroTn] at c0 c1 c2 c3 d0 d1 d2 d3
     go_wp2_with fail
     go_region
     go_wp2_with fail
     go_region
     go_wp2
     rw [EV.out]
     refine bodyPost_ret (v:=.tuple #[_,tnV _]) (by simp [results,Tryz.results56,go_sem,d0,d1,d2,d3,e0,e1,e2,e3,c0,c1,c2,c3,f0,f1,f2,f3]) rfl ⟨rfl,?_⟩
     repeat (first | (with_reducible refine Below.drew ?_) | ((with_reducible refine Below.setCell ?_ ?hp _); case hp=>simp))
     exact hT4.below
    ·rw [hex,decide_eq_false hexp] at hpick
     have Hpick:=Lib.hid hpick
     clear hpick hex
     go_wp2_with fail
     refine (rfrom_any S l _ false t.wh _ (H.out.below hT4.below)).mono ?_
     rintro e w5 ⟨rfl,hb5⟩
     have hT5:=hT4.step hb5
     clear hT4 hb5
     clear c0 c1 c2 c3 d0 d1 d2 d3 f0 f1 f2 f3 e0 e1 e2 e3
     have c0:=hT5.c 0
     have c1:=hT5.c 1
     have c2:=hT5.c 2
     have c3:=hT5.c 3
     have f0:=hT5.fc 0
     have f1:=hT5.fc 1
     have f2:=hT5.fc 2
     have f3:=hT5.fc 3
     have d0:=hT5.d 0
     have d1:=hT5.d 1
     have d2:=hT5.d 2
     have d3:=hT5.d 3
     have e0:=hT5.fd 0
     have e1:=hT5.fd 1
     have e2:=hT5.fd 2
     have e3:=hT5.fd 3
     simp [tnCells,zeroTn] at c0 c1 c2 c3 d0 d1 d2 d3
     by_cases hf:fromI l false t.wh<0
     ·have h0:0≤fromI l false 0:=fromI_some Hro.out How.out (good_mem hg Hro.out).span.1
      obtain ⟨j,r,hj,hr,_,_,hjl⟩:=fromI_ok h0
      have e1:pickM l ⟨false,0,t.starved,t.wh⟩ now=j:=by rw [Hpick.out,if_neg (by simp),if_pos hf,hj]
      have ev:=EV0.out
      rw [Ht.out,e1,endOf_at hr] at ev
      have EV:=Lib.hid ev
      have Hr:=Lib.hid hr
      have Hj:=Lib.hid hj
      clear ev Hpick hj hr h0 e1
      go_wp2_with fail
      refine (rfrom_any S l _ false 0 _ (H.out.below hT5.below)).mono ?_
      rintro e w6 ⟨rfl,hb6⟩
      have hT6:=hT5.step hb6
      clear hT5 hb6 hf
      rw [Hj.out]
      clear c0 c1 c2 c3 d0 d1 d2 d3 f0 f1 f2 f3 e0 e1 e2 e3
      obtain ⟨s1,s2,s3,s4,s5⟩:=(good_mem hg Hr.out).span
      obtain ⟨b',off',e,_,hbl,hc⟩:=(H.out.below hT6.below).at_ (by omega)
      cases e
      obtain ⟨_,_,_,_,_,_,k1,k2,_,_,_⟩:=hc j r Hr.out
      clear hc
      have hji:(j:Int)<(l.length:Int):=by omega
      have hs:IntKind.i64.wrap (r.lo+r.many)=r.lo+r.many:=IntWalk.i64_in _ (by omega)
      have c0:=hT6.c 0
      have c1:=hT6.c 1
      have c2:=hT6.c 2
      have c3:=hT6.c 3
      have f0:=hT6.fc 0
      have f1:=hT6.fc 1
      have f2:=hT6.fc 2
      have f3:=hT6.fc 3
      have d0:=hT6.d 0
      have d1:=hT6.d 1
      have d2:=hT6.d 2
      have d3:=hT6.d 3
      have e0:=hT6.fd 0
      have e1:=hT6.fd 1
      have e2:=hT6.fd 2
      have e3:=hT6.fd 3
      simp [tnCells,zeroTn] at c0 c1 c2 c3 d0 d1 d2 d3
      go_wp2_with fail
      go_region
      go_wp2_with fail
      go_region
      go_wp2
      rw [EV.out]
      refine bodyPost_ret (v:=.tuple #[_,tnV _]) (by simp [results,Tryz.results56,go_sem,d0,d1,d2,d3,e0,e1,e2,e3,c0,c1,c2,c3,f0,f1,f2,f3]) rfl ⟨rfl,?_⟩
      repeat (first | (with_reducible refine Below.drew ?_) | ((with_reducible refine Below.setCell ?_ ?hp _); case hp=>simp))
      exact hT6.below
     ·obtain ⟨j,r,hj,hr,_,_,hjl⟩:=fromI_ok (Int.not_lt.1 hf)
      have e1:pickM l ⟨false,0,t.starved,t.wh⟩ now=j:=by rw [Hpick.out,if_neg (by simp),if_neg hf,hj]
      have ev:=EV0.out
      rw [Ht.out,e1,endOf_at hr] at ev
      have EV:=Lib.hid ev
      have Hr:=Lib.hid hr
      rw [hj]
      clear ev Hpick hj hr e1 hf
      clear c0 c1 c2 c3 d0 d1 d2 d3 f0 f1 f2 f3 e0 e1 e2 e3
      obtain ⟨s1,s2,s3,s4,s5⟩:=(good_mem hg Hr.out).span
      obtain ⟨b',off',e,_,hbl,hc⟩:=(H.out.below hT5.below).at_ (by omega)
      cases e
      obtain ⟨_,_,_,_,_,_,k1,k2,_,_,_⟩:=hc j r Hr.out
      clear hc
      have hji:(j:Int)<(l.length:Int):=by omega
      have hs:IntKind.i64.wrap (r.lo+r.many)=r.lo+r.many:=IntWalk.i64_in _ (by omega)
      have c0:=hT5.c 0
      have c1:=hT5.c 1
      have c2:=hT5.c 2
      have c3:=hT5.c 3
      have f0:=hT5.fc 0
      have f1:=hT5.fc 1
      have f2:=hT5.fc 2
      have f3:=hT5.fc 3
      have d0:=hT5.d 0
      have d1:=hT5.d 1
      have d2:=hT5.d 2
      have d3:=hT5.d 3
      have e0:=hT5.fd 0
      have e1:=hT5.fd 1
      have e2:=hT5.fd 2
      have e3:=hT5.fd 3
      simp [tnCells,zeroTn] at c0 c1 c2 c3 d0 d1 d2 d3
      go_wp2_with fail
      go_region
      go_wp2_with fail
      go_region
      go_wp2
      rw [EV.out]
      refine bodyPost_ret (v:=.tuple #[_,tnV _]) (by simp [results,Tryz.results56,go_sem,d0,d1,d2,d3,e0,e1,e2,e3,c0,c1,c2,c3,f0,f1,f2,f3]) rfl ⟨rfl,?_⟩
      repeat (first | (with_reducible refine Below.drew ?_) | ((with_reducible refine Below.setCell ?_ ?hp _); case hp=>simp))
      exact hT5.below
  ·have q1':decide (0≤oldest l false)=false:=decide_eq_false q1
   have hold:=(kinds hne).resolve_left q1
   have q2:=hold
   have ht:turnedM l t=⟨true,0,0,t.wh⟩:=by unfold turnedM; rw [if_neg (by simp [q1]),if_pos ⟨hold,.inl q1⟩]
   go_wp2_with fail
   have hT3:Box2 w.heap.size w ((w2.setCell ⟨w.heap.size,0,none⟩ (.bool true)).setCell ⟨w.heap.size,2,none⟩ (.int .i64 0)) (tnCells ⟨true,t.gone,0,t.wh⟩) zeroTn:=((hT2.set 0 (.bool true)).set 2 (.int .i64 0))
   clear c0 c1 c2 c3 d0 d1 d2 d3 f0 f1 f2 f3 e0 e1 e2 e3
   generalize ((w2.setCell ⟨w.heap.size,0,none⟩ (.bool true)).setCell ⟨w.heap.size,2,none⟩ (.int .i64 0))=w3 at hT3 ⊢
   clear hT2
   refine (roldest_any S l _ true _ (H.out.below hT3.below)).mono ?_
   rintro e w4 ⟨rfl,hb4⟩
   have hT4:=hT3.step hb4
   clear hT3 hb4
   have c0:=hT4.c 0
   have c1:=hT4.c 1
   have c2:=hT4.c 2
   have c3:=hT4.c 3
   have f0:=hT4.fc 0
   have f1:=hT4.fc 1
   have f2:=hT4.fc 2
   have f3:=hT4.fc 3
   have d0:=hT4.d 0
   have d1:=hT4.d 1
   have d2:=hT4.d 2
   have d3:=hT4.d 3
   have e0:=hT4.fd 0
   have e1:=hT4.fd 1
   have e2:=hT4.fd 2
   have e3:=hT4.fd 3
   simp [tnCells,zeroTn] at c0 c1 c2 c3 d0 d1 d2 d3
   obtain ⟨o,ro,ho,hro,how,hol⟩:=oldest_ok hold
   have hpick:pickM l ⟨true,0,0,t.wh⟩ now=if expB ro now then oldest l true else if fromI l true t.wh<0 then fromI l true 0 else fromI l true t.wh:=by
    unfold pickM
    simp only
    rw [ho,Int.toNat_natCast,List.getD_eq_getElem?_getD,hro]; rfl
   rw [ho] at hpick ⊢
   have hbo:=(good_mem hg hro).born
   have b1:=hbo.1
   have b2:=hbo.2
   have Hro:=Lib.hid hro
   have How:=Lib.hid how
   have Ho:=Lib.hid ho
   have Ht:=Lib.hid ht
   clear hbo hro how ho hold ht
   obtain ⟨b,off,rfl,_,hbl,hc⟩:=(H.out.below hT4.below).at_ (by omega)
   have hbB:b<w.heap.size:=by
    obtain ⟨b',off',e,_,hb',_⟩:=H.out.at_ (by omega)
    cases e; exact hb'
   obtain ⟨_,_,_,_,_,_,_,_,_,_,k5⟩:=hc o ro Hro.out
   clear hc
   have hoi:(o:Int)<(l.length:Int):=by omega
   have hex:expB ro now=decide (8≤now - ro.born):=by unfold expB; rw [How.out]; rfl
   by_cases hexp:8≤now - ro.born
   ·rw [hex,decide_eq_true hexp,if_pos rfl] at hpick
    have ev:=EV0.out
    rw [Ht.out,hpick,endOf_at Hro.out] at ev
    have EV:=Lib.hid ev
    clear ev hpick hex
    go_wp2_with fail
    clear k5 hbl
    clear c0 c1 c2 c3 d0 d1 d2 d3 f0 f1 f2 f3 e0 e1 e2 e3
    obtain ⟨j,hj⟩:∃ j,j=o:=⟨_,rfl⟩
    subst hj
    obtain ⟨r,hr⟩:∃ r,r=ro:=⟨_,rfl⟩
    subst hr
    have Hr:=Hro
    obtain ⟨s1,s2,s3,s4,s5⟩:=(good_mem hg Hr.out).span
    obtain ⟨b',off',e,_,hbl,hc⟩:=(H.out.below hT4.below).at_ (by omega)
    cases e
    obtain ⟨_,_,_,_,_,_,k1,k2,_,_,_⟩:=hc j r Hr.out
    clear hc
    have hji:(j:Int)<(l.length:Int):=by omega
    have hs:IntKind.i64.wrap (r.lo+r.many)=r.lo+r.many:=IntWalk.i64_in _ (by omega)
    have c0:=hT4.c 0
    have c1:=hT4.c 1
    have c2:=hT4.c 2
    have c3:=hT4.c 3
    have f0:=hT4.fc 0
    have f1:=hT4.fc 1
    have f2:=hT4.fc 2
    have f3:=hT4.fc 3
    have d0:=hT4.d 0
    have d1:=hT4.d 1
    have d2:=hT4.d 2
    have d3:=hT4.d 3
    have e0:=hT4.fd 0
    have e1:=hT4.fd 1
    have e2:=hT4.fd 2
    have e3:=hT4.fd 3
    simp [tnCells,zeroTn] at c0 c1 c2 c3 d0 d1 d2 d3
    go_wp2_with fail
    go_region
    go_wp2_with fail
    go_region
    go_wp2
    rw [EV.out]
    refine bodyPost_ret (v:=.tuple #[_,tnV _]) (by simp [results,Tryz.results56,go_sem,d0,d1,d2,d3,e0,e1,e2,e3,c0,c1,c2,c3,f0,f1,f2,f3]) rfl ⟨rfl,?_⟩
    repeat (first | (with_reducible refine Below.drew ?_) | ((with_reducible refine Below.setCell ?_ ?hp _); case hp=>simp))
    exact hT4.below
   ·rw [hex,decide_eq_false hexp] at hpick
    have Hpick:=Lib.hid hpick
    clear hpick hex
    go_wp2_with fail
    refine (rfrom_any S l _ true t.wh _ (H.out.below hT4.below)).mono ?_
    rintro e w5 ⟨rfl,hb5⟩
    have hT5:=hT4.step hb5
    clear hT4 hb5
    clear c0 c1 c2 c3 d0 d1 d2 d3 f0 f1 f2 f3 e0 e1 e2 e3
    have c0:=hT5.c 0
    have c1:=hT5.c 1
    have c2:=hT5.c 2
    have c3:=hT5.c 3
    have f0:=hT5.fc 0
    have f1:=hT5.fc 1
    have f2:=hT5.fc 2
    have f3:=hT5.fc 3
    have d0:=hT5.d 0
    have d1:=hT5.d 1
    have d2:=hT5.d 2
    have d3:=hT5.d 3
    have e0:=hT5.fd 0
    have e1:=hT5.fd 1
    have e2:=hT5.fd 2
    have e3:=hT5.fd 3
    simp [tnCells,zeroTn] at c0 c1 c2 c3 d0 d1 d2 d3
    by_cases hf:fromI l true t.wh<0
    ·have h0:0≤fromI l true 0:=fromI_some Hro.out How.out (good_mem hg Hro.out).span.1
     obtain ⟨j,r,hj,hr,_,_,hjl⟩:=fromI_ok h0
     have e1:pickM l ⟨true,0,0,t.wh⟩ now=j:=by rw [Hpick.out,if_neg (by simp),if_pos hf,hj]
     have ev:=EV0.out
     rw [Ht.out,e1,endOf_at hr] at ev
     have EV:=Lib.hid ev
     have Hr:=Lib.hid hr
     have Hj:=Lib.hid hj
     clear ev Hpick hj hr h0 e1
     go_wp2_with fail
     refine (rfrom_any S l _ true 0 _ (H.out.below hT5.below)).mono ?_
     rintro e w6 ⟨rfl,hb6⟩
     have hT6:=hT5.step hb6
     clear hT5 hb6 hf
     rw [Hj.out]
     clear c0 c1 c2 c3 d0 d1 d2 d3 f0 f1 f2 f3 e0 e1 e2 e3
     obtain ⟨s1,s2,s3,s4,s5⟩:=(good_mem hg Hr.out).span
     obtain ⟨b',off',e,_,hbl,hc⟩:=(H.out.below hT6.below).at_ (by omega)
     cases e
     obtain ⟨_,_,_,_,_,_,k1,k2,_,_,_⟩:=hc j r Hr.out
     clear hc
     have hji:(j:Int)<(l.length:Int):=by omega
     have hs:IntKind.i64.wrap (r.lo+r.many)=r.lo+r.many:=IntWalk.i64_in _ (by omega)
     have c0:=hT6.c 0
     have c1:=hT6.c 1
     have c2:=hT6.c 2
     have c3:=hT6.c 3
     have f0:=hT6.fc 0
     have f1:=hT6.fc 1
     have f2:=hT6.fc 2
     have f3:=hT6.fc 3
     have d0:=hT6.d 0
     have d1:=hT6.d 1
     have d2:=hT6.d 2
     have d3:=hT6.d 3
     have e0:=hT6.fd 0
     have e1:=hT6.fd 1
     have e2:=hT6.fd 2
     have e3:=hT6.fd 3
     simp [tnCells,zeroTn] at c0 c1 c2 c3 d0 d1 d2 d3
     go_wp2_with fail
     go_region
     go_wp2_with fail
     go_region
     go_wp2
     rw [EV.out]
     refine bodyPost_ret (v:=.tuple #[_,tnV _]) (by simp [results,Tryz.results56,go_sem,d0,d1,d2,d3,e0,e1,e2,e3,c0,c1,c2,c3,f0,f1,f2,f3]) rfl ⟨rfl,?_⟩
     repeat (first | (with_reducible refine Below.drew ?_) | ((with_reducible refine Below.setCell ?_ ?hp _); case hp=>simp))
     exact hT6.below
    ·obtain ⟨j,r,hj,hr,_,_,hjl⟩:=fromI_ok (Int.not_lt.1 hf)
     have e1:pickM l ⟨true,0,0,t.wh⟩ now=j:=by rw [Hpick.out,if_neg (by simp),if_neg hf,hj]
     have ev:=EV0.out
     rw [Ht.out,e1,endOf_at hr] at ev
     have EV:=Lib.hid ev
     have Hr:=Lib.hid hr
     rw [hj]
     clear ev Hpick hj hr e1 hf
     clear c0 c1 c2 c3 d0 d1 d2 d3 f0 f1 f2 f3 e0 e1 e2 e3
     obtain ⟨s1,s2,s3,s4,s5⟩:=(good_mem hg Hr.out).span
     obtain ⟨b',off',e,_,hbl,hc⟩:=(H.out.below hT5.below).at_ (by omega)
     cases e
     obtain ⟨_,_,_,_,_,_,k1,k2,_,_,_⟩:=hc j r Hr.out
     clear hc
     have hji:(j:Int)<(l.length:Int):=by omega
     have hs:IntKind.i64.wrap (r.lo+r.many)=r.lo+r.many:=IntWalk.i64_in _ (by omega)
     have c0:=hT5.c 0
     have c1:=hT5.c 1
     have c2:=hT5.c 2
     have c3:=hT5.c 3
     have f0:=hT5.fc 0
     have f1:=hT5.fc 1
     have f2:=hT5.fc 2
     have f3:=hT5.fc 3
     have d0:=hT5.d 0
     have d1:=hT5.d 1
     have d2:=hT5.d 2
     have d3:=hT5.d 3
     have e0:=hT5.fd 0
     have e1:=hT5.fd 1
     have e2:=hT5.fd 2
     have e3:=hT5.fd 3
     simp [tnCells,zeroTn] at c0 c1 c2 c3 d0 d1 d2 d3
     go_wp2_with fail
     go_region
     go_wp2_with fail
     go_region
     go_wp2
     rw [EV.out]
     refine bodyPost_ret (v:=.tuple #[_,tnV _]) (by simp [results,Tryz.results56,go_sem,d0,d1,d2,d3,e0,e1,e2,e3,c0,c1,c2,c3,f0,f1,f2,f3]) rfl ⟨rfl,?_⟩
     repeat (first | (with_reducible refine Below.drew ?_) | ((with_reducible refine Below.setCell ?_ ?hp _); case hp=>simp))
     exact hT5.below
theorem rnext_any (S:Nat→Prop) (l:List Rq) (v:Value) (t:Tn) (now:Int) (w:World) (h:ReqsAt S w v l) (hg:goodReqs l=true) (hne:l≠[]) (hst:i64 t.starved) (hn1:0≤now) (hn2:now≤1000000000) :
  Calls Tryz.prog 56 #[v,tnV t,.int .i64 now] w (Ret (nextV l t now) w):=by
 by_cases q1:t.gone=1
 ·by_cases q3:0≤fromI l t.write t.wh
  ·exact rnext_on S l v t now w h hg (.inl q1) q3
  ·exact rnext_new S l v t now w h hg hne hst hn1 hn2 (by omega) (.inr (.inl ⟨by simpa using q1,by omega⟩))
 ·by_cases q2:t.gone=2
  ·by_cases q3:0≤fromI l t.write t.wh
   ·exact rnext_on S l v t now w h hg (.inr q2) q3
   ·exact rnext_new S l v t now w h hg hne hst hn1 hn2 (by omega) (.inr (.inr ⟨by simpa using q1,by simpa using q2,by omega⟩))
  ·exact rnext_new S l v t now w h hg hne hst hn1 hn2 (by omega) (.inl ⟨by simpa using q1,by simpa using q2⟩)
end Go.Proofs.YtlomdfbnicbceaaGreat
