/- The reference's Next. -/
import Derived.Test.YtlomdfbnicbceaaGreatM5
set_option linter.unusedSimpArgs false
set_option linter.unusedVariables false
set_option maxRecDepth 100000
set_option maxHeartbeats 8000000
namespace Go.Proofs.YtlomdfbnicbceaaGreat
open Go.RowKit Go.Sort
theorem rnext_on (S:Nat→Prop) (l:List Rq) (v:Value) (t:Tn) (now:Int) (w:World) (h:ReqsAt S w v l) (hg:goodReqs l=true)
  (q:t.gone=1∨t.gone=2) (q3:0≤fromI l t.write t.wh) :
  Calls Tryz.prog 56 #[v,tnV t,.int .i64 now] w (Ret (nextV l t now) w):=by
 have q1:0<t.gone:=by omega
 have q2:t.gone<3:=by omega
 have qb:((t.gone == 1)=true)∨((t.gone == 1)=false∧(t.gone == 2)=true):=by rcases q with q | q <;> rw [q] <;> simp
 clear q
 have H:=Lib.hid h
 obtain ⟨A,cap,rfl,h1,h2⟩:=h.form
 unfold maxLen at h2
 clear h
 have ev:nextV l t now=.tuple #[.int .i64 (fromI l t.write t.wh),tnV { t with gone:=t.gone+1,wh:=endOf l (fromI l t.write t.wh) }]:=by unfold nextV; rw [nextM_on q1 q2 q3]
 obtain ⟨j,r,hj,hr,_,_,hjl⟩:=fromI_ok q3
 have hok:=good_mem hg hr
 obtain ⟨s1,s2,s3,s4,s5⟩:=hok.span
 rw [hj,endOf_at hr] at ev
 rw [ev]
 have Hj:=Lib.hid hj
 have Hr:=Lib.hid hr
 clear ev hj hr q3 hok
 have hji:(j:Int)<(l.length:Int):=by omega
 have hs:IntKind.i64.wrap (r.lo+r.many)=r.lo+r.many:=IntWalk.i64_in _ (by omega)
 rcases qb with qb | ⟨qb,qc⟩
 ·skip
  go_enter Tryz.func56,Tryz.ntmps56
  go_wp2_with fail
  have hT:=Box2.start w t
  generalize ((w.alloc (Obj.cells #[Value.bool t.write,Value.int IntKind.i64 t.gone,Value.int IntKind.i64 t.starved,Value.int IntKind.i64 t.wh] 54)).alloc
   (Obj.cells #[Value.bool false,Value.int IntKind.i64 0,Value.int IntKind.i64 0,Value.int IntKind.i64 0] 54))=W at hT ⊢
  refine (rfrom_any S l _ t.write t.wh _ (H.out.below hT.below)).mono ?_
  rintro e w1 ⟨rfl,hb1⟩
  have hT1:=hT.step hb1
  clear hT hb1
  rw [Hj.out]
  obtain ⟨b,off,rfl,_,hbl,hc⟩:=(H.out.below hT1.below).at_ (by omega)
  obtain ⟨_,_,_,_,_,_,k1,k2,_,_,_⟩:=hc j r Hr.out
  clear hc
  have hbB:b<w.heap.size:=by
   obtain ⟨b',off',e,_,hb',_⟩:=H.out.at_ (by omega)
   cases e; exact hb'
  have c0:=hT1.c 0
  have c1:=hT1.c 1
  have c2:=hT1.c 2
  have c3:=hT1.c 3
  have f1:=hT1.fc 1
  have f3:=hT1.fc 3
  have d0:=hT1.d 0
  have d1:=hT1.d 1
  have d2:=hT1.d 2
  have d3:=hT1.d 3
  have e0:=hT1.fd 0
  have e1:=hT1.fd 1
  have e2:=hT1.fd 2
  have e3:=hT1.fd 3
  simp [tnCells,zeroTn] at c0 c1 c2 c3 d0 d1 d2 d3
  go_wp2_with fail
  go_region
  go_wp2_with fail
  go_region
  go_wp2
  refine bodyPost_ret (v:=.tuple #[_,tnV _]) (by simp [results,Tryz.results56,go_sem,d0,d1,d2,d3,e0,e1,e2,e3,c0,c1,c2,c3,f1,f3]) rfl ⟨rfl,?_⟩
  repeat (first | (with_reducible refine Below.drew ?_) | ((with_reducible refine Below.setCell ?_ ?hp _); case hp=>simp))
  exact hT1.below
 ·skip
  go_enter Tryz.func56,Tryz.ntmps56
  go_wp2_with fail
  have hT:=Box2.start w t
  generalize ((w.alloc (Obj.cells #[Value.bool t.write,Value.int IntKind.i64 t.gone,Value.int IntKind.i64 t.starved,Value.int IntKind.i64 t.wh] 54)).alloc
   (Obj.cells #[Value.bool false,Value.int IntKind.i64 0,Value.int IntKind.i64 0,Value.int IntKind.i64 0] 54))=W at hT ⊢
  refine (rfrom_any S l _ t.write t.wh _ (H.out.below hT.below)).mono ?_
  rintro e w1 ⟨rfl,hb1⟩
  have hT1:=hT.step hb1
  clear hT hb1
  rw [Hj.out]
  obtain ⟨b,off,rfl,_,hbl,hc⟩:=(H.out.below hT1.below).at_ (by omega)
  obtain ⟨_,_,_,_,_,_,k1,k2,_,_,_⟩:=hc j r Hr.out
  clear hc
  have hbB:b<w.heap.size:=by
   obtain ⟨b',off',e,_,hb',_⟩:=H.out.at_ (by omega)
   cases e; exact hb'
  have c0:=hT1.c 0
  have c1:=hT1.c 1
  have c2:=hT1.c 2
  have c3:=hT1.c 3
  have f1:=hT1.fc 1
  have f3:=hT1.fc 3
  have d0:=hT1.d 0
  have d1:=hT1.d 1
  have d2:=hT1.d 2
  have d3:=hT1.d 3
  have e0:=hT1.fd 0
  have e1:=hT1.fd 1
  have e2:=hT1.fd 2
  have e3:=hT1.fd 3
  simp [tnCells,zeroTn] at c0 c1 c2 c3 d0 d1 d2 d3
  go_wp2_with fail
  go_region
  go_wp2_with fail
  go_region
  go_wp2
  refine bodyPost_ret (v:=.tuple #[_,tnV _]) (by simp [results,Tryz.results56,go_sem,d0,d1,d2,d3,e0,e1,e2,e3,c0,c1,c2,c3,f1,f3]) rfl ⟨rfl,?_⟩
  repeat (first | (with_reducible refine Below.drew ?_) | ((with_reducible refine Below.setCell ?_ ?hp _); case hp=>simp))
  exact hT1.below
end Go.Proofs.YtlomdfbnicbceaaGreat
