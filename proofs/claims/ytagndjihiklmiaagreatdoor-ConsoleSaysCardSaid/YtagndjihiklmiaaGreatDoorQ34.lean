/- The reference's driver ends a request without fault. -/
import Derived.Test.YtagndjihiklmiaaGreatDoorQ14
import Derived.Test.YtagndjihiklmiaaGreatDoorQ33
import Derived.StillTailTactics
set_option linter.unusedSimpArgs false
set_option linter.unusedVariables false
set_option maxRecDepth 100000
set_option maxHeartbeats 8000000
namespace Go.Proofs.YtagndjihiklmiaaGreatDoor
open Go.RowKit
abbrev TVr:TypeId:=102
theorem rdrvend_ok (S F:Nat→Prop) (w:World) (bv bd bt n k:Nat) (v:Drv) (r:Rq) (h:DrvAt TDr TPr TVr S F w bv bd bt n v) (hk:v.d.l[k]?=some r) (hok:DvOk v.d) (hwl:v.d.waits.length≤900000000) (hn:n≤900000000) (htr:∀ j,i64 j→0≤v.tries j∧v.tries j≤2)
  (hF:∀ k,F k→k<w.heap.size) (hSF:∀ k,S k→¬ F k) (hSlt:∀ k,S k→k<w.heap.size) :
  Calls Tryz.prog 65 #[.pointer (some ⟨bv,0,none⟩),.int .i64 (k:Int),.bool false] w (RetDrv TDr TPr TVr S F w bv bd bt (n+1) ⟨(v.d.ended r k false).1,upd v.tries (tagOf r) 0⟩ (v.d.ended r k false).2 true (.int .i64 0)):=by
 have hr:=reqF_zero (hok.l r (List.mem_of_getElem? hk));have hbv:=(Array.getElem?_eq_some_iff.1 h.row).1;have c0:∀ o,(w.alloc o).cell? ⟨bv,0,none⟩=some (.pointer (some ⟨bd,0,none⟩)):=fun o=>by rw [World.cell?_alloc_lt _ _ _ hbv,cell_of_row _ _ _ _ _ _ h.row]; rfl
 have H:=Lib.hid h;have Hk:=Lib.hid hk;have Hok:=Lib.hid hok;have Hr:=Lib.hid hr;have HF:=Lib.hid hF;have HS:=Lib.hid hSF;have Hlt:=Lib.hid hSlt;have hrr:(v.d.ended r k false).2.req=r:=by unfold Dv.ended; rw [if_neg (by simp)]; split <;> rfl
 have hre:(v.d.ended r k false).2.err=0:=by unfold Dv.ended; rw [if_neg (by simp)]; split <;> rfl
 obtain ⟨q,hq⟩:∃ x,v.d.ended r k false=x:=⟨_,rfl⟩
 rw [hq] at hrr hre ⊢;obtain ⟨d',⟨rr,dl,er⟩⟩:=q;simp only at hrr hre ⊢;subst hrr hre;have Hq:=Lib.hid hq;clear hq;clear h hk hok hr hF hSF hSlt;go_enter Tryz.func65,Tryz.ntmps65;go_wp2_with fail;have L:=(LayF.refl (fun k=>F k∨k=bt) w).alloc' w.heap.size zeroRsV 123 rfl;have hb1:Below w.heap.size w _:=(Below.refl w.heap.size w).alloc (Nat.le_refl _) (.cells zeroRsV 123);have hs1:(w.alloc (.cells zeroRsV 123)).heap.size=w.heap.size+1:=by simp
 generalize World.alloc _ _=W1 at L hb1 hs1 ⊢;have hd1:=H.out.dev.below hb1;refine (rdevend_some S F W1 bd v.d k rr false hd1 Hk.out Hr.out Hok.out.two (by omega) Hok.out.nowM (fun k hk=>by have:=HF.out k hk; omega) HS.out (fun k hk=>by have:=Hlt.out k hk; omega)).mono ?_;rw [Hq.out];rintro e w2 ⟨x2,F2,S2,rfl,hrs,hd2,hc2,_,hF2,hSS2,hS2,hSF2⟩;simp only at hrs hd2 ⊢;obtain ⟨rc,ov,ev,erc,hrc,hov⟩:=hrs;obtain ⟨r3,rdv,rtv⟩:=rc;simp only at erc ev hov;obtain ⟨Bd,bd7,e1,_,_⟩:=hrc.data.form;obtain ⟨Bt,bt7,e2,_,_⟩:=hrc.tags.form;obtain ⟨Bo,bo7,e3,_,_⟩:=hov.form;simp only at e1 e2;subst e1 e2 e3 ev;subst erc;obtain ⟨tb,tof,rfl,htc,hti,htl,hSt,htb⟩:=tag_cell hrc.tags Hr.out
 have hL2:=(L.chg2 hc2 (fun k hk=>.inl (.inl hk)) (fun x hx hf=>by
  simp only [List.mem_cons,List.not_mem_nil,or_false] at hx;subst hx;have:=HF.out _ hf;simp only at this
  omega)).alloc' w2.heap.size #[Value.bool r3.write,.int .i64 r3.lo,.int .i64 r3.many,.slice Bd r3.data.length bd7,.slice (some ⟨tb,tof,none⟩) r3.tags.length bt7,.int .i64 r3.born,.slice Bo dl.length bo7,.int .i64 0] 123 rfl
 obtain ⟨f,hmf,hfv⟩:=H.out.map;have hbt:=hmf.lt;have HL2:=Lib.hid hL2;have Hi:Hid ((Tryz.prog.info? 123).map (·.size)=some (#[Value.bool r3.write,.int .i64 r3.lo,.int .i64 r3.many,.slice Bd r3.data.length bd7,.slice (some ⟨tb,tof,none⟩) r3.tags.length bt7,.int .i64 r3.born,.slice Bo dl.length bo7,.int .i64 0]:Array Value).size):=resInfo;have Hi0:Hid ((Tryz.prog.info? 123).map (·.size)=some zeroRsV.size):=resInfo;have Hz:Hid ((#[Value.bool r3.write,.int .i64 r3.lo,.int .i64 r3.many,.slice Bd r3.data.length bd7,.slice (some ⟨tb,tof,none⟩) r3.tags.length bt7,.int .i64 r3.born,.slice Bo dl.length bo7,.int .i64 0]:Array Value).all (·.oneCell')=true):=one8 _ _ _ _ _ _ _ _ _ _ _ _ _ _;have Hz0:Hid (zeroRsV.all (·.oneCell')=true):=one8 _ _ _ _ _ _ _ _ _ _ _ _ _ _;have hb2:∀ q,q<w.heap.size→¬ F q→w2.heap[q]?=w.heap[q]?:=fun q hq hf=>(hc2.block q (by omega) hf).trans (hb1.block q hq)
 have hrow2:=(hb2 bv hbv H.out.nv).trans H.out.row;have Hrow2:=Lib.hid hrow2;have Hmap2:=Lib.hid (hmf.keep (hb2 bt hbt H.out.nt));have Hfv:=Lib.hid hfv;have htw:tb≠w.heap.size:=fun e=>by rcases hS2 tb hSt with h | h; have:=Hlt.out _ h; omega; omega
 have htt:tb≠bt:=fun e=>by
  rcases hS2 tb hSt with h | h
  ·exact (H.out.sv tb h).2 e
  ·omega
 have hz12:=hc2.size;have hbv2:bv<w2.heap.size:=by omega
 have Htc:=Lib.hid htc;have Hrc:=Lib.hid hrc;have Hov:=Lib.hid hov;have Hd2:=Lib.hid hd2
 have HF2:Hid (∀ q,F2 q→Grow F w w2 q∧q≠bv∧q≠bt∧q≠w.heap.size∧q<w2.heap.size):=fun q hq=>by
  rcases hF2 q hq with h | h
  ·exact ⟨.inl h,fun e=>H.out.nv (e▸h),fun e=>H.out.nt (e▸h),fun e=>by have:=HF.out q h; omega,by have:=HF.out q h; omega⟩
  ·exact ⟨.inr ⟨by omega,h.2⟩,by omega,by omega,by omega,h.2⟩
 have HS2:Hid (∀ q,S2 q→Grow S w w2 q∧q≠bv∧q≠bt∧q≠w.heap.size∧q<w2.heap.size):=fun q hq=>by
  rcases hS2 q hq with h | h
  ·exact ⟨.inl h,(H.out.sv q h).1,(H.out.sv q h).2,by have:=Hlt.out q h; omega,by have:=Hlt.out q h; omega⟩
  ·exact ⟨.inr ⟨by omega,h.2⟩,by omega,by omega,by omega,h.2⟩
 have HSF2:=Lib.hid hSF2;have HSS2:=Lib.hid hSS2;have hwt:w.heap.size≠bt:=by omega
 have Ha:Hid (∀ o:Obj,Below w2.heap.size w2 (w2.alloc o)):=fun o=>(Below.refl w2.heap.size w2).alloc (Nat.le_refl _) o
 have at1:∀ o,(w2.alloc o).cell? ⟨tb,tof,none⟩=_:=fun o=>(World.cell?_alloc_lt _ _ _ htb).trans htc
 have av1:∀ o,(w2.alloc o).cell? ⟨bv,1,none⟩=some (.map (some bt)):=fun o=>by rw [World.cell?_alloc_lt _ _ _ hbv2,cell_of_row _ _ _ _ _ _ hrow2]; rfl
 clear hL2 L hb1 hrc hov hd2 hc2 hF2 hSS2 hS2 hSF2 hmf hfv hb2 htc c0 hd1 hSt hrow2
 go_wp2_with (first
  |(at_mapUpdate; refine wpList_upd _ rfl (.tmp 37) (.tmp 38) (.const (.int .i64 0)) rfl bt n f (tagOf r3) 0 rfl rfl rfl (Hmap2.out.keep ((Ha.out _).block bt (by omega))) hti (by unfold i64; omega) (by omega) ?_
    intro w4 hm4 hg4;have L4:=Lib.hid (HL2.out.grown hg4 (.inr rfl) (fun x hx=>by simp at hx; rcases hx with rfl | rfl; show w2.heap.size≠bt; omega; exact hwt));have HT4:Hid (w4.there w.heap.size 0 zeroRsV.size):=L4.out.there 1 rfl _ rfl;obtain ⟨y0,y1,y2,y3,y4,y5,y6,y7⟩:=L4.out.c8 0 rfl;have Hm4:=Lib.hid hm4;have Hg4:=Lib.hid hg4
    clear hm4 hg4)
  |(refine wpList_store_mid rfl 123 (.tmp 6) (.tmp 39) rfl w.heap.size 0 #[Value.bool r3.write,.int .i64 r3.lo,.int .i64 r3.many,.slice Bd r3.data.length bd7,.slice (some ⟨tb,tof,none⟩) r3.tags.length bt7,.int .i64 r3.born,.slice Bo dl.length bo7,.int .i64 0] rfl rfl HT4.out Hi.out Hz.out ?_
    have L5:=Lib.hid (L4.out.put 1 rfl #[Value.bool r3.write,.int .i64 r3.lo,.int .i64 r3.many,.slice Bd r3.data.length bd7,.slice (some ⟨tb,tof,none⟩) r3.tags.length bt7,.int .i64 r3.born,.slice Bo dl.length bo7,.int .i64 0] rfl);have hc5:Hid (Chg (fun q=>q=w.heap.size) w4 (w4.setCells w.heap.size 0 (#[Value.bool r3.write,.int .i64 r3.lo,.int .i64 r3.many,.slice Bd r3.data.length bd7,.slice (some ⟨tb,tof,none⟩) r3.tags.length bt7,.int .i64 r3.born,.slice Bo dl.length bo7,.int .i64 0]:Array Value).toList)):=Chg.setCells (F:=fun q=>q=w.heap.size) (w:=w4) Chg.refl (.inl rfl) 0 (#[Value.bool r3.write,.int .i64 r3.lo,.int .i64 r3.many,.slice Bd r3.data.length bd7,.slice (some ⟨tb,tof,none⟩) r3.tags.length bt7,.int .i64 r3.born,.slice Bo dl.length bo7,.int .i64 0]:Array Value).toList;generalize World.setCells _ _ _ _=W5 at L5 hc5 ⊢
    obtain ⟨z0,z1,z2,z3,z4,z5,z6,z7⟩:=L5.out.c8 1 rfl))
 refine bodyPost_ret (v:=.tuple #[.agg #[Value.bool r3.write,.int .i64 r3.lo,.int .i64 r3.many,.slice Bd r3.data.length bd7,.slice (some ⟨tb,tof,none⟩) r3.tags.length bt7,.int .i64 r3.born,.slice Bo dl.length bo7,.int .i64 0],.bool true,.int .i64 0]) (by simp [results,Tryz.results65,go_sem,z0,z1,z2,z3,z4,z5,z6,z7]) rfl ?_;have hz3:(w2.alloc (.cells #[Value.bool r3.write,.int .i64 r3.lo,.int .i64 r3.many,.slice Bd r3.data.length bd7,.slice (some ⟨tb,tof,none⟩) r3.tags.length bt7,.int .i64 r3.born,.slice Bo dl.length bo7,.int .i64 0] 123)).heap.size=w2.heap.size+1:=by simp
 have hsz4:w2.heap.size+1≤w4.heap.size:=hz3▸Hg4.out.size;have hsz5:w4.heap.size≤W5.heap.size:=hc5.out.size
 have hkk:∀ q,q<w2.heap.size→q≠w.heap.size→q≠bt→W5.heap[q]?=w2.heap[q]?:=fun q hq h1 h2 =>
  ((hc5.out.block q (by omega) h1).trans (Hg4.out.block q (by omega) (fun e=>h2 (by injection e)))).trans ((Ha.out _).block q hq)
 have hkS:∀ q,S2 q→q<w2.heap.size→W5.heap[q]?=w2.heap[q]?:=fun q hq hlt=>hkk q hlt (HS2.out q hq).2.2.2.1 (HS2.out q hq).2.2.1
 have hkF:∀ q,F2 q→q<w2.heap.size→W5.heap[q]?=w2.heap[q]?:=fun q hq hlt=>hkk q hlt (HF2.out q hq).2.2.2.1 (HF2.out q hq).2.2.1
 refine ⟨_,F2,S2,rfl,⟨_,_,rfl,rfl,Hrc.out.keep hkS,Hov.out.keep hkS⟩,⟨?_,?_,(Hd2.out.more HSS2.out).keep hkF hkS,fun hf=>(HF2.out _ hf).2.1 rfl,fun hf=>(HF2.out _ hf).2.2.1 rfl,fun q hq=>⟨(HS2.out q hq).2.1,(HS2.out q hq).2.2.1⟩⟩,L5.out.chg,fun q hq=>(HF2.out q hq).1.elim .inl (fun h=>.inr ⟨h.1,by omega⟩),HSS2.out,fun q hq=>(HS2.out q hq).1.elim .inl (fun h=>.inr ⟨h.1,by omega⟩),HSF2.out⟩
 ·exact (hkk bv (by omega) (by omega) H.out.ne).trans Hrow2.out
 ·refine ⟨_,(Hm4.out.keep (hc5.out.block bt (by omega) (fun e=>hwt e.symm))).mono (by omega),fun j hj=>?_⟩
  show upd f (tagOf r3) 0 j=upd v.tries (tagOf r3) 0 j;unfold upd
  split
  ·rfl
  ·exact Hfv.out j hj
end Go.Proofs.YtagndjihiklmiaaGreatDoor
namespace Go.Proofs.YtagndjihiklmiaaGreatDoor
open Go.RowKit
theorem rdrvend_true (S F:Nat→Prop) (w:World) (bv bd bt n k:Nat) (v:Drv) (r:Rq) (h:DrvAt TDr TPr TVr S F w bv bd bt n v) (hk:v.d.l[k]?=some r) (hok:DvOk v.d) (hwl:v.d.waits.length≤900000000) (hn:n≤900000000) (htr:∀ j,i64 j→0≤v.tries j∧v.tries j≤2)
  (hF:∀ k,F k→k<w.heap.size) (hSF:∀ k,S k→¬ F k) (hSlt:∀ k,S k→k<w.heap.size) :
  Calls Tryz.prog 65 #[.pointer (some ⟨bv,0,none⟩),.int .i64 (k:Int),.bool true] w (fun e w'=>(v.tries (tagOf r)+1<3→RetDrv TDr TPr TVr S F w bv bd bt (n+1) ⟨((v.d.drop k).start r).1,upd v.tries (tagOf r) (v.tries (tagOf r)+1)⟩ zeroRs false (.int .i64 0) e w')∧(¬ v.tries (tagOf r)+1<3→RetDrv TDr TPr TVr S F w bv bd bt (n+1) ⟨v.d.drop k,upd v.tries (tagOf r) 0⟩ ⟨r,[],8⟩ true (.int .i64 0) e w')):=by
 have hr:=reqF_zero (hok.l r (List.mem_of_getElem? hk));have hbv:=(Array.getElem?_eq_some_iff.1 h.row).1;have c0:∀ o,(w.alloc o).cell? ⟨bv,0,none⟩=some (.pointer (some ⟨bd,0,none⟩)):=fun o=>by rw [World.cell?_alloc_lt _ _ _ hbv,cell_of_row _ _ _ _ _ _ h.row]; rfl
 have H:=Lib.hid h;have Hk:=Lib.hid hk;have Hok:=Lib.hid hok;have Hr:=Lib.hid hr;have HF:=Lib.hid hF;have HS:=Lib.hid hSF;have Hlt:=Lib.hid hSlt;have hq:v.d.ended r k true=(v.d.drop k,⟨r,[],8⟩):=if_pos rfl;have Hq:=Lib.hid hq
 obtain ⟨rr,hrr⟩:∃ x,r=x:=⟨_,rfl⟩
 subst hrr
 obtain ⟨d',hd'⟩:∃ x,v.d.drop k=x:=⟨_,rfl⟩
 rw [hd'] at Hq ⊢;have Hd':=Lib.hid hd';clear hd' hq;clear h hk hok hr hF hSF hSlt;go_enter Tryz.func65,Tryz.ntmps65;go_wp2_with fail;have L:=(LayF.refl (fun k=>F k∨k=bt) w).alloc' w.heap.size zeroRsV 123 rfl;have hb1:Below w.heap.size w _:=(Below.refl w.heap.size w).alloc (Nat.le_refl _) (.cells zeroRsV 123);have hs1:(w.alloc (.cells zeroRsV 123)).heap.size=w.heap.size+1:=by simp
 generalize World.alloc _ _=W1 at L hb1 hs1 ⊢;have hd1:=H.out.dev.below hb1;refine (rdevend_some S F W1 bd v.d k r true hd1 Hk.out Hr.out Hok.out.two (by omega) Hok.out.nowM (fun k hk=>by have:=HF.out k hk; omega) HS.out (fun k hk=>by have:=Hlt.out k hk; omega)).mono ?_;rw [Hq.out];rintro e w2 ⟨x2,F2,S2,rfl,hrs,hd2,hc2,_,hF2,hSS2,hS2,hSF2⟩;simp only at hrs hd2 ⊢;obtain ⟨rc,ov,ev,erc,hrc,hov⟩:=hrs;obtain ⟨r3,rdv,rtv⟩:=rc;simp only at erc ev hov;obtain ⟨Bd,bd7,e1,_,_⟩:=hrc.data.form;obtain ⟨Bt,bt7,e2,_,_⟩:=hrc.tags.form;obtain ⟨Bo,bo7,e3,_,_⟩:=hov.form;simp only at e1 e2;subst e1 e2 e3 ev;subst erc;obtain ⟨tb,tof,rfl,htc,hti,htl,hSt,htb⟩:=tag_cell hrc.tags Hr.out
 have hL2:=(L.chg2 hc2 (fun k hk=>.inl (.inl hk)) (fun x hx hf=>by
  simp only [List.mem_cons,List.not_mem_nil,or_false] at hx;subst hx;have:=HF.out _ hf;simp only at this
  omega)).alloc' w2.heap.size #[Value.bool r3.write,.int .i64 r3.lo,.int .i64 r3.many,.slice Bd r3.data.length bd7,.slice (some ⟨tb,tof,none⟩) r3.tags.length bt7,.int .i64 r3.born,.slice Bo (0:Nat) bo7,.int .i64 8] 123 rfl
 obtain ⟨f,hmf,hfv⟩:=H.out.map;have hbt:=hmf.lt;have HL2:=Lib.hid hL2;have Hi:Hid ((Tryz.prog.info? 123).map (·.size)=some (#[Value.bool r3.write,.int .i64 r3.lo,.int .i64 r3.many,.slice Bd r3.data.length bd7,.slice (some ⟨tb,tof,none⟩) r3.tags.length bt7,.int .i64 r3.born,.slice Bo (0:Nat) bo7,.int .i64 8]:Array Value).size):=resInfo;have Hi0:Hid ((Tryz.prog.info? 123).map (·.size)=some zeroRsV.size):=resInfo;have Hz:Hid ((#[Value.bool r3.write,.int .i64 r3.lo,.int .i64 r3.many,.slice Bd r3.data.length bd7,.slice (some ⟨tb,tof,none⟩) r3.tags.length bt7,.int .i64 r3.born,.slice Bo (0:Nat) bo7,.int .i64 8]:Array Value).all (·.oneCell')=true):=one8 _ _ _ _ _ _ _ _ _ _ _ _ _ _;have Hz0:Hid (zeroRsV.all (·.oneCell')=true):=one8 _ _ _ _ _ _ _ _ _ _ _ _ _ _;have hb2:∀ q,q<w.heap.size→¬ F q→w2.heap[q]?=w.heap[q]?:=fun q hq hf=>(hc2.block q (by omega) hf).trans (hb1.block q hq)
 have hrow2:=(hb2 bv hbv H.out.nv).trans H.out.row;have Hrow2:=Lib.hid hrow2;have Hmap2:=Lib.hid (hmf.keep (hb2 bt hbt H.out.nt));have Hfv:=Lib.hid hfv;have htw:tb≠w.heap.size:=fun e=>by rcases hS2 tb hSt with h | h; have:=Hlt.out _ h; omega; omega
 have htt:tb≠bt:=fun e=>by
  rcases hS2 tb hSt with h | h
  ·exact (H.out.sv tb h).2 e
  ·omega
 have hz12:=hc2.size;have hbv2:bv<w2.heap.size:=by omega
 have Htc:=Lib.hid htc;have Hrc:=Lib.hid hrc;have Hov:=Lib.hid hov;have Hd2:=Lib.hid hd2
 have HF2:Hid (∀ q,F2 q→Grow F w w2 q∧q≠bv∧q≠bt∧q≠w.heap.size∧q<w2.heap.size):=fun q hq=>by
  rcases hF2 q hq with h | h
  ·exact ⟨.inl h,fun e=>H.out.nv (e▸h),fun e=>H.out.nt (e▸h),fun e=>by have:=HF.out q h; omega,by have:=HF.out q h; omega⟩
  ·exact ⟨.inr ⟨by omega,h.2⟩,by omega,by omega,by omega,h.2⟩
 have HS2:Hid (∀ q,S2 q→Grow S w w2 q∧q≠bv∧q≠bt∧q≠w.heap.size∧q<w2.heap.size):=fun q hq=>by
  rcases hS2 q hq with h | h
  ·exact ⟨.inl h,(H.out.sv q h).1,(H.out.sv q h).2,by have:=Hlt.out q h; omega,by have:=Hlt.out q h; omega⟩
  ·exact ⟨.inr ⟨by omega,h.2⟩,by omega,by omega,by omega,h.2⟩
 have HSF2:=Lib.hid hSF2;have HSS2:=Lib.hid hSS2;have hwt:w.heap.size≠bt:=by omega
 have Ha:Hid (∀ o:Obj,Below w2.heap.size w2 (w2.alloc o)):=fun o=>(Below.refl w2.heap.size w2).alloc (Nat.le_refl _) o
 have at1:∀ o,(w2.alloc o).cell? ⟨tb,tof,none⟩=_:=fun o=>(World.cell?_alloc_lt _ _ _ htb).trans htc
 have av1:∀ o,(w2.alloc o).cell? ⟨bv,1,none⟩=some (.map (some bt)):=fun o=>by rw [World.cell?_alloc_lt _ _ _ hbv2,cell_of_row _ _ _ _ _ _ hrow2]; rfl
 clear hL2 L hb1 hrc hov hd2 hc2 hF2 hSS2 hS2 hSF2 hmf hfv hb2 htc c0 hd1 hSt hrow2;have htb2:=htr _ hti;have hadd:IntKind.i64.wrap (v.tries (tagOf r3)+1)=v.tries (tagOf r3)+1:=IntWalk.i64_in _ (by omega);have hvi:i64 (v.tries (tagOf r3)+1):=by unfold i64; omega
 by_cases h3:v.tries (tagOf r3)+1<3;have h33:¬ v.tries (tagOf r3)+1=3:=by omega
 rotate_left;have h33:v.tries (tagOf r3)+1=3:=by omega
 rotate_left
 all_goals
  go_wp2_with fail;have hz3:(w2.alloc (.cells #[Value.bool r3.write,.int .i64 r3.lo,.int .i64 r3.many,.slice Bd r3.data.length bd7,.slice (some ⟨tb,tof,none⟩) r3.tags.length bt7,.int .i64 r3.born,.slice Bo (0:Nat) bo7,.int .i64 8] 123)).heap.size=w2.heap.size+1:=by simp
  have La:=HL2.out;have hBa:=Ha.out (.cells #[Value.bool r3.write,.int .i64 r3.lo,.int .i64 r3.many,.slice Bd r3.data.length bd7,.slice (some ⟨tb,tof,none⟩) r3.tags.length bt7,.int .i64 r3.born,.slice Bo (0:Nat) bo7,.int .i64 8] 123);generalize World.alloc _ _=W3 at La hz3 hBa ⊢;have La3:=Lib.hid La.drew;have HBa:=Lib.hid hBa;have hrow3:=(hBa.block bv hbv2).trans Hrow2.out;have hmap3:=Hmap2.out.keep (hBa.block bt (by omega));have cbt:W3.cell? ⟨bv,1,none⟩=some (.map (some bt)):=by rw [cell_of_row _ _ _ _ _ _ hrow3]; rfl
  have Hmap3:=Lib.hid hmap3;refine wp_region_still_tail 12 (by kernel_rfl) (by kernel_rfl) ?_;simp only [List.take_succ_cons,List.take_zero,List.drop_succ_cons,List.drop_zero];show wpStill _ _ (World.drew W3) (fun a'=>wpList _ _ _ _ a' (World.drew W3)) _ _;have cbtd:W3.drew.cell? ⟨bv,1,none⟩=some (.map (some bt)):=cbt;have hBd:=hBa.drew;have hmapd:=hmap3.keep (w':=W3.drew) rfl;have hzd:W3.drew.heap.size=w2.heap.size+1:=hz3;generalize W3.drew=Wd at cbtd hBd La3 hmapd hzd ⊢;have hlk:=hmapd.lookup hti;rw [Hfv.out _ hti] at hlk;have HmapD:=Lib.hid hmapd;have HBd:=Lib.hid hBd;clear La hBa hrow3 hmap3 at1 av1 cbt Hmap3 HBa hmapd hBd hz3;repeat still_step
  refine wpStill_nil ?_
 ·go_wp2_with (first
   |(at_mapUpdate; refine wpList_upd _ rfl (.tmp 43) (.tmp 44) (.tmp 51) rfl bt n f (tagOf r3) (v.tries (tagOf r3)+1) rfl rfl rfl HmapD.out hti hvi (by omega) ?_
     intro w4 hm4 hg4;have L4:=Lib.hid (La3.out.grown hg4 (.inr rfl) (fun x hx=>by simp at hx; rcases hx with rfl | rfl; show w2.heap.size≠bt; omega; exact hwt));have HT4:Hid (w4.there w.heap.size 0 zeroRsV.size):=L4.out.there 1 rfl _ rfl;obtain ⟨y0,y1,y2,y3,y4,y5,y6,y7⟩:=L4.out.c8 0 rfl;have Hm4:=Lib.hid hm4;have Hg4:=Lib.hid hg4;have hlk4:=hm4.lookup hti;rw [show upd f (tagOf r3) (v.tries (tagOf r3)+1) (tagOf r3)=v.tries (tagOf r3)+1 from if_pos rfl] at hlk4;have hrow4:=(hg4.block bv (by omega) (fun e=>H.out.ne (by injection e))).trans ((HBd.out.block bv hbv2).trans Hrow2.out);have cbt4:w4.cell? ⟨bv,1,none⟩=some (.map (some bt)):=by rw [cell_of_row _ _ _ _ _ _ hrow4]; rfl
     have cbd4:w4.cell? ⟨bv,0,none⟩=some (.pointer (some ⟨bd,0,none⟩)):=by rw [cell_of_row _ _ _ _ _ _ hrow4]; rfl
     have Hrow4:=Lib.hid hrow4
     clear hm4 hg4 hrow4 hlk))
  have hsz4:w2.heap.size+1≤w4.heap.size:=hzd▸Hg4.out.size
  have hgk:∀ q,q<w2.heap.size→q≠bt→w4.heap[q]?=w2.heap[q]?:=fun q hq h2 =>
   (Hg4.out.block q (by omega) (fun e=>h2 (by injection e))).trans (HBd.out.block q hq)
  have hl1:d'.l.length≤1:=by rw [← Hd'.out]; have:=Hok.out.two; have:=(List.getElem?_eq_some_iff.1 Hk.out).1; unfold Dv.drop; rw [List.length_eraseIdx]; split <;> omega
  obtain ⟨d2,hd2⟩:∃ x,(d'.start r3).1=x:=⟨_,rfl⟩
  have hst:d'.start r3=(d2,0):=by rw [← hd2]; unfold Dv.start; rw [if_neg (by omega)]
  have Hst:=Lib.hid hst;clear hst hd2;refine wp_region_still_tail 6 (by kernel_rfl) (by kernel_rfl) ?_;simp only [List.take_succ_cons,List.take_zero,List.drop_succ_cons,List.drop_zero];show wpStill _ _ (World.drew w4) (fun a'=>wpList _ _ _ _ a' (World.drew w4)) _ _;have hB4:Below w4.heap.size w4 w4.drew:=(Below.refl _ _).drew;have L4d:=L4.out.drew;have cbde:w4.drew.cell? ⟨bv,0,none⟩=some (.pointer (some ⟨bd,0,none⟩)):=cbd4;have hze:w4.drew.heap.size=w4.heap.size:=rfl
  obtain ⟨We,hWe⟩:∃ x,w4.drew=x:=⟨_,rfl⟩
  rw [hWe] at hB4 L4d cbde hze ⊢;clear y0 y1 y2 y3 y4 y5 y6 y7 cbt4 cbd4 hlk4 hWe;have Le:=Lib.hid L4d;have HB4:=Lib.hid hB4;have Hd4:=Lib.hid (((Hd2.out.more HSS2.out).keep (fun q hq hlt=>hgk q hlt (HF2.out q hq).2.2.1) (fun q hq hlt=>hgk q hlt (HS2.out q hq).2.2.1)).below hB4);have Hrc4:=Lib.hid ((Hrc.out.keep (fun q hq hlt=>hgk q hlt (HS2.out q hq).2.2.1)).below hB4);obtain ⟨y0,y1,y2,y3,y4,y5,y6,y7⟩:=Le.out.c8 0 rfl;clear L4d hB4;repeat still_step
  refine wpStill_nil ?_;go_wp2_with fail;refine (rdevstart_any S2 F2 We bd d' r3 _ Hd4.out Hrc4.out.req (fun q hq=>by have:=(HF2.out q hq).2.2.2.2; omega) HSF2.out (by omega)).mono ?_;rw [Hst.out];rintro e w5 ⟨rfl,hd5,hc5⟩
  have L5:=Lib.hid (Le.out.chg2 hc5 (fun q hq=>(HF2.out q hq).1.elim (fun h=>.inl (.inl h)) (fun h=>.inr h.1)) (fun x hx hf=>by
   simp at hx;rcases hx with rfl | rfl
   ·have:=(HF2.out _ hf).2.2.2.2
    simp only at this;omega
   ·exact (HF2.out _ hf).2.2.2.1 rfl))
  have Hd5:=Lib.hid hd5;have Hc5:=Lib.hid hc5;have HT5:Hid (w5.there w.heap.size 0 zeroRsV.size):=L5.out.there 1 rfl _ rfl;clear hd5 hc5 y0 y1 y2 y3 y4 y5 y6 y7
  go_wp2_with (first
   |(refine wpList_store_mid rfl 123 (.tmp 6) (.tmp 72) rfl w.heap.size 0 zeroRsV rfl rfl HT5.out Hi0.out Hz0.out ?_
     have L6:=Lib.hid (L5.out.put 1 rfl zeroRsV rfl);have hc6:Hid (Chg (fun q=>q=w.heap.size) w5 (w5.setCells w.heap.size 0 zeroRsV.toList)):=Chg.setCells (F:=fun q=>q=w.heap.size) (w:=w5) Chg.refl (.inl rfl) 0 zeroRsV.toList;generalize World.setCells _ _ _ _=W6 at L6 hc6 ⊢
     obtain ⟨z0,z1,z2,z3,z4,z5,z6,z7⟩:=L6.out.c8 1 rfl))
  refine bodyPost_ret (v:=.tuple #[.agg zeroRsV,.bool false,.int .i64 0]) (by simp [results,Tryz.results65,go_sem,z0,z1,z2,z3,z4,z5,z6,z7]) rfl ?_;refine ⟨?_,fun h=>absurd h3 (by omega)⟩;rw [congrArg Prod.fst Hst.out];have hsz5:w4.heap.size≤w5.heap.size:=hze▸Hc5.out.size;have hsz6:w5.heap.size≤W6.heap.size:=hc6.out.size;have hg5:∀ q,q<w4.heap.size→¬ F2 q→q≠w.heap.size→W6.heap[q]?=w4.heap[q]?:=fun q hq h1 h2=>((hc6.out.block q (by omega) h2).trans (Hc5.out.block q (by omega) h1)).trans (HB4.out.block q hq)
  have hF5:∀ q,Grow F2 We w5 q→Grow F w W6 q∧q≠bv∧q≠bt∧q≠w.heap.size:=fun q hq=>by
   rcases hq with hq | hq
   ·have:=HF2.out q hq
    exact ⟨this.1.elim .inl (fun h=>.inr ⟨h.1,by omega⟩),this.2.1,this.2.2.1,this.2.2.2.1⟩
   ·have h3:We.heap.size≤q:=hq.1
    exact ⟨.inr ⟨by omega,by omega⟩,by omega,by omega,by omega⟩
  have hS5:∀ q,S2 q→q<w5.heap.size→W6.heap[q]?=w5.heap[q]?:=fun q hq hlt=>hc6.out.block q hlt (HS2.out q hq).2.2.2.1
  refine ⟨_,Grow F2 We w5,S2,rfl,⟨zeroRc,_,rfl,rfl,zeroRc_ok _ _,strs_nil _ _⟩,⟨?_,?_,(Hd5.out).keep (fun q hq hlt=>hc6.out.block q hlt (hF5 q hq).2.2.2) hS5,fun hf=>(hF5 _ hf).2.1 rfl,fun hf=>(hF5 _ hf).2.2.1 rfl,fun q hq=>⟨(HS2.out q hq).2.1,(HS2.out q hq).2.2.1⟩⟩,L6.out.chg,fun q hq=>(hF5 q hq).1,HSS2.out,fun q hq=>(HS2.out q hq).1.elim .inl (fun h=>.inr ⟨h.1,by omega⟩),fun q hq hf=>hf.elim (HSF2.out q hq) (fun h=>by have:=(HS2.out q hq).2.2.2.2; have h3:We.heap.size≤q:=h.1; omega)⟩
  ·exact (hg5 bv (by omega) (fun hf=>(HF2.out _ hf).2.1 rfl) (by omega)).trans Hrow4.out
  ·refine ⟨_,(Hm4.out.keep (hg5 bt (by omega) (fun hf=>(HF2.out _ hf).2.2.1 rfl) (fun e=>hwt e.symm))).mono (by omega),fun j hj=>?_⟩
   show upd f (tagOf r3) _ j=upd v.tries (tagOf r3) _ j;unfold upd
   split
   ·rfl
   ·exact Hfv.out j hj
 ·go_wp2_with (first
   |(at_mapUpdate; refine wpList_upd _ rfl (.tmp 43) (.tmp 44) (.tmp 51) rfl bt n f (tagOf r3) 3 rfl rfl rfl HmapD.out hti (by unfold i64; omega) (by omega) ?_
     intro w4 hm4 hg4;have L4:=Lib.hid (La3.out.grown hg4 (.inr rfl) (fun x hx=>by simp at hx; rcases hx with rfl | rfl; show w2.heap.size≠bt; omega; exact hwt));have HT4:Hid (w4.there w.heap.size 0 zeroRsV.size):=L4.out.there 1 rfl _ rfl;obtain ⟨y0,y1,y2,y3,y4,y5,y6,y7⟩:=L4.out.c8 0 rfl;have Hm4:=Lib.hid hm4;have Hg4:=Lib.hid hg4;have hlk4:=hm4.lookup hti;rw [show upd f (tagOf r3) 3 (tagOf r3)=3 from if_pos rfl] at hlk4;have hrow4:=(hg4.block bv (by omega) (fun e=>H.out.ne (by injection e))).trans ((HBd.out.block bv hbv2).trans Hrow2.out);have cbt4:w4.cell? ⟨bv,1,none⟩=some (.map (some bt)):=by rw [cell_of_row _ _ _ _ _ _ hrow4]; rfl
     have cbd4:w4.cell? ⟨bv,0,none⟩=some (.pointer (some ⟨bd,0,none⟩)):=by rw [cell_of_row _ _ _ _ _ _ hrow4]; rfl
     have Hrow4:=Lib.hid hrow4
     clear hm4 hg4 hrow4 hlk)
   |(at_mapUpdate; refine wpList_upd _ rfl (.tmp 62) (.tmp 63) (.const (.int .i64 0)) rfl bt (n+1) _ (tagOf r3) 0 rfl rfl rfl Hm4.out hti (by unfold i64; omega) (by omega) ?_
     intro w5 hm5 hg5;have L5:=Lib.hid (L4.out.grown hg5 (.inr rfl) (fun x hx=>by simp at hx; rcases hx with rfl | rfl; show w2.heap.size≠bt; omega; exact hwt));have HT5:Hid (w5.there w.heap.size 0 zeroRsV.size):=L5.out.there 1 rfl _ rfl;clear y0 y1 y2 y3 y4 y5 y6 y7;obtain ⟨y0,y1,y2,y3,y4,y5,y6,y7⟩:=L5.out.c8 0 rfl;have Hm5:=Lib.hid hm5;have Hg5:=Lib.hid hg5
     clear hm5 hg5)
   |(refine wpList_store_mid rfl 123 (.tmp 6) (.tmp 64) rfl w.heap.size 0 #[Value.bool r3.write,.int .i64 r3.lo,.int .i64 r3.many,.slice Bd r3.data.length bd7,.slice (some ⟨tb,tof,none⟩) r3.tags.length bt7,.int .i64 r3.born,.slice Bo (0:Nat) bo7,.int .i64 8] rfl rfl HT5.out Hi.out Hz.out ?_
     have L6:=Lib.hid (L5.out.put 1 rfl #[Value.bool r3.write,.int .i64 r3.lo,.int .i64 r3.many,.slice Bd r3.data.length bd7,.slice (some ⟨tb,tof,none⟩) r3.tags.length bt7,.int .i64 r3.born,.slice Bo (0:Nat) bo7,.int .i64 8] rfl);have hc6:Hid (Chg (fun q=>q=w.heap.size) w5 (w5.setCells w.heap.size 0 (#[Value.bool r3.write,.int .i64 r3.lo,.int .i64 r3.many,.slice Bd r3.data.length bd7,.slice (some ⟨tb,tof,none⟩) r3.tags.length bt7,.int .i64 r3.born,.slice Bo (0:Nat) bo7,.int .i64 8]:Array Value).toList)):=Chg.setCells (F:=fun q=>q=w.heap.size) (w:=w5) Chg.refl (.inl rfl) 0 (#[Value.bool r3.write,.int .i64 r3.lo,.int .i64 r3.many,.slice Bd r3.data.length bd7,.slice (some ⟨tb,tof,none⟩) r3.tags.length bt7,.int .i64 r3.born,.slice Bo (0:Nat) bo7,.int .i64 8]:Array Value).toList;generalize World.setCells _ _ _ _=W6 at L6 hc6 ⊢
     obtain ⟨z0,z1,z2,z3,z4,z5,z6,z7⟩:=L6.out.c8 1 rfl))
  refine bodyPost_ret (v:=.tuple #[.agg #[Value.bool r3.write,.int .i64 r3.lo,.int .i64 r3.many,.slice Bd r3.data.length bd7,.slice (some ⟨tb,tof,none⟩) r3.tags.length bt7,.int .i64 r3.born,.slice Bo (0:Nat) bo7,.int .i64 8],.bool true,.int .i64 0]) (by simp [results,Tryz.results65,go_sem,z0,z1,z2,z3,z4,z5,z6,z7]) rfl ?_;have hsz4:w2.heap.size+1≤w4.heap.size:=hzd▸Hg4.out.size;have hsz5:w4.heap.size≤w5.heap.size:=Hg5.out.size;have hsz6:w5.heap.size≤W6.heap.size:=hc6.out.size
  have hkk:∀ q,q<w2.heap.size→q≠w.heap.size→q≠bt→W6.heap[q]?=w2.heap[q]?:=fun q hq h1 h2 =>
   (((hc6.out.block q (by omega) h1).trans (Hg5.out.block q (by omega) (fun e=>h2 (by injection e)))).trans (Hg4.out.block q (by omega) (fun e=>h2 (by injection e)))).trans (HBd.out.block q hq)
  have hkS:∀ q,S2 q→q<w2.heap.size→W6.heap[q]?=w2.heap[q]?:=fun q hq hlt=>hkk q hlt (HS2.out q hq).2.2.2.1 (HS2.out q hq).2.2.1
  have hkF:∀ q,F2 q→q<w2.heap.size→W6.heap[q]?=w2.heap[q]?:=fun q hq hlt=>hkk q hlt (HF2.out q hq).2.2.2.1 (HF2.out q hq).2.2.1
  try refine ⟨fun h=>absurd h (by omega),?_⟩
  refine ⟨_,F2,S2,rfl,⟨_,_,rfl,rfl,Hrc.out.keep hkS,Hov.out.keep hkS⟩,⟨?_,?_,(Hd2.out.more HSS2.out).keep hkF hkS,fun hf=>(HF2.out _ hf).2.1 rfl,fun hf=>(HF2.out _ hf).2.2.1 rfl,fun q hq=>⟨(HS2.out q hq).2.1,(HS2.out q hq).2.2.1⟩⟩,L6.out.chg,fun q hq=>(HF2.out q hq).1.elim .inl (fun h=>.inr ⟨h.1,by omega⟩),HSS2.out,fun q hq=>(HS2.out q hq).1.elim .inl (fun h=>.inr ⟨h.1,by omega⟩),HSF2.out⟩
  ·exact (hkk bv (by omega) (by omega) H.out.ne).trans Hrow2.out
  ·refine ⟨_,(Hm5.out.keep (hc6.out.block bt (by omega) (fun e=>hwt e.symm))),fun j hj=>?_⟩
   show upd (upd f (tagOf r3) 3) (tagOf r3) 0 j=upd v.tries (tagOf r3) 0 j;unfold upd
   split
   ·rfl
   ·exact Hfv.out j hj
theorem rdrvend_gone (S F:Nat→Prop) (w:World) (bv bd bt n k:Nat) (v:Drv) (r:Rq) (h:DrvAt TDr TPr TVr S F w bv bd bt n v) (hk:v.d.l[k]?=some r) (hok:DvOk v.d) (hwl:v.d.waits.length≤900000000) (hn:n≤900000000) (htr:∀ j,i64 j→0≤v.tries j∧v.tries j≤2) (h3:¬ v.tries (tagOf r)+1<3)
  (hF:∀ k,F k→k<w.heap.size) (hSF:∀ k,S k→¬ F k) (hSlt:∀ k,S k→k<w.heap.size) :
  Calls Tryz.prog 65 #[.pointer (some ⟨bv,0,none⟩),.int .i64 (k:Int),.bool true] w (RetDrv TDr TPr TVr S F w bv bd bt (n+1) ⟨v.d.drop k,upd v.tries (tagOf r) 0⟩ ⟨r,[],8⟩ true (.int .i64 0)) :=
 (rdrvend_true S F w bv bd bt n k v r h hk hok hwl hn htr hF hSF hSlt).mono fun _ _ h=>h.2 h3
theorem rdrvend_again (S F:Nat→Prop) (w:World) (bv bd bt n k:Nat) (v:Drv) (r:Rq) (h:DrvAt TDr TPr TVr S F w bv bd bt n v) (hk:v.d.l[k]?=some r) (hok:DvOk v.d) (hwl:v.d.waits.length≤900000000) (hn:n≤900000000) (htr:∀ j,i64 j→0≤v.tries j∧v.tries j≤2) (h3:v.tries (tagOf r)+1<3)
  (hF:∀ k,F k→k<w.heap.size) (hSF:∀ k,S k→¬ F k) (hSlt:∀ k,S k→k<w.heap.size) :
  Calls Tryz.prog 65 #[.pointer (some ⟨bv,0,none⟩),.int .i64 (k:Int),.bool true] w (RetDrv TDr TPr TVr S F w bv bd bt (n+1) ⟨((v.d.drop k).start r).1,upd v.tries (tagOf r) (v.tries (tagOf r)+1)⟩ zeroRs false (.int .i64 0)) :=
 (rdrvend_true S F w bv bd bt n k v r h hk hok hwl hn htr hF hSF hSlt).mono fun _ _ h=>h.1 h3
end Go.Proofs.YtagndjihiklmiaaGreatDoor
