/- The driver ends a request that isn't there; what it does with any; it starts one; has it room; a new one. -/
import Derived.Test.YtagndjihiklmiaaGreatDoorQ13
import Derived.Test.YtagndjihiklmiaaGreatDoorQ11
set_option linter.unusedSimpArgs false
set_option linter.unusedVariables false
set_option maxRecDepth 100000
set_option maxHeartbeats 8000000
namespace Go.Proofs.YtagndjihiklmiaaGreatDoor
open Go.RowKit
theorem drvend_none (S F:Nat→Prop) (w:World) (bv bd bt n:Nat) (v:Drv) (i:Int) (ft:Bool) (h:DrvAt TDp TPp TVp S F w bv bd bt n v) (hi:i<0∨(v.d.l.length:Int)≤i)
  (hF:∀ k,F k→k<w.heap.size) (hSF:∀ k,S k→¬ F k) (hSlt:∀ k,S k→k<w.heap.size) :
  Calls Tryz.prog 89 #[.pointer (some ⟨bv,0,none⟩),.int .i64 i,.bool ft] w (RetDrv TDp TPp TVp S F w bv bd bt n v zeroRs false (errV 5)):=by
 have hbv:=(Array.getElem?_eq_some_iff.1 h.row).1;have c0:∀ o,(w.alloc o).cell? ⟨bv,0,none⟩=some (.pointer (some ⟨bd,0,none⟩)):=fun o=>by rw [World.cell?_alloc_lt _ _ _ hbv,cell_of_row _ _ _ _ _ _ h.row]; rfl
 have H:=Lib.hid h;have HF:=Lib.hid hF;have HS:=Lib.hid hSF;have Hlt:=Lib.hid hSlt;have Hi':=Lib.hid hi;have Hq:=Lib.hid (endAt_none v.d i ft hi);clear h hF hSF hSlt hi;go_enter Tryz.func89,Tryz.ntmps89;go_wp2_with fail;have L:=(LayF.refl (fun k=>F k∨k=bt) w).alloc' w.heap.size zeroRsV 123 rfl;have hb1:Below w.heap.size w _:=(Below.refl w.heap.size w).alloc (Nat.le_refl _) (.cells zeroRsV 123);have hs1:(w.alloc (.cells zeroRsV 123)).heap.size=w.heap.size+1:=by simp
 generalize World.alloc _ _=W1 at L hb1 hs1 ⊢;have hd1:=H.out.dev.below hb1;refine (devend_none S F W1 bd v.d i ft hd1 Hi'.out HS.out (fun k hk=>by have:=Hlt.out k hk; omega)).mono ?_;rw [Hq.out];rintro e w2 ⟨x2,F2,S2,rfl,hrs,hd2,hc2,_,hF2,hSS2,hS2,hSF2⟩;simp only at hrs hd2 ⊢
 obtain ⟨zr,hzr⟩:∃ x,x=zeroRs:=⟨_,rfl⟩
 rw [← hzr] at hrs;clear hzr;obtain ⟨zq,zd,ze⟩:=zr;obtain ⟨rc,ov,ev,erc,hrc,hov⟩:=hrs;obtain ⟨r3,rdv,rtv⟩:=rc;simp only at erc ev hov;obtain ⟨Bd,bd7,e1,_,_⟩:=hrc.data.form;obtain ⟨Bt,bt7,e2,_,_⟩:=hrc.tags.form;obtain ⟨Bo,bo7,e3,_,_⟩:=hov.form;simp only at e1 e2;subst erc;subst e1 e2 e3 ev
 have hL2:=L.chg2 hc2 (fun k hk=>.inl (.inl hk)) (fun x hx hf=>by
  simp only [List.mem_cons,List.not_mem_nil,or_false] at hx;subst hx;have:=HF.out _ hf;simp only at this
  omega)
 have HL2:=Lib.hid hL2;have HT:Hid (w2.there w.heap.size 0 (#[Value.bool r3.write,.int .i64 r3.lo,.int .i64 r3.many,.slice Bd r3.data.length bd7,.slice Bt r3.tags.length bt7,.int .i64 r3.born,.slice Bo zd.length bo7,.int .i64 ze]:Array Value).size):=hL2.there 0 rfl _ rfl;have Hi:Hid ((Tryz.prog.info? 123).map (·.size)=some (#[Value.bool r3.write,.int .i64 r3.lo,.int .i64 r3.many,.slice Bd r3.data.length bd7,.slice Bt r3.tags.length bt7,.int .i64 r3.born,.slice Bo zd.length bo7,.int .i64 ze]:Array Value).size):=resInfo;have Hi0:Hid ((Tryz.prog.info? 123).map (·.size)=some zeroRsV.size):=resInfo;have Hz:Hid ((#[Value.bool r3.write,.int .i64 r3.lo,.int .i64 r3.many,.slice Bd r3.data.length bd7,.slice Bt r3.tags.length bt7,.int .i64 r3.born,.slice Bo zd.length bo7,.int .i64 ze]:Array Value).all (·.oneCell')=true):=one8 _ _ _ _ _ _ _ _ _ _ _ _ _ _;have Hz0:Hid (zeroRsV.all (·.oneCell')=true):=one8 _ _ _ _ _ _ _ _ _ _ _ _ _ _;have hb2:∀ q,q<w.heap.size→¬ F q→w2.heap[q]?=w.heap[q]?:=fun q hq hf=>(hc2.block q (by omega) hf).trans (hb1.block q hq)
 have Hrow2:=Lib.hid ((hb2 bv hbv H.out.nv).trans H.out.row);obtain ⟨f,hmf,hfv⟩:=H.out.map;have hbt:=hmf.lt;have Hmap2:=Lib.hid (hmf.keep (hb2 bt hbt H.out.nt));have Hfv:=Lib.hid hfv;have Hd2:=Lib.hid hd2
 have HF2:Hid (∀ q,F2 q→Grow F w w2 q∧q≠bv∧q≠bt∧q≠w.heap.size):=fun q hq=>by
  rcases hF2 q hq with h | h
  ·exact ⟨.inl h,fun e=>H.out.nv (e▸h),fun e=>H.out.nt (e▸h),fun e=>by have:=HF.out q h; omega⟩
  ·exact ⟨.inr ⟨by omega,h.2⟩,by omega,by omega,by omega⟩
 have HS2:Hid (∀ q,S2 q→Grow S w w2 q∧q≠bv∧q≠bt∧q≠w.heap.size∧q<w2.heap.size):=fun q hq=>by
  rcases hS2 q hq with h | h
  ·exact ⟨.inl h,(H.out.sv q h).1,(H.out.sv q h).2,by have:=Hlt.out q h; omega,by have:=Hlt.out q h; have:=hc2.size; omega⟩
  ·exact ⟨.inr ⟨by omega,h.2⟩,by omega,by omega,by omega,h.2⟩
 have HSF2:=Lib.hid hSF2;have HSS2:=Lib.hid hSS2;have hz12:=hc2.size;have hwt:w.heap.size≠bt:=by omega
 clear hL2 L hb1 hrc hov hd2 hc2 hF2 hSS2 hS2 hSF2 hmf hfv hb2 c0 hd1;have hnn:errV 5=.iface 38 (.int .i64 5):=rfl;rw [hnn]
 go_wp2_with (first
  |(refine wpList_store_mid rfl 123 (.tmp 6) (.tmp 18) rfl w.heap.size 0 #[Value.bool r3.write,.int .i64 r3.lo,.int .i64 r3.many,.slice Bd r3.data.length bd7,.slice Bt r3.tags.length bt7,.int .i64 r3.born,.slice Bo zd.length bo7,.int .i64 ze] rfl rfl HT.out Hi.out Hz.out ?_
    have L3:=Lib.hid (HL2.out.put 0 rfl #[Value.bool r3.write,.int .i64 r3.lo,.int .i64 r3.many,.slice Bd r3.data.length bd7,.slice Bt r3.tags.length bt7,.int .i64 r3.born,.slice Bo zd.length bo7,.int .i64 ze] rfl);have hc3:Hid (Chg (fun q=>q=w.heap.size) w2 (w2.setCells w.heap.size 0 (#[Value.bool r3.write,.int .i64 r3.lo,.int .i64 r3.many,.slice Bd r3.data.length bd7,.slice Bt r3.tags.length bt7,.int .i64 r3.born,.slice Bo zd.length bo7,.int .i64 ze]:Array Value).toList)):=Chg.setCells (F:=fun q=>q=w.heap.size) (w:=w2) Chg.refl (.inl rfl) 0 (#[Value.bool r3.write,.int .i64 r3.lo,.int .i64 r3.many,.slice Bd r3.data.length bd7,.slice Bt r3.tags.length bt7,.int .i64 r3.born,.slice Bo zd.length bo7,.int .i64 ze]:Array Value).toList;generalize World.setCells _ _ _ _=W3 at L3 hc3 ⊢
    have HT3:Hid (W3.there w.heap.size 0 zeroRsV.size):=L3.out.there 0 rfl _ rfl)
  |(refine wpList_store_mid rfl 123 (.tmp 6) (.tmp 22) rfl w.heap.size 0 zeroRsV rfl rfl HT3.out Hi0.out Hz0.out ?_
    have L5:=Lib.hid (L3.out.put 0 rfl zeroRsV rfl);have hc5:Hid (Chg (fun q=>q=w.heap.size) W3 (W3.setCells w.heap.size 0 zeroRsV.toList)):=Chg.setCells (F:=fun q=>q=w.heap.size) (w:=W3) Chg.refl (.inl rfl) 0 zeroRsV.toList;generalize World.setCells _ _ _ _=W5 at L5 hc5 ⊢
    obtain ⟨z0,z1,z2,z3,z4,z5,z6,z7⟩:=L5.out.c8 0 rfl))
 refine bodyPost_ret (v:=.tuple #[.agg zeroRsV,.bool false,.iface 38 (.int .i64 5)]) (by simp [results,Tryz.results89,go_sem,errV,z0,z1,z2,z3,z4,z5,z6,z7]) rfl ?_;have hsz3:w2.heap.size≤W3.heap.size:=hc3.out.size;have hsz5:W3.heap.size≤W5.heap.size:=hc5.out.size
 have hkk:∀ q,q<w2.heap.size→q≠w.heap.size→W5.heap[q]?=w2.heap[q]?:=fun q hq h1 =>
  (hc5.out.block q (by omega) h1).trans (hc3.out.block q hq h1)
 have hkS:∀ q,S2 q→q<w2.heap.size→W5.heap[q]?=w2.heap[q]?:=fun q hq hlt=>hkk q hlt (HS2.out q hq).2.2.2.1
 have hkF:∀ q,F2 q→q<w2.heap.size→W5.heap[q]?=w2.heap[q]?:=fun q hq hlt=>hkk q hlt (HF2.out q hq).2.2.2
 refine ⟨_,F2,S2,rfl,⟨zeroRc,_,rfl,rfl,zeroRc_ok _ _,strs_nil _ _⟩,⟨?_,?_,(Hd2.out.more HSS2.out).keep hkF hkS,fun hf=>(HF2.out _ hf).2.1 rfl,fun hf=>(HF2.out _ hf).2.2.1 rfl,fun q hq=>⟨(HS2.out q hq).2.1,(HS2.out q hq).2.2.1⟩⟩,L5.out.chg,fun q hq=>(HF2.out q hq).1.elim .inl (fun h=>.inr ⟨h.1,by omega⟩),HSS2.out,fun q hq=>(HS2.out q hq).1.elim .inl (fun h=>.inr ⟨h.1,by omega⟩),HSF2.out⟩
 ·exact (hkk bv (by omega) (by omega)).trans Hrow2.out
 ·exact ⟨_,(Hmap2.out.keep (hkk bt (by omega) (fun e=>hwt e.symm))).mono (Nat.le_succ n),Hfv.out⟩
theorem drvEndAt_none (v:Drv) (i:Int) (f:Bool) (h:i<0∨(v.d.l.length:Int)≤i):v.endAt i f=(v,zeroRs,false,5):=by
 unfold Drv.endAt;simp [endAt_none v.d i f h]
theorem ended_ok_err (d:Dv) (r:Rq) (k:Nat):(d.ended r k false).2.err=0∧(d.ended r k false).2.req=r:=by
 unfold Dv.ended;rw [if_neg (by simp)]
 split <;> exact ⟨rfl,rfl⟩
theorem drvEndAt_ok (v:Drv) (k:Nat) (r:Rq) (h:v.d.l[k]?=some r):v.endAt (k:Int) false=(⟨(v.d.ended r k false).1,upd v.tries (tagOf r) 0⟩,(v.d.ended r k false).2,true,0):=by
 unfold Drv.endAt;simp [endAt_some v.d k false r h,ended_ok_err]
theorem start_drop {d:Dv} {k:Nat} {r:Rq} (h:d.l[k]?=some r) (h2:d.l.length≤2):((d.drop k).start r).2=0:=by
 have hk:=(List.getElem?_eq_some_iff.1 h).1;have:(d.drop k).l.length≤1:=by unfold Dv.drop; rw [List.length_eraseIdx]; split <;> omega
 unfold Dv.start;rw [if_neg (by omega)]
theorem drvEndAt_again (v:Drv) (k:Nat) (r:Rq) (h:v.d.l[k]?=some r) (h2:v.d.l.length≤2) (h3:v.tries (tagOf r)+1<3):v.endAt (k:Int) true=(⟨((v.d.drop k).start r).1,upd v.tries (tagOf r) (v.tries (tagOf r)+1)⟩,zeroRs,false,0):=by
 have:=start_drop h h2;unfold Drv.endAt;simp [endAt_some v.d k true r h,Dv.ended,h3,this]
theorem drvEndAt_gone (v:Drv) (k:Nat) (r:Rq) (h:v.d.l[k]?=some r) (h3:¬ v.tries (tagOf r)+1<3):v.endAt (k:Int) true=(⟨v.d.drop k,upd v.tries (tagOf r) 0⟩,⟨r,[],8⟩,true,0):=by
 unfold Drv.endAt;simp [endAt_some v.d k true r h,Dv.ended,h3]
theorem drvend_any (S F:Nat→Prop) (w:World) (bv bd bt n:Nat) (v:Drv) (i:Int) (f:Bool) (h:DrvAt TDp TPp TVp S F w bv bd bt n v) (hok:DvOk v.d) (hwl:v.d.waits.length≤900000000) (hn:n≤900000000) (htr:∀ j,i64 j→0≤v.tries j∧v.tries j≤2)
  (hF:∀ k,F k→k<w.heap.size) (hSF:∀ k,S k→¬ F k) (hSlt:∀ k,S k→k<w.heap.size) :
  Calls Tryz.prog 89 #[.pointer (some ⟨bv,0,none⟩),.int .i64 i,.bool f] w (RetDrv TDp TPp TVp S F w bv bd bt n (v.endAt i f).1 (v.endAt i f).2.1 (v.endAt i f).2.2.1 (errV (v.endAt i f).2.2.2)):=by
 rcases endAt_split v.d i with hi | ⟨k,r,rfl,hk⟩
 ·rw [drvEndAt_none v i f hi]
  exact drvend_none S F w bv bd bt n v i f h hi hF hSF hSlt
 ·cases f with
  |false =>
   rw [drvEndAt_ok v k r hk];exact drvend_ok S F w bv bd bt n k v r h hk hok hwl hn hF hSF hSlt
  |true =>
   by_cases h3:v.tries (tagOf r)+1<3
   ·rw [drvEndAt_again v k r hk hok.two h3]
    exact drvend_again S F w bv bd bt n k v r h hk hok hwl hn htr h3 hF hSF hSlt
   ·rw [drvEndAt_gone v k r hk h3]
    exact drvend_gone S F w bv bd bt n k v r h hk hok hwl hn htr h3 hF hSF hSlt
def RetDrvS (TD TP TV:TypeId) (S F:Nat→Prop) (w:World) (bv bd bt n:Nat) (v':Drv) (u:Value):Ending→World→Prop :=
 fun e w'=>e=.returned u∧DrvAt TD TP TV S (Grow F w w') w' bv bd bt n v'∧Chg F w w'
theorem drvstart_any (S F:Nat→Prop) (w:World) (bv bd bt n:Nat) (v:Drv) (r:Rq) (rv:Value) (h:DrvAt TDp TPp TVp S F w bv bd bt n v) (hr:ReqAt S w rv r) (hF:∀ k,F k→k<w.heap.size) (hSF:∀ k,S k→¬ F k) (hSlt:∀ k,S k→k<w.heap.size) (h2:v.d.l.length≤2) :
  Calls Tryz.prog 88 #[.pointer (some ⟨bv,0,none⟩),rv] w (RetDrvS TDp TPp TVp S F w bv bd bt n { v with d:=(v.d.start r).1 } (errV (v.d.start r).2)):=by
 obtain ⟨Ad,cd,At,ct,rfl,_,_,_,_,_,_,_⟩:=hr.opened;have hbv:=(Array.getElem?_eq_some_iff.1 h.row).1;obtain ⟨f,hmf,hfv⟩:=h.map;have hbt:=hmf.lt;have c0:∀ o,(w.alloc o).cell? ⟨bv,0,none⟩=some (.pointer (some ⟨bd,0,none⟩)):=fun o=>by rw [World.cell?_alloc_lt _ _ _ hbv,cell_of_row _ _ _ _ _ _ h.row]; rfl
 have H:=Lib.hid h;have Hr:=Lib.hid hr;have HF:=Lib.hid hF;have HS:=Lib.hid hSF;have Hlt:=Lib.hid hSlt;have Hm:=Lib.hid hmf;have Hfv:=Lib.hid hfv
 obtain ⟨d2,hd2⟩:∃ x,v.d.start r=x:=⟨_,rfl⟩
 have Hq:=Lib.hid hd2;rw [hd2];clear h hr hF hSF hSlt hmf hfv hd2;go_enter Tryz.func88,Tryz.ntmps88;go_wp2_with fail;have L:=Lib.hid ((Lay.refl w).alloc' w.heap.size #[Value.bool r.write,Value.int IntKind.i64 r.lo,Value.int IntKind.i64 r.many,Value.slice Ad r.data.length cd,Value.slice At r.tags.length ct,Value.int IntKind.i64 r.born] 117 (by simp));have hc0:=c0 (.cells #[Value.bool r.write,Value.int IntKind.i64 r.lo,Value.int IntKind.i64 r.many,Value.slice Ad r.data.length cd,Value.slice At r.tags.length ct,Value.int IntKind.i64 r.born] 117);have hs1:(w.alloc (.cells #[Value.bool r.write,Value.int IntKind.i64 r.lo,Value.int IntKind.i64 r.many,Value.slice Ad r.data.length cd,Value.slice At r.tags.length ct,Value.int IntKind.i64 r.born] 117)).heap.size=w.heap.size+1:=by simp
 generalize World.alloc _ _=W1 at L hc0 hs1 ⊢;obtain ⟨y0,y1,y2,y3,y4,y5⟩:=L.out.c6 0 rfl;have hbb:Below w.heap.size w W1.drew:=L.out.below.drew;have Hbb:=Lib.hid hbb;clear c0 hbb
 go_region_law
  (first
   |(go_simp
     go_at_call 130;refine (devstart_any S F _ bd v.d r _ (H.out.dev.below Hbb.out) (Hr.out.below Hbb.out) (fun q hq=>by have:=HF.out q hq; show q<W1.heap.size; omega) HS.out h2).mono ?_;rw [Hq.out];rintro e w5 ⟨rfl,hd5,hc5⟩;have Hd5:=Lib.hid hd5;have Hc5:=Lib.hid hc5
     clear hd5 hc5))
 all_goals
  go_wp2_with fail;go_ret;have hs5:W1.heap.size≤w5.heap.size:=Hc5.out.size;have hk:∀ q,q<w.heap.size→¬ F q→w5.heap[q]?=w.heap[q]?:=fun q hq hf=>(Hc5.out.block q (by show q<W1.heap.size; omega) hf).trans (Hbb.out.block q hq)
  have hG:∀ q,Grow F W1.drew w5 q→Grow F w w5 q:=fun q hq=>hq.elim .inl (fun h=>by have h1:W1.heap.size≤q:=h.1; exact .inr ⟨by omega,h.2⟩)
  refine ⟨rfl,⟨(hk bv hbv H.out.nv).trans H.out.row,⟨_,Hm.out.keep (hk bt hbt H.out.nt),Hfv.out⟩,Hd5.out.mono hG,?_,?_,H.out.sv⟩,(Chg.of_below Hbb.out).trans (Hc5.out.mono (fun q h=>.inl h))⟩
  ·exact fun hf=>hf.elim H.out.nv (fun h=>by omega)
  ·exact fun hf=>hf.elim H.out.nt (fun h=>by omega)
theorem drvroom_any (S F:Nat→Prop) (w:World) (bv bd bt n:Nat) (v:Drv) (h:DrvAt TDp TPp TVp S F w bv bd bt n v) (h2:v.d.l.length≤2) :
  Calls Tryz.prog 85 #[.pointer (some ⟨bv,0,none⟩)] w (fun e w'=>e=.returned (.bool (decide (v.d.l.length<2)))∧Below w.heap.size w w'):=by
 have c0:w.cell? ⟨bv,0,none⟩=some (.pointer (some ⟨bd,0,none⟩)):=by rw [cell_of_row _ _ _ _ _ _ h.row]; rfl
 have H:=Lib.hid h;clear h;go_enter Tryz.func85,Tryz.ntmps85;go_wp2_with fail;refine (devbusy_any S F w bd v.d H.out.dev h2).mono ?_;rintro e w1 ⟨u,rfl,hv,hb⟩;obtain ⟨A,c,rfl,_,_⟩:=hv.form;have Hb:=Lib.hid hb;clear hv hb;go_wp2_with fail;go_ret;refine ⟨?_,Hb.out⟩;simp;omega
theorem drvnew_any (S F:Nat→Prop) (w:World) (bd:Nat) (d:Dv) (h:DevAt TDp TPp S F w bd d) (hF:∀ k,F k→k<w.heap.size) (hSlt:∀ k,S k→k<w.heap.size) :
  Calls Tryz.prog 72 #[.pointer (some ⟨bd,0,none⟩)] w (fun e w'=>e=.returned (.pointer (some ⟨w.heap.size+1,0,none⟩))∧DrvAt TDp TPp TVp S F w' (w.heap.size+1) bd w.heap.size 0 ⟨d,fun _=>0⟩∧Below w.heap.size w w'∧w'.heap.size=w.heap.size+2):=by
 have H:=Lib.hid h;have HF:=Lib.hid hF;have Hlt:=Lib.hid hSlt;clear h hF hSlt;have hmm:=@run_makeMap Tryz.prog;go_enter Tryz.func72,Tryz.ntmps72;go_wp2_with fail;go_ret;have hb1:Below w.heap.size w (w.alloc (.map #[] 0)):=(Below.refl _ _).alloc (Nat.le_refl _) _;have hs1:(w.alloc (.map #[] 0)).heap.size=w.heap.size+1:=by simp
 have hm:=MapAt.made w;generalize w.alloc (.map #[] 0)=W1 at hb1 hs1 hm ⊢;have hb2:Below W1.heap.size W1 (W1.alloc (.cells #[.pointer (some ⟨bd,0,none⟩),.map (some w.heap.size)] TVp)):=(Below.refl _ _).alloc (Nat.le_refl _) _;have hs2:(W1.alloc (.cells #[.pointer (some ⟨bd,0,none⟩),.map (some w.heap.size)] TVp)).heap.size=W1.heap.size+1:=by simp
 have hr2:(W1.alloc (.cells #[.pointer (some ⟨bd,0,none⟩),.map (some w.heap.size)] TVp)).heap[W1.heap.size]?=some (.cells #[.pointer (some ⟨bd,0,none⟩),.map (some w.heap.size)] TVp (0,0)):=heap_alloc_new _ _;generalize hW:W1.alloc (.cells #[.pointer (some ⟨bd,0,none⟩),.map (some w.heap.size)] TVp)=W2 at hb2 hs2 hr2 ⊢;rw [hs1] at hr2;have hbb:=hb1.trans (hb2.mono (by omega));refine ⟨rfl,⟨hr2,⟨_,hm.keep (hb2.block _ (by omega)),fun k hk=>rfl⟩,H.out.below hbb,fun hf=>by have:=HF.out _ hf; omega,fun hf=>by have:=HF.out _ hf; omega,fun k hk=>by have:=Hlt.out _ hk; constructor <;> omega⟩,hbb,by omega⟩
end Go.Proofs.YtagndjihiklmiaaGreatDoor
namespace Go.Proofs.YtagndjihiklmiaaGreatDoor
open Go.RowKit
def Bf.cells (b:Bf):List Value:=[.int .i64 b.pos,.string b.data,.bool b.dirty,.int .i64 b.used]
abbrev bfV (b:Bf):Value:=.agg #[.int .i64 b.pos,.string b.data,.bool b.dirty,.int .i64 b.used]
structure BfOk (b:Bf):Prop where
 pos:i64 b.pos
 used:i64 b.used
 data:b.data.size≤maxLen
def flatB (l:List Bf):List Value:=l.flatMap Bf.cells
def BufsAt (S:Nat→Prop) (w:World) (v:Value) (l:List Bf):Prop:=Rd S w 4 v l.length (flatB l)∧∀ b ∈ l,BfOk b
theorem flatB_len (l:List Bf):(flatB l).length=l.length * 4:=by
 induction l with
 |nil=>rfl
 |cons b l ih=>rw [flatB,List.flatMap_cons,List.length_append]; rw [flatB] at ih; rw [ih]; simp [Bf.cells]; omega
theorem flatB_app (a b:List Bf):flatB (a ++ b)=flatB a ++ flatB b:=by simp [flatB]
theorem flatB_cons (b:Bf) (l:List Bf):flatB (b :: l)=b.cells ++ flatB l:=rfl
theorem flatB_get:∀ (l:List Bf) (i j:Nat) (b:Bf),l[i]?=some b→j<4→(flatB l)[i * 4+j]?=b.cells[j]?:=by
 intro l
 induction l with
 |nil=>intro i j c h _; simp at h
 |cons a cs ih =>
  intro i j c h hj;rw [flatB_cons]
  cases i with
  |zero =>
   simp at h; subst h;rw [List.getElem?_append_left (by simp [Bf.cells]; omega)];simp
  |succ i =>
   rw [List.getElem?_append_right (by simp [Bf.cells]; omega)];simp at h;rw [← ih i j c h hj]
   congr 1
   simp [Bf.cells]; omega
theorem flatB_take:∀ (l:List Bf) (i:Nat),(flatB l).take (i * 4)=flatB (l.take i):=by
 intro l
 induction l with
 |nil=>intro i; simp [flatB]
 |cons a l ih =>
  intro i
  cases i with
  |zero=>simp [flatB]
  |succ i =>
   rw [flatB_cons,List.take_succ_cons,flatB_cons,← ih,List.take_append];have:(i+1) * 4 - a.cells.length=i * 4:=by simp [Bf.cells]; omega
   rw [this,List.take_of_length_le (by simp [Bf.cells]; omega)]
theorem flatB_drop:∀ (l:List Bf) (i:Nat),(flatB l).drop (i * 4)=flatB (l.drop i):=by
 intro l
 induction l with
 |nil=>intro i; simp [flatB]
 |cons a l ih =>
  intro i
  cases i with
  |zero=>simp [flatB]
  |succ i =>
   rw [flatB_cons,List.drop_succ_cons,← ih,List.drop_append];have:(i+1) * 4 - a.cells.length=i * 4:=by simp [Bf.cells]; omega
   rw [this,List.drop_eq_nil_of_le (by simp [Bf.cells]; omega)]; rfl
theorem flatB_one (l:List Bf):∀ u ∈ flatB l,u.oneCell'=true:=by
 intro u hu;obtain ⟨b,hb,hu⟩:=List.mem_flatMap.1 hu;simp only [Bf.cells,List.mem_cons,List.not_mem_nil,or_false] at hu;rcases hu with rfl | rfl | rfl | rfl <;> rfl
theorem flatB_set1 {l:List Bf} {i:Nat} {b c:Bf} (hb:l[i]?=some b) (k:Nat) (hk:k<4) (v:Value) (hc:c.cells=b.cells.set k v):(flatB l).set (i * 4+k) v=flatB (l.set i c):=by
 have hlt:=(List.getElem?_eq_some_iff.1 hb).1;have e0:=List.set_eq_take_append_cons_drop (l:=l) (i:=i) (a:=c);rw [if_pos hlt] at e0;rw [e0,flatB_app,flatB_cons,← flatB_take,← flatB_drop,hc];apply List.ext_getElem?;intro j;have hl:=flatB_len l;rw [List.getElem?_set];have htl:((flatB l).take (i * 4)).length=i * 4:=by rw [List.length_take,hl]; omega
 have hbl:(b.cells.set k v).length=4:=by simp [Bf.cells]
 have hbl':b.cells.length=4:=by simp [Bf.cells]
 by_cases h1:j<i * 4
 ·rw [if_neg (by omega),List.getElem?_append_left (by rw [htl]; exact h1),List.getElem?_take,if_pos h1]
 ·by_cases h2:j<i * 4+4
  ·have hj:(flatB l)[j]?=b.cells[j - i * 4]?:=by
    have:=flatB_get l i (j - i * 4) b hb (by omega);rw [show i * 4+(j - i * 4)=j by omega] at this; exact this
   rw [List.getElem?_append_right (by omega),htl,List.getElem?_append_left (by omega),List.getElem?_set,hj,hl,hbl'];by_cases e:i * 4+k=j
   ·rw [if_pos e,if_pos (by omega),if_pos (by omega),if_pos (by omega)]
   ·rw [if_neg e,if_neg (by omega)]
  ·rw [if_neg (by omega),List.getElem?_append_right (by omega),htl,List.getElem?_append_right (by omega),hbl,List.getElem?_drop]
   congr 1; omega
section
variable {S S':Nat→Prop} {w w':World} {v:Value} {l:List Bf}
theorem BufsAt.keep (h:BufsAt S w v l) (hk:∀ b,S b→b<w.heap.size→w'.heap[b]?=w.heap[b]?):BufsAt S w' v l:=⟨h.1.keep hk,h.2⟩
theorem BufsAt.below (h:BufsAt S w v l) (hb:Below w.heap.size w w'):BufsAt S w' v l:=⟨h.1.below hb,h.2⟩
theorem BufsAt.more (h:BufsAt S w v l) (hS:∀ b,S b→S' b):BufsAt S' w v l:=⟨h.1.more hS,h.2⟩
theorem BufsAt.lt (h:BufsAt S w v l):BufsAt (fun b=>S b∧b<w.heap.size) w v l:=⟨h.1.lt (by omega),h.2⟩
theorem BufsAt.form (h:BufsAt S w v l):∃ A cap,v=.slice A l.length cap∧l.length≤cap∧cap≤maxLen:=h.1.form
theorem BufsAt.at_ {A:Option Addr} {n cap:Nat} (h:BufsAt S w (.slice A n cap) l) (hn:0<l.length) :
  ∃ b off,A=some ⟨b,off,none⟩∧S b∧b<w.heap.size∧∀ i x,l[i]?=some x→BfOk x ∧
   w.cell? ⟨b,off+i * 4,none⟩=some (.int .i64 x.pos)∧w.cell? ⟨b,off+i * 4+1,none⟩=some (.string x.data)∧w.cell? ⟨b,off+i * 4+2,none⟩=some (.bool x.dirty) ∧
   w.cell? ⟨b,off+i * 4+3,none⟩=some (.int .i64 x.used):=by
 have he:n=l.length:=by obtain ⟨_,_,e,_⟩:=h.1.form; injection e
 subst he;obtain ⟨b,off,e,hS,hlt,hc⟩:=h.1.at_ hn (by omega);refine ⟨b,off,e,hS,hlt,fun i x hi=>?_⟩;have hg:=fun j hj=>flatB_get l i j x hi hj
 refine ⟨h.2 x (List.mem_of_getElem? hi),?_,?_,?_,?_⟩
 ·exact hc (i * 4+0) _ ((hg 0 (by omega)).trans rfl)
 ·have:=hc (i * 4+1) _ ((hg 1 (by omega)).trans rfl); rwa [← Nat.add_assoc] at this
 ·have:=hc (i * 4+2) _ ((hg 2 (by omega)).trans rfl); rwa [← Nat.add_assoc] at this
 ·have:=hc (i * 4+3) _ ((hg 3 (by omega)).trans rfl); rwa [← Nat.add_assoc] at this
theorem BufsAt.nil:BufsAt S w (.slice none 0 0) []:=⟨Rd.nil,by simp⟩
end
theorem ownB_setCell {w:World} {base g n cap size j:Nat} {e:TypeId} {xs:List Value} {v:Value} (h:w.ownsRow base e size (.slice (some ⟨g,0,none⟩) n cap) n xs) (hj:j<n * size) :
  (w.setCell ⟨g,j,none⟩ v).ownsRow base e size (.slice (some ⟨g,0,none⟩) n cap) n (xs.set j v):=by
 obtain ⟨h1,h2⟩:=h
 rcases h2 with ⟨h2,h3⟩ | ⟨g',cap',cur,hv,hb,hh,hnc,hcm,hcs,htake⟩
 ·cases h2
 ·cases hv
  refine ⟨by rw [List.length_set]; exact h1,.inr ⟨g,cap,cur.setIfInBounds j v,rfl,hb,?_,hnc,hcm,by simpa using hcs,?_⟩⟩
  ·exact heap_setCell_same _ _ _ _ _ _ hh
  ·rw [← htake,Array.toList_setIfInBounds,List.take_set]
theorem own_frozen {w:World} {base g n cap size:Nat} {e:TypeId} {xs:List Value} (h:w.ownsRow base e size (.slice (some ⟨g,0,none⟩) n cap) n xs) (hn:0<n) (j:Nat):w.frozen? ⟨g,j,none⟩=false:=by
 obtain ⟨h1,h2⟩:=h
 rcases h2 with ⟨h2,h3⟩ | ⟨g',cap',cur,hv,hb,hh,hnc,hcm,hcs,htake⟩
 ·omega
 ·cases hv; exact frozen_of_row _ _ _ _ _ hh
theorem ownB_row {w:World} {base g n cap size:Nat} {e:TypeId} {xs:List Value} (h:w.ownsRow base e size (.slice (some ⟨g,0,none⟩) n cap) n xs) (hn:0<n) :
  ∃ cur,w.heap[g]?=some (.cells cur e (0,0))∧base≤g∧n≤cap∧cap≤maxLen∧cur.size=cap * size∧cur.toList.take (n * size)=xs:=by
 obtain ⟨h1,h2⟩:=h
 rcases h2 with ⟨h2,h3⟩ | ⟨g',cap',cur,hv,hb,hh,hnc,hcm,hcs,htake⟩
 ·omega
 ·cases hv; exact ⟨cur,hh,hb,hnc,hcm,hcs,htake⟩
theorem own_pos {w:World} {base n size:Nat} {e:TypeId} {v:Value} {xs:List Value} (h:w.ownsRow base e size v n xs) (hn:0<n) :
  ∃ g cap,v=.slice (some ⟨g,0,none⟩) n cap∧base≤g∧g<w.heap.size∧n≤cap∧cap≤9223372036854775807:=by
 rcases h.2 with ⟨_,h0⟩ | ⟨g,cap,cur,hv,hb,hh,h3,h4,_⟩
 ·omega
 ·subst hv
  unfold maxLen at h4;exact ⟨g,cap,rfl,hb,(h.lt g rfl).2,h3,by omega⟩
theorem own_stays {w w':World} {base n size:Nat} {e:TypeId} {v:Value} {xs:List Value} (h:w.ownsRow base e size v n xs) (hk:∀ g,v.ownBlock=some g→w'.heap[g]?=w.heap[g]?):w'.ownsRow base e size v n xs:=by
 refine ⟨h.1,?_⟩
 rcases h.2 with h2 | ⟨g',cap',cur,hv,hb,hh,h3⟩
 ·exact .inl h2
 ·subst hv
  exact .inr ⟨g',cap',cur,rfl,hb,(hk g' rfl).trans hh,h3⟩
theorem own_below {w w':World} {base n size:Nat} {e:TypeId} {v:Value} {xs:List Value} (h:w.ownsRow base e size v n xs) (hb:Below w.heap.size w w'):w'.ownsRow base e size v n xs :=
 own_stays h fun g hg=>hb.block g (h.lt g hg).2
theorem flatB_set {l:List Bf} {i:Nat} (hi:i<l.length) (c:Bf):((((flatB l).set (i * 4) (.int .i64 c.pos)).set (i * 4+1) (.string c.data)).set (i * 4+2) (.bool c.dirty)).set (i * 4+3) (.int .i64 c.used)=flatB (l.set i c):=by
 have hx:l[i]?=some l[i]:=List.getElem?_eq_getElem hi;generalize l[i]=b at hx;obtain ⟨p,d,y,u⟩:=b;have s1:=flatB_set1 (c:=⟨c.pos,d,y,u⟩) hx 0 (by omega) (.int .i64 c.pos) rfl;have e1:(l.set i ⟨c.pos,d,y,u⟩)[i]?=some ⟨c.pos,d,y,u⟩:=by rw [List.getElem?_set,if_pos rfl,if_pos hi]
 have s2:=flatB_set1 (c:=⟨c.pos,c.data,y,u⟩) e1 1 (by omega) (.string c.data) rfl;rw [List.set_set] at s2;have e2:(l.set i ⟨c.pos,c.data,y,u⟩)[i]?=some ⟨c.pos,c.data,y,u⟩:=by rw [List.getElem?_set,if_pos rfl,if_pos hi]
 have s3:=flatB_set1 (c:=⟨c.pos,c.data,c.dirty,u⟩) e2 2 (by omega) (.bool c.dirty) rfl;rw [List.set_set] at s3;have e3:(l.set i ⟨c.pos,c.data,c.dirty,u⟩)[i]?=some ⟨c.pos,c.data,c.dirty,u⟩:=by rw [List.getElem?_set,if_pos rfl,if_pos hi]
 have s4:=flatB_set1 (c:=c) e3 3 (by omega) (.int .i64 c.used) rfl;rw [List.set_set] at s4;rw [Nat.add_zero] at s1;rw [s1,s2,s3,s4]
end Go.Proofs.YtagndjihiklmiaaGreatDoor
namespace Go.Proofs.YtagndjihiklmiaaGreatDoor
open Go.RowKit
structure Tys where
 S:TypeId
 A:TypeId
 D:TypeId
 P:TypeId
 V:TypeId
def Im (w:World) (col:Nat→Nat):Nat→Prop:=fun k=>k<w.heap.size∧col k=0
def Fl (col:Nat→Nat):Nat→Prop:=fun k=>col k≠0∧col k≠9
def Fd (col:Nat→Nat):Nat→Prop:=fun k=>col k=4
def Fa (col:Nat→Nat) (c:Nat):Nat→Prop:=fun k=>col k=5+c
structure Sv where
 bv:Nat
 bt:Nat
 n:Nat
 bufs:Value
 wait:Value
 a0:Value
 a1:Value
 a2:Value
 d0:ByteArray
 d1:ByteArray
 d2:ByteArray
 e0:Nat
 e1:Nat
 e2:Nat
def Sv.av (x:Sv):Nat→Value
 |0=>x.a0
 |1=>x.a1
 |_=>x.a2
def Sv.row (x:Sv) (s:St) (bd:Nat):Array Value :=
 #[.pointer (some ⟨bd,0,none⟩),.pointer (some ⟨x.bv,0,none⟩),x.bufs,x.wait,.bool s.turn.write,.int .i64 s.turn.gone,.int .i64 s.turn.starved,.int .i64 s.turn.wh,.int .i64 s.now,.int .i64 s.use,.int .i64 s.tag,
  x.a0,x.a1,x.a2,.string x.d0,.string x.d1,.string x.d2,.int .i64 (x.e0:Int),.int .i64 (x.e1:Int),.int .i64 (x.e2:Int),.bool s.dead]
def AskAt (TA:TypeId) (F:Nat→Prop) (w:World) (v:Value):Option Ak→Prop
 |none=>v=.pointer none
 |some a=>∃ (ba:Nat) (lv:Value),v=.pointer (some ⟨ba,0,none⟩)∧F ba∧w.heap[ba]?=some (.cells #[.int .i64 a.kind,.int .i64 a.pos,.string a.data,lv] TA (0,0))∧Ow F w 3 1 lv a.left.length (a.left.map (.int .i64))
structure StAt (T:Tys) (col:Nat→Nat) (w:World) (b bd N:Nat) (x:Sv) (s:St):Prop where
 row:w.heap[b]?=some (.cells (x.row s bd) T.S (0,0))
 drv:DrvAt T.D T.P T.V (Im w col) (Fd col) w x.bv bd x.bt x.n s.v
 n:x.n≤N
 bufs:BufsAt (Im w col) w x.bufs s.bufs
 wait:ReqsAt (Im w col) w x.wait s.wait
 asks:s.asks.length=3
 ask:∀ c,c<3→AskAt T.A (Fa col c) w (x.av c) (s.askAt c)
 done:s.done=[x.d0,x.d1,x.d2]
 errs:s.errs=[x.e0,x.e1,x.e2]
 cb:col b=1
 cv:col x.bv=2
 ct:col x.bt=3
 lt:∀ k,col k≠0→k<w.heap.size
section
variable {T:Tys} {col col':Nat→Nat} {w w':World} {b bd N:Nat} {x:Sv} {s:St}
theorem DrvAt.more {TD TP TV:TypeId} {S S' F:Nat→Prop} {bv bt n:Nat} {v:Drv} (h:DrvAt TD TP TV S F w bv bd bt n v) (hs:∀ k,S k→S' k) (hn:∀ k,S' k→k≠bv∧k≠bt):DrvAt TD TP TV S' F w bv bd bt n v :=
 ⟨h.row,h.map,h.dev.more hs,h.nv,h.nt,hn⟩
theorem Im.step (hs:w.heap.size≤w'.heap.size):∀ k,Im w col k→Im w' col k:=fun k h=>⟨Nat.lt_of_lt_of_le h.1 hs,h.2⟩
theorem StAt.nv (h:StAt T col w b bd N x s):∀ k,Im w' col k→k≠x.bv∧k≠x.bt:=fun k hk=>⟨fun e=>(by have:=hk.2; rw [e,h.cv] at this; cases this),fun e=>(by have:=hk.2; rw [e,h.ct] at this; cases this)⟩
theorem AskAt.keep {TA:TypeId} {F:Nat→Prop} {v:Value} {o:Option Ak} (h:AskAt TA F w v o) (hk:∀ k,F k→k<w.heap.size→w'.heap[k]?=w.heap[k]?):AskAt TA F w' v o:=by
 cases o with
 |none=>exact h
 |some a =>
  obtain ⟨ba,lv,h1,h2,h3,h4⟩:=h;exact ⟨ba,lv,h1,h2,(hk ba h2 (Array.getElem?_eq_some_iff.1 h3).1).trans h3,h4.keep hk⟩
theorem StAt.below (h:StAt T col w b bd N x s) (hb:Below w.heap.size w w'):StAt T col w' b bd N x s :=
 ⟨(hb.block _ (Array.getElem?_eq_some_iff.1 h.row).1).trans h.row,(h.drv.below hb).more (Im.step hb.size) h.nv,h.n,(h.bufs.below hb).more (Im.step hb.size),(h.wait.below hb).more (Im.step hb.size),h.asks,
  fun c hc=>(h.ask c hc).keep (fun k _ hk=>hb.block k hk),h.done,h.errs,h.cb,h.cv,h.ct,fun k hk=>Nat.lt_of_lt_of_le (h.lt k hk) hb.size⟩
theorem StAt.bl (h:StAt T col w b bd N x s):b<w.heap.size:=h.lt b (by rw [h.cb]; decide)
structure Same1 (b:Nat) (w w':World):Prop where
 os:w'.os=w.os
 tape:w'.tape=w.tape
 output:w'.output=w.output
 size:w'.heap.size=w.heap.size
 block:∀ k,k≠b→w'.heap[k]?=w.heap[k]?
theorem Same1.refl:Same1 b w w:=⟨rfl,rfl,rfl,rfl,fun _ _=>rfl⟩
theorem Same1.setCell {w0:World} (h:Same1 b w0 w) (k:Nat) (v:Value):Same1 b w0 (w.setCell ⟨b,k,none⟩ v) :=
 ⟨h.os,h.tape,h.output,by rw [← h.size]; simp [World.setCell],fun j hj=>(Below.heap_setCell _ _ _ _ (by simpa using hj)).trans (h.block j hj)⟩
theorem Same1.drew {w0:World} (h:Same1 b w0 w):Same1 b w0 w.drew:=⟨h.os,h.tape,h.output,h.size,h.block⟩
theorem Same1.chg {F:Nat→Prop} (h:Same1 b w w') (hb:F b):Chg F w w':=⟨h.os,h.tape,h.output,by rw [h.size]; exact Nat.le_refl _,fun k _ hn=>h.block k (fun e=>hn (e▸hb))⟩
theorem StAt.drv1 (h:StAt T col w b bd N x s) (hb:Same1 b w w'):DrvAt T.D T.P T.V (Im w' col) (Fd col) w' x.bv bd x.bt x.n s.v:=by
 obtain ⟨f,hf,hv⟩:=h.drv.map;have hk:∀ k,col k≠1→w'.heap[k]?=w.heap[k]?:=fun k hk=>hb.block k (fun e=>hk (e▸h.cb))
 refine ⟨(hk _ (by rw [h.cv]; decide)).trans h.drv.row,⟨f,hf.keep (hk _ (by rw [h.ct]; decide)),hv⟩,?_,h.drv.nv,h.drv.nt,h.nv⟩;exact (h.drv.dev.keep (fun k hf _=>hk k (by rw [show col k=4 from hf]; decide)) (fun k hs _=>hk k (by rw [hs.2]; decide))).more (Im.step (by rw [hb.size]; exact Nat.le_refl _))
theorem StAt.bufs1 {v:Value} {l:List Bf} (h:StAt T col w b bd N x s) (hb:Same1 b w w') (hv:BufsAt (Im w col) w v l):BufsAt (Im w' col) w' v l :=
 (hv.keep (fun k hs _=>hb.block k (fun e=>by have:=hs.2; rw [e,h.cb] at this; cases this))).more (Im.step (by rw [hb.size]; exact Nat.le_refl _))
theorem StAt.wait1 {v:Value} {l:List Rq} (h:StAt T col w b bd N x s) (hb:Same1 b w w') (hv:ReqsAt (Im w col) w v l):ReqsAt (Im w' col) w' v l :=
 (hv.keep (fun k hs _=>hb.block k (fun e=>by have:=hs.2; rw [e,h.cb] at this; cases this))).more (Im.step (by rw [hb.size]; exact Nat.le_refl _))
theorem StAt.ask1 {c:Nat} {v:Value} {o:Option Ak} (h:StAt T col w b bd N x s) (hb:Same1 b w w') (hv:AskAt T.A (Fa col c) w v o):AskAt T.A (Fa col c) w' v o :=
 hv.keep (fun k hs _=>hb.block k (fun e=>by have:col k=5+c:=hs; rw [e,h.cb] at this; omega))
theorem StAt.lt1 (h:StAt T col w b bd N x s) (hb:Same1 b w w'):∀ k,col k≠0→k<w'.heap.size:=fun k hk=>by rw [hb.size]; exact h.lt k hk
theorem StAt.turn1 {y:Sv} {t:St} (h:StAt T col w b bd N x s) (hb:Same1 b w w') (hrow:w'.heap[b]?=some (.cells (y.row t bd) T.S (0,0))) (hv:y.bv=x.bv) (ht:y.bt=x.bt) (hn:y.n=x.n) (hd:t.v=s.v)
  (hbufs:BufsAt (Im w col) w y.bufs t.bufs) (hwait:ReqsAt (Im w col) w y.wait t.wait) (ha3:t.asks.length=3) (hask:∀ c,c<3→AskAt T.A (Fa col c) w (y.av c) (t.askAt c)) (hdone:t.done=[y.d0,y.d1,y.d2]) (herrs:t.errs=[y.e0,y.e1,y.e2]) :
  StAt T col w' b bd N y t :=
 ⟨hrow,by rw [hv,ht,hn,hd]; exact h.drv1 hb,by rw [hn]; exact h.n,h.bufs1 hb hbufs,h.wait1 hb hwait,ha3,fun c hc=>h.ask1 hb (hask c hc),hdone,herrs,h.cb,by rw [hv]; exact h.cv,by rw [ht]; exact h.ct,h.lt1 hb⟩
theorem StAt.cell (h:StAt T col w b bd N x s) (k:Nat):w.cell? ⟨b,k,none⟩=(x.row s bd)[k]?:=cell_of_row _ _ k _ _ _ h.row
theorem StAt.frozen (h:StAt T col w b bd N x s) (k:Nat):w.frozen? ⟨b,k,none⟩=false:=frozen_of_row _ _ k _ _ h.row
end
abbrev Ts:Tys:=⟨145,152,TDp,TPp,TVp⟩
end Go.Proofs.YtagndjihiklmiaaGreatDoor
