/- The reference's driver: what it does with any request. -/
import Derived.Test.YtagndjihiklmiaaGreatDoorQ34
import Derived.Test.YtagndjihiklmiaaGreatDoorQ32
set_option linter.unusedSimpArgs false
set_option linter.unusedVariables false
set_option maxRecDepth 100000
set_option maxHeartbeats 8000000
namespace Go.Proofs.YtagndjihiklmiaaGreatDoor
open Go.RowKit
theorem rdrvend_none (S F:Nat→Prop) (w:World) (bv bd bt n:Nat) (v:Drv) (i:Int) (ft:Bool) (h:DrvAt TDr TPr TVr S F w bv bd bt n v) (hi:i<0∨(v.d.l.length:Int)≤i)
  (hF:∀ k,F k→k<w.heap.size) (hSF:∀ k,S k→¬ F k) (hSlt:∀ k,S k→k<w.heap.size) :
  Calls Tryz.prog 65 #[.pointer (some ⟨bv,0,none⟩),.int .i64 i,.bool ft] w (RetDrv TDr TPr TVr S F w bv bd bt (n+1) v zeroRs false (.int .i64 5)):=by
 have hbv:=(Array.getElem?_eq_some_iff.1 h.row).1;have c0:∀ o,(w.alloc o).cell? ⟨bv,0,none⟩=some (.pointer (some ⟨bd,0,none⟩)):=fun o=>by rw [World.cell?_alloc_lt _ _ _ hbv,cell_of_row _ _ _ _ _ _ h.row]; rfl
 have H:=Lib.hid h;have HF:=Lib.hid hF;have HS:=Lib.hid hSF;have Hlt:=Lib.hid hSlt;have Hi':=Lib.hid hi;have Hq:=Lib.hid (endAt_none v.d i ft hi);clear h hF hSF hSlt hi;go_enter Tryz.func65,Tryz.ntmps65;go_wp2_with fail;have L:=(LayF.refl (fun k=>F k∨k=bt) w).alloc' w.heap.size zeroRsV 123 rfl;have hb1:Below w.heap.size w _:=(Below.refl w.heap.size w).alloc (Nat.le_refl _) (.cells zeroRsV 123);have hs1:(w.alloc (.cells zeroRsV 123)).heap.size=w.heap.size+1:=by simp
 generalize World.alloc _ _=W1 at L hb1 hs1 ⊢;have hd1:=H.out.dev.below hb1;refine (rdevend_none S F W1 bd v.d i ft hd1 Hi'.out HS.out (fun k hk=>by have:=Hlt.out k hk; omega)).mono ?_;rw [Hq.out];rintro e w2 ⟨x2,F2,S2,rfl,hrs,hd2,hc2,_,hF2,hSS2,hS2,hSF2⟩;simp only at hrs hd2 ⊢
 obtain ⟨zr,hzr⟩:∃ x,x=zeroRs:=⟨_,rfl⟩
 rw [← hzr] at hrs;clear hzr;obtain ⟨zq,zd,ze⟩:=zr;obtain ⟨rc,ov,ev,erc,hrc,hov⟩:=hrs;obtain ⟨r3,rdv,rtv⟩:=rc;simp only at erc ev hov;obtain ⟨Bd,bd7,e1,_,_⟩:=hrc.data.form;obtain ⟨Bt,bt7,e2,_,_⟩:=hrc.tags.form;obtain ⟨Bo,bo7,e3,_,_⟩:=hov.form;simp only at e1 e2;subst erc;subst e1 e2 e3 ev
 have hL2:=L.chg2 hc2 (fun k hk=>.inl (.inl hk)) (fun x hx hf=>by
  simp only [List.mem_cons,List.not_mem_nil,or_false] at hx;subst hx;have:=HF.out _ hf;simp only at this
  omega)
 have HL2:=Lib.hid (hL2.alloc' w2.heap.size #[Value.bool r3.write,.int .i64 r3.lo,.int .i64 r3.many,.slice Bd r3.data.length bd7,.slice Bt r3.tags.length bt7,.int .i64 r3.born,.slice Bo zd.length bo7,.int .i64 ze] 123 rfl);have Ha:Hid (∀ o:Obj,Below w2.heap.size w2 (w2.alloc o)):=fun o=>(Below.refl w2.heap.size w2).alloc (Nat.le_refl _) o
 have HT:Hid ((w2.alloc (.cells #[Value.bool r3.write,.int .i64 r3.lo,.int .i64 r3.many,.slice Bd r3.data.length bd7,.slice Bt r3.tags.length bt7,.int .i64 r3.born,.slice Bo zd.length bo7,.int .i64 ze] 123)).there w.heap.size 0 zeroRsV.size):=HL2.out.there 1 rfl _ rfl;have Hi:Hid ((Tryz.prog.info? 123).map (·.size)=some (#[Value.bool r3.write,.int .i64 r3.lo,.int .i64 r3.many,.slice Bd r3.data.length bd7,.slice Bt r3.tags.length bt7,.int .i64 r3.born,.slice Bo zd.length bo7,.int .i64 ze]:Array Value).size):=resInfo;have Hi0:Hid ((Tryz.prog.info? 123).map (·.size)=some zeroRsV.size):=resInfo;have Hz:Hid ((#[Value.bool r3.write,.int .i64 r3.lo,.int .i64 r3.many,.slice Bd r3.data.length bd7,.slice Bt r3.tags.length bt7,.int .i64 r3.born,.slice Bo zd.length bo7,.int .i64 ze]:Array Value).all (·.oneCell')=true):=one8 _ _ _ _ _ _ _ _ _ _ _ _ _ _;have Hz0:Hid (zeroRsV.all (·.oneCell')=true):=one8 _ _ _ _ _ _ _ _ _ _ _ _ _ _;have hb2:∀ q,q<w.heap.size→¬ F q→w2.heap[q]?=w.heap[q]?:=fun q hq hf=>(hc2.block q (by omega) hf).trans (hb1.block q hq)
 have Hrow2:=Lib.hid ((hb2 bv hbv H.out.nv).trans H.out.row);obtain ⟨f,hmf,hfv⟩:=H.out.map;have hbt:=hmf.lt;have Hmap2:=Lib.hid (hmf.keep (hb2 bt hbt H.out.nt));have Hfv:=Lib.hid hfv;have Hd2:=Lib.hid hd2
 have HF2:Hid (∀ q,F2 q→Grow F w w2 q∧q≠bv∧q≠bt∧q≠w.heap.size):=fun q hq=>by
  rcases hF2 q hq with h | h
  ·exact ⟨.inl h,fun e=>H.out.nv (e▸h),fun e=>H.out.nt (e▸h),fun e=>by have:=HF.out q h; omega⟩
  ·exact ⟨.inr ⟨by omega,h.2⟩,by omega,by omega,by omega⟩
 have HS2:Hid (∀ q,S2 q→Grow S w w2 q∧q≠bv∧q≠bt∧q≠w.heap.size∧q<w2.heap.size):=fun q hq=>by
  rcases hS2 q hq with h | h
  ·exact ⟨.inl h,(H.out.sv q h).1,(H.out.sv q h).2,by have:=Hlt.out q h; omega,by have:=Hlt.out q h; have:=hc2.size; omega⟩
  ·exact ⟨.inr ⟨by omega,h.2⟩,by omega,by omega,by omega,h.2⟩
 have HSF2:=Lib.hid hSF2;have HSS2:=Lib.hid hSS2;have hz12:=hc2.size;have hwt:w.heap.size≠bt:=by omega
 clear hL2 L hb1 hrc hov hd2 hc2 hF2 hSS2 hS2 hSF2 hmf hfv hb2 c0 hd1
 go_wp2_with (first
  |(refine wpList_store_mid rfl 123 (.tmp 6) (.tmp 24) rfl w.heap.size 0 zeroRsV rfl rfl HT.out Hi0.out Hz0.out ?_
    have L5:=Lib.hid (HL2.out.put 1 rfl zeroRsV rfl);have hc5:Hid (Chg (fun q=>q=w.heap.size) (w2.alloc (.cells #[Value.bool r3.write,.int .i64 r3.lo,.int .i64 r3.many,.slice Bd r3.data.length bd7,.slice Bt r3.tags.length bt7,.int .i64 r3.born,.slice Bo zd.length bo7,.int .i64 ze] 123)) ((w2.alloc (.cells #[Value.bool r3.write,.int .i64 r3.lo,.int .i64 r3.many,.slice Bd r3.data.length bd7,.slice Bt r3.tags.length bt7,.int .i64 r3.born,.slice Bo zd.length bo7,.int .i64 ze] 123)).setCells w.heap.size 0 zeroRsV.toList)):=Chg.setCells (F:=fun q=>q=w.heap.size) Chg.refl (.inl rfl) 0 zeroRsV.toList;generalize World.setCells _ _ _ _=W5 at L5 hc5 ⊢
    obtain ⟨z0,z1,z2,z3,z4,z5,z6,z7⟩:=L5.out.c8 1 rfl))
 refine bodyPost_ret (v:=.tuple #[.agg zeroRsV,.bool false,.int .i64 5]) (by simp [results,Tryz.results65,go_sem,z0,z1,z2,z3,z4,z5,z6,z7]) rfl ?_;have hz3:(w2.alloc (.cells #[Value.bool r3.write,.int .i64 r3.lo,.int .i64 r3.many,.slice Bd r3.data.length bd7,.slice Bt r3.tags.length bt7,.int .i64 r3.born,.slice Bo zd.length bo7,.int .i64 ze] 123)).heap.size=w2.heap.size+1:=by simp
 have hsz5:w2.heap.size+1≤W5.heap.size:=hz3▸hc5.out.size
 have hkk:∀ q,q<w2.heap.size→q≠w.heap.size→W5.heap[q]?=w2.heap[q]?:=fun q hq h1 =>
  (hc5.out.block q (by omega) h1).trans ((Ha.out _).block q hq)
 have hkS:∀ q,S2 q→q<w2.heap.size→W5.heap[q]?=w2.heap[q]?:=fun q hq hlt=>hkk q hlt (HS2.out q hq).2.2.2.1
 have hkF:∀ q,F2 q→q<w2.heap.size→W5.heap[q]?=w2.heap[q]?:=fun q hq hlt=>hkk q hlt (HF2.out q hq).2.2.2
 refine ⟨_,F2,S2,rfl,⟨zeroRc,_,rfl,rfl,zeroRc_ok _ _,strs_nil _ _⟩,⟨?_,?_,(Hd2.out.more HSS2.out).keep hkF hkS,fun hf=>(HF2.out _ hf).2.1 rfl,fun hf=>(HF2.out _ hf).2.2.1 rfl,fun q hq=>⟨(HS2.out q hq).2.1,(HS2.out q hq).2.2.1⟩⟩,L5.out.chg,fun q hq=>(HF2.out q hq).1.elim .inl (fun h=>.inr ⟨h.1,by omega⟩),HSS2.out,fun q hq=>(HS2.out q hq).1.elim .inl (fun h=>.inr ⟨h.1,by omega⟩),HSF2.out⟩
 ·exact (hkk bv (by omega) (by omega)).trans Hrow2.out
 ·exact ⟨_,(Hmap2.out.keep (hkk bt (by omega) (fun e=>hwt e.symm))).mono (by omega),Hfv.out⟩
theorem rdrvend_any (S F:Nat→Prop) (w:World) (bv bd bt n:Nat) (v:Drv) (i:Int) (f:Bool) (h:DrvAt TDr TPr TVr S F w bv bd bt n v) (hok:DvOk v.d) (hwl:v.d.waits.length≤900000000) (hn:n≤900000000) (htr:∀ j,i64 j→0≤v.tries j∧v.tries j≤2)
  (hF:∀ k,F k→k<w.heap.size) (hSF:∀ k,S k→¬ F k) (hSlt:∀ k,S k→k<w.heap.size) :
  Calls Tryz.prog 65 #[.pointer (some ⟨bv,0,none⟩),.int .i64 i,.bool f] w (RetDrv TDr TPr TVr S F w bv bd bt (n+1) (v.endAt i f).1 (v.endAt i f).2.1 (v.endAt i f).2.2.1 (.int .i64 ((v.endAt i f).2.2.2:Int))):=by
 rcases endAt_split v.d i with hi | ⟨k,r,rfl,hk⟩
 ·rw [drvEndAt_none v i f hi]
  exact rdrvend_none S F w bv bd bt n v i f h hi hF hSF hSlt
 ·cases f with
  |false =>
   rw [drvEndAt_ok v k r hk];exact rdrvend_ok S F w bv bd bt n k v r h hk hok hwl hn htr hF hSF hSlt
  |true =>
   by_cases h3:v.tries (tagOf r)+1<3
   ·rw [drvEndAt_again v k r hk hok.two h3]
    exact rdrvend_again S F w bv bd bt n k v r h hk hok hwl hn htr h3 hF hSF hSlt
   ·rw [drvEndAt_gone v k r hk h3]
    exact rdrvend_gone S F w bv bd bt n k v r h hk hok hwl hn htr h3 hF hSF hSlt
end Go.Proofs.YtagndjihiklmiaaGreatDoor
namespace Go.Proofs.YtagndjihiklmiaaGreatDoor
open Go.RowKit Go.Sort
def RetSr (T:Tys) (col:Nat→Nat) (w:World) (b bd N:Nat) (x:Sv) (s:St) (v':Drv) (rs:Rs) (done:Bool) (ev:Value):Ending→World→Prop :=
 fun e w'=>∃ (col':Nat→Nat) (c:Rc) (ov:Value),e=.returned (.tuple #[.agg (rsCells c ov rs.err),.bool done,ev])∧c.r=rs.req∧RcOk (Im w' col') w' c∧StrsAt (Im w' col') w' ov rs.data ∧
  StAt T col' w' b bd (N+2) { x with n:=x.n+2 } { s with v:=v' }∧Chg (Fl col) w w'∧Rec col col' w w'
theorem rstend_any (col:Nat→Nat) (w:World) (b bd N:Nat) (x:Sv) (s:St) (i:Int) (f:Bool) (h:StAt Tr col w b bd N x s) (hI:Inv s) (hw:s.v.d.waits.length≤900000000) (hN:N≤900000000) :
  Calls Tryz.prog 65 #[.pointer (some ⟨x.bv,0,none⟩),.int .i64 i,.bool f] w (RetSr Tr col w b bd N x s (s.v.endAt i f).1 (s.v.endAt i f).2.1 (s.v.endAt i f).2.2.1 (.int .i64 ((s.v.endAt i f).2.2.2:Int))):=by
 have hn:=h.n;refine (rdrvend_any (Im w col) (Fd col) w x.bv bd x.bt x.n s.v i f h.drv hI.dv hw (by omega) (fun j _=>hI.tries j) (fun k (hk:col k=4)=>h.lt k (by omega)) StAt.imfd (fun k hk=>hk.1)).mono ?_;rintro e w' ⟨v,F',S',rfl,⟨c,ov,rfl,hc,hok,hov⟩,hp,hch,hF,hSS,hS,hSF⟩;obtain ⟨col',hst,hrec,him⟩:=h.drvd hp hch hF hS hSF (show x.n+1+1≤N+2 by omega);exact ⟨col',c,ov,rfl,hc,hok.more him,hov.more him,hst,hch.mono (fun k hk=>hk.elim (Fl.of_d k) (fun e=>by subst e; show col x.bt≠0∧col x.bt≠9; rw [h.ct]; decide)),hrec⟩
theorem rend_no (col:Nat→Nat) (w:World) (b bd N:Nat) (x:Sv) (s:St) (i:Int) (f:Bool) (h:StAt Tr col w b bd N x s) (hI:Inv s) (hw:s.v.d.waits.length≤900000000) (hN:N≤900000000) (hd:(s.v.endAt i f).2.2.1=false) :
  Calls Tryz.prog 27 #[.pointer (some ⟨b,0,none⟩),.int .i64 i,.bool f] w (Ret5 Tr col w b bd (N+2) (s.end_ i f).1 (.int .i64 ((s.end_ i f).2:Nat))):=by
 have hcall:=rstend_any col w b bd N x s i f h hI hw hN;rw [hd] at hcall;have He:Hid (s.end_ i f=({ s with v:=(s.v.endAt i f).1 },(s.v.endAt i f).2.2.2)):=show _=_ by unfold St.end_; exact if_pos hd
 have Hcall:=Lib.hid hcall;have H:=Lib.hid h;have c1:w.cell? ⟨b,1,none⟩=some (.pointer (some ⟨x.bv,0,none⟩)):=h.cell 1;clear h hI hw hN hcall hd;generalize (s.v.endAt i f).2.2.2=E at *;go_enter Tryz.func27,Tryz.ntmps27;go_wp2_with fail;refine Hcall.out.mono ?_;rintro e w1 ⟨col',c,ov,rfl,hc,hok,hov,hst,hch,hrec⟩;obtain ⟨Ad,cd,e1,_,_⟩:=hok.data.form;obtain ⟨At,ct,e2,_,_⟩:=hok.tags.form;obtain ⟨Ao,co,e3,_,_⟩:=hov.form;obtain ⟨rr,rdv,rtv⟩:=c;simp only at e1 e2 hc;subst e1 e2 e3;have Hst:=Lib.hid hst;have Hch:=Lib.hid hch;have Hrec:=Lib.hid hrec;clear hc hok hov hst hch hrec c1;unfold rsCells;have hE:E=0∨(0:Int)<(E:Int):=by omega
 rcases hE with rfl | hE
 all_goals
  go_wp2_with fail;go_ret;rw [He.out];have hb1:=fun o=>(Below.refl w1.heap.size w1).alloc (Nat.le_refl _) o
  exact ⟨col',_,rfl,Hst.out.below (hb1 _),Hch.out.two (Chg.of_below (hb1 _)),Hrec.out.old,Hrec.out.grow⟩
theorem wrongN_w {r:Rq} (h:r.write=true) (s:St):∀ k,wrongN r s k=s
 |0=>rfl
 |k+1=>by
  rw [wrongN,wrongN_w h s k]
  cases ho:s.askAt k with
  |none=>exact wrong1_none ho
  |some a=>exact wrong1_miss ho (fun hh=>by rw [h] at hh; cases hh.1)
theorem rend_gone (col:Nat→Nat) (w:World) (b bd N:Nat) (x:Sv) (s:St) (k:Nat) (r:Rq) (K:Int) (h:StAt Tr col w b bd N x s) (hI:Inv s) (hB:Bd K s) (h0:0≤K) (hK:K≤800000000) (hN:N≤900000000) (hk:s.v.d.l[k]?=some r) (h3:¬ s.v.tries (tagOf r)+1<3) :
  Calls Tryz.prog 27 #[.pointer (some ⟨b,0,none⟩),.int .i64 (k:Int),.bool true] w (Ret5 Tr col w b bd (N+2) (s.end_ k true).1 (.int .i64 ((s.end_ k true).2:Nat))):=by
 have hcall:=rstend_any col w b bd N x s k true h hI (by have:=hB.waits; omega) hN;rw [drvEndAt_gone _ _ _ hk h3] at hcall;have He:Hid (s.end_ k true=(((s.gone k r).wrong r).serve,0)):=St.end_gone hk h3;have HIg:Hid (Inv (s.gone k r)):=hI.gone hk;have HBg:Hid (Bd K (s.gone k r)):=show Bd _ _ from ⟨hB.use,hB.tag,hB.waits⟩;have Hrok:Hid (ReqOk r):=reqF_zero (hI.dv.l r (List.mem_of_getElem? hk));have Hcall:=Lib.hid hcall;have H:=Lib.hid h;have c1:w.cell? ⟨b,1,none⟩=some (.pointer (some ⟨x.bv,0,none⟩)):=h.cell 1;clear h hI hB hN hk h3 hcall;go_enter Tryz.func27,Tryz.ntmps27;go_wp2_with fail;refine Hcall.out.mono ?_;rintro e w1 ⟨col',c,ov,rfl,hc,hok,hov,hst,hch,hrec⟩;obtain ⟨Ad,cd,e1,_,_⟩:=hok.data.form;obtain ⟨At,ct,e2,_,_⟩:=hok.tags.form;obtain ⟨Ao,co,e3,_,_⟩:=hov.form;obtain ⟨rr,rdv,rtv⟩:=c;simp only at e1 e2 hc;subst e1 e2 e3;subst hc
 obtain ⟨T,hT⟩:∃ T,s.gone k rr=T:=⟨_,rfl⟩
 have hst:StAt Tr col' w1 b bd (N+2) { x with n:=x.n+2 } T:=hT▸hst;rw [hT] at HIg HBg He;have Hst:=Lib.hid hst;have Hch:=Lib.hid hch;have Hrec:=Lib.hid hrec;clear hok hov hst hch hrec c1 hT;unfold rsCells;go_upto_region 5 with fail
 obtain ⟨B,hBz⟩:∃ B,w1.heap.size=B:=⟨_,rfl⟩
 have hb2:=(Below.refl w1.heap.size w1).alloc (Nat.le_refl _) (.cells #[.bool rr.write,.int .i64 rr.lo,.int .i64 rr.many,.slice Ad rr.data.length cd,.slice At rr.tags.length ct,.int .i64 rr.born,.slice Ao (0:Nat) co,.int .i64 8] 123);have HX:Hid ((w1.alloc (.cells #[.bool rr.write,.int .i64 rr.lo,.int .i64 rr.many,.slice Ad rr.data.length cd,.slice At rr.tags.length ct,.int .i64 rr.born,.slice Ao (0:Nat) co,.int .i64 8] 123)).heap[B]?=some (.cells #[.bool rr.write,.int .i64 rr.lo,.int .i64 rr.many,.slice Ad rr.data.length cd,.slice At rr.tags.length ct,.int .i64 rr.born,.slice Ao (0:Nat) co,.int .i64 8] 123 (0,0))):=show _=_ from hBz▸heap_alloc_new w1 _;have HcB:Hid (col' B=0):=show _=_ from Hst.out.s0 B (by omega);rw [hBz];have H2:=Lib.hid (Hst.out.below hb2);have Hch2:Hid (Chg (Fl col) w _):=show Chg _ _ _ from Hch.out.two (Chg.of_below hb2);clear hb2 hBz;generalize World.alloc _ _=w2 at HX H2 Hch2 ⊢;go_cut [] from 21 to 205 (fun wx=>wx=w2.setCell ⟨b,20,none⟩ (.bool (T.dead || rr.write)))
 case first =>
  have c20:w2.cell? ⟨b,20,none⟩=some (.bool T.dead):=H2.out.cell 20;have f20:=H2.out.frozen 20;have d0:w2.cell? ⟨B,0,none⟩=some (.bool rr.write):=cell_of_row _ _ 0 _ _ _ HX.out
  cases hd:T.dead
  all_goals
   have HD:=Lib.hid hd;rw [hd] at c20;clear hd;go_wp2_with fail;go_meet
   case rel=>rw [HD.out]; rfl
 case rest =>
  subst hcut;have hS3:=(Same1.refl (b:=b) (w:=w2)).setCell 20 (.bool (T.dead || rr.write));have H3:=Lib.hid (H2.out.deadd hS3 (n:=T.dead || rr.write) (heap_setCell_same _ _ 20 _ _ _ H2.out.row));have Hch3:=Lib.hid (Hch2.out.recol (H2.out.chg1 (hS3.chg (F:=fun k=>k=b) rfl)) Hrec.out.grow);have HX3:=Lib.hid ((hS3.block B (fun e=>by have h1:=HcB.out; rw [e,H2.out.cb] at h1; cases h1)).trans HX.out);clear hS3;generalize w2.setCell _ _=w3 at H3 Hch3 HX3 ⊢;go_wp2_with fail;go_loopw [10,11] (fun i _ wr=>∃ (m:Nat) (y:Sv),m≤3∧i=.int .i64 m∧Hid (StAt Tr col' wr b bd (N+2) y (wrongN rr { T with dead:=T.dead || rr.write } m))∧Hid (Chg (Fl col') w3 wr)) (fun i _ _=>3 - (intOf i).toNat)
  case atStart=>exact ⟨0,_,by omega,rfl,H3.out,Chg.refl⟩
  case round =>
   obtain ⟨m,y,hm,rfl,HS,HC⟩:=hrel;have hxr:wr.heap[B]?=_:=(HC.out.block B (Array.getElem?_eq_some_iff.1 HX3.out).1 (fun hf=>hf.1 HcB.out)).trans HX3.out;have d0:wr.cell? ⟨B,0,none⟩=some (.bool rr.write):=cell_of_row _ _ 0 _ _ _ hxr;by_cases hgo:m<3∧rr.write=false
   ·obtain ⟨h3,hwf⟩:=hgo
    have hk3:(m:Int)<3:=by omega
    have hk0:¬ (m:Int)<0:=by omega
    have Hwf:=Lib.hid hwf;rw [hwf] at d0;have e1:wr.cell? ⟨B,1,none⟩=some (.int .i64 rr.lo):=cell_of_row _ _ 1 _ _ _ hxr;have e2:wr.cell? ⟨B,2,none⟩=some (.int .i64 rr.many):=cell_of_row _ _ 2 _ _ _ hxr;obtain ⟨p,ep,hn,hq⟩:=HS.out.ptr m h3;have cA:wr.cell? ⟨b,11+m,none⟩=some (.pointer p):=(HS.out.cellA h3).trans (congrArg some ep);have Hak:Hid ((wrongN rr { T with dead:=T.dead || rr.write } m).askAt m=T.askAt m):=show _=_ from wrongN_ge rr _ m m (Nat.le_refl _);clear hwf hxr
    cases ho:(wrongN rr { T with dead:=T.dead || rr.write } m).askAt m with
    |none =>
     obtain rfl:=hn ho;have He1:Hid (wrongN rr { T with dead:=T.dead || rr.write } (m+1)=wrongN rr { T with dead:=T.dead || rr.write } m):=show _=_ from wrong1_none ho;clear ho hn hq ep;go_wp2_with fail;refine wp_region_quiet_below mixed (by kernel_rfl) ?_;repeat (first | go_big_quiet_step ((fail)) | quiet_step ((fail)))
     refine wpQuiet_nil ?_;intro _ hw';obtain ⟨⟨dq,osq⟩,hw''⟩:=hw';subst hw'';have hb4:=below_regrown wr dq osq;have H4:=Lib.hid (HS.out.below hb4);have HC4:=Lib.hid (HC.out.two (Chg.of_below hb4));clear hb4;generalize grow (redrawn wr dq) osq=w4 at H4 HC4 ⊢;go_wp2_with fail;go_roundw
     case rel=>exact ⟨m+1,y,by omega,by go_num,He1.out▸H4.out,HC4.out⟩
     case measure=>simp [intOf]; omega
    |some a =>
     obtain ⟨ba,rfl⟩:=hq a ho;obtain ⟨lv,hrow,_,_⟩:=HS.out.askc h3 ho ep;have hAk:=HIg.out.ask m a (by rw [← Hak.out]; exact ho);have k0:wr.cell? ⟨ba,0,none⟩=some (.int .i64 a.kind):=cell_of_row _ _ 0 _ _ _ hrow;have k1:wr.cell? ⟨ba,1,none⟩=some (.int .i64 a.pos):=cell_of_row _ _ 1 _ _ _ hrow;have g1:∀ d os,(grow (redrawn wr d) os).cell? ⟨ba,1,none⟩=some (.int .i64 a.pos):=fun _ _=>cell_regrown k1 _ _
     have q1:∀ d os,(grow (redrawn wr d) os).cell? ⟨B,1,none⟩=some (.int .i64 rr.lo):=fun _ _=>cell_regrown e1 _ _
     have q2:∀ d os,(grow (redrawn wr d) os).cell? ⟨B,2,none⟩=some (.int .i64 rr.many):=fun _ _=>cell_regrown e2 _ _
     have Ho:=Lib.hid ho;have hlo:=hAk.lo;have hhi:=hAk.hi;obtain ⟨a1,a2,a3,a4,a5⟩:=Hrok.out.span;by_cases hk1:a.kind=1
     ·have g0:∀ d os,(grow (redrawn wr d) os).cell? ⟨ba,0,none⟩=some (.int .i64 1):=fun _ _=>cell_regrown (hk1▸k0) _ _
      have Hk1:=Lib.hid hk1;clear ho hn hq ep hrow hAk hk1 k0 k1 e1 e2;go_wp2_with fail;refine wp_region_quiet_below mixed (by kernel_rfl) ?_;repeat (first | go_big_quiet_step ((go_at_call 66; exact Calls.rg (rhas_any _ _ _ _ (by omega) (by omega) (by omega) (by omega)))) | quiet_step ((go_at_call 66; exact Calls.rg (rhas_any _ _ _ _ (by omega) (by omega) (by omega) (by omega)))))
      refine wpQuiet_nil ?_;intro _ hw';obtain ⟨⟨dq,osq⟩,hw''⟩:=hw';subst hw'';have hb4:=below_regrown wr dq osq;have H4:=Lib.hid (HS.out.below hb4);have HC4:=Lib.hid (HC.out.two (Chg.of_below hb4));clear hb4 g0 g1 q1 q2;generalize grow (redrawn wr dq) osq=w4 at H4 HC4 ⊢
      cases hh:hasB rr.lo rr.many a.pos with
      |true =>
       have He1:Hid (wrongN rr { T with dead:=T.dead || rr.write } (m+1)=(wrongN rr { T with dead:=T.dead || rr.write } m).answer m noB 8):=show _=_ from wrong1_hit Ho.out Hwf.out Hk1.out hh;clear hh;go_wp2_with fail;refine (ranswer_any col' w4 b bd (N+2) y _ m noB 8 H4.out h3).mono ?_;rintro e w5 ⟨rfl,hs5,hst5⟩;have Hst5:=Lib.hid hst5;have HC5:=Lib.hid (HC4.out.two (H4.out.chg1 (hs5.chg (F:=fun k=>k=b) rfl)));clear hst5 hs5;go_wp2_with fail;go_roundw
       case rel=>exact ⟨m+1,_,by omega,by go_num,He1.out▸Hst5.out,HC5.out⟩
       case measure=>simp [intOf]; omega
      |false =>
       have He1:Hid (wrongN rr { T with dead:=T.dead || rr.write } (m+1)=wrongN rr { T with dead:=T.dead || rr.write } m):=show _=_ from wrong1_miss Ho.out (fun h=>by rw [hh] at h; cases h.2.2);clear hh;go_wp2_with fail;go_roundw
       case rel=>exact ⟨m+1,y,by omega,by go_num,He1.out▸H4.out,HC4.out⟩
       case measure=>simp [intOf]; omega
     ·have hkb:(a.kind == 1)=false:=by simp only [beq_eq_false_iff_ne]; exact hk1
      have g0:∀ d os,(grow (redrawn wr d) os).cell? ⟨ba,0,none⟩=some (.int .i64 a.kind):=fun _ _=>cell_regrown k0 _ _
      have He1:Hid (wrongN rr { T with dead:=T.dead || rr.write } (m+1)=wrongN rr { T with dead:=T.dead || rr.write } m):=show _=_ from wrong1_miss Ho.out (fun h=>hk1 h.2.1);clear ho hn hq ep hrow hAk hk1 k0 k1 e1 e2;go_wp2_with fail;refine wp_region_quiet_below mixed (by kernel_rfl) ?_;repeat (first | go_big_quiet_step ((fail)) | quiet_step ((fail)))
      refine wpQuiet_nil ?_;intro _ hw';obtain ⟨⟨dq,osq⟩,hw''⟩:=hw';subst hw'';have hb4:=below_regrown wr dq osq;have H4:=Lib.hid (HS.out.below hb4);have HC4:=Lib.hid (HC.out.two (Chg.of_below hb4));clear hb4 g0 g1 q1 q2;generalize grow (redrawn wr dq) osq=w4 at H4 HC4 ⊢;go_wp2_with fail;go_roundw
      case rel=>exact ⟨m+1,y,by omega,by go_num,He1.out▸H4.out,HC4.out⟩
      case measure=>simp [intOf]; omega
   ·have key:((m:Int)<3∧rr.write=true)∨¬ (m:Int)<3:=by
     by_cases h3:m<3
     ·refine .inl ⟨by omega,?_⟩
      cases hw:rr.write
      ·exact absurd ⟨h3,hw⟩ hgo
      ·rfl
     ·exact .inr (by omega)
    have HW:Hid (wrongN rr { T with dead:=T.dead || rr.write } m=T.wrong rr):=show _=_ by
     rw [← wrongN_3];rcases key with h | h
     ·rw [wrongN_w h.2,wrongN_w h.2]
     ·rw [show m=3 by omega]
    have HIw:=Lib.hid (HIg.out.wrong rr);have HBw:=Lib.hid (HBg.out.wrong rr);rw [HW.out] at HS;clear hgo hxr;rcases key with ⟨h9,h10⟩ | h9
    all_goals
     try rw [h10] at d0
     try clear h10
     go_wp2_with fail;refine (rserve_any col' wr b bd (N+2) y _ K HS.out HIw.out HBw.out h0 hK).mono ?_;rintro e w5 ⟨c5,y5,rfl,hst5,hc5,hr5⟩;have Hr:=Lib.hid (Ret5.after (v:=.int .i64 0) ⟨c5,y5,rfl,hst5,hc5,hr5⟩ (Hch3.out.recol HC.out Hrec.out.grow) ⟨Hrec.out.old,Hrec.out.grow⟩);clear hst5 hc5 hr5;go_wp2_with fail;go_ret;rw [He.out];exact Hr.out
end Go.Proofs.YtagndjihiklmiaaGreatDoor
namespace Go.Proofs.YtagndjihiklmiaaGreatDoor
open Go.RowKit Go.Sort
def loopsOf:Code→List Code
 |.seq a b=>loopsOf a ++ loopsOf b
 |.block _ a=>loopsOf a
 |.cond _ a b=>loopsOf a ++ loopsOf b
 |.loop b=>[b]
 |_=>[]
theorem frame_of {n:Nat} (a:Act) (h:a.tmps.size=n) (hd:a.defers=[]):∃ f:Nat→Value,a=⟨((List.range n).map f).toArray,[]⟩∧∀ i v,a.tmps[i]?=some v→f i=v:=by
 obtain ⟨⟨l⟩,d⟩:=a;subst hd;subst h;refine ⟨fun i=>l.getD i undef,?_,fun i v hv=>?_⟩
 ·have e:l=(List.range l.length).map (fun i=>l.getD i undef):=by
   apply List.ext_getElem?;intro i;rw [List.getElem?_map];by_cases hi:i<l.length
   ·rw [List.getElem?_range hi,Option.map_some,List.getD_eq_getElem?_getD,List.getElem?_eq_getElem hi]; rfl
   ·rw [List.getElem?_eq_none (by omega),List.getElem?_eq_none (by simp; omega)]; rfl
  exact congrArg (fun l:List Value=>(⟨l.toArray,[]⟩:Act)) e
 ·have hv:l[i]?=some v:=by simpa using hv
  show l.getD i undef=v;rw [List.getD_eq_getElem?_getD,hv]; rfl
structure Rnd (C:Code) (Q:Exit→Act→World→Prop) (b bd N m:Nat) (a0:Act) (wr:World) (col1:Nat→Nat) (y:Sv) (t:St) (B:Nat) (rr:Rq) (Ad At Ao:Option Addr) (dl cd tl ct ol co:Nat) (sd:ByteArray):Prop where
 code:(Tryz.f27.body.map loopsOf).bind (·[1]?)=some C
 size:a0.tmps.size=206
 defers:a0.defers=[]
 p0:a0.tmps[0]?=some (.pointer (some ⟨b,0,none⟩))
 p7:a0.tmps[7]?=some (.pointer (some ⟨B,0,none⟩))
 p12:a0.tmps[12]?=some (.int .i64 (m:Int))
 st:StAt Tr col1 wr b bd N y t
 inv:Inv t
 use:0≤t.use∧t.use≤900000000
 box:wr.heap[B]?=some (.cells #[.bool rr.write,.int .i64 rr.lo,.int .i64 rr.many,.slice Ad dl cd,.slice At tl ct,.int .i64 rr.born,.slice Ao ol co,.int .i64 0] 123 (0,0))
 cB:col1 B=0
 lt:(m:Int)<rr.many
 lo:0≤rr.lo∧rr.lo+(m:Int)≤31∧rr.many≤4
 free:t.heldP (rr.lo+(m:Int))=false
 sz:sd.size≤16
 fin:∀ a' w' y',a'.tmps.size=206→a'.defers=[]→a'.tmps[0]?=some (.pointer (some ⟨b,0,none⟩))→a'.tmps[7]?=some (.pointer (some ⟨B,0,none⟩))→a'.tmps[12]?=some (.int .i64 ((m+1:Nat):Int))→StAt Tr col1 w' b bd N y' (t.ended1 rr.write (rr.lo+(m:Int)) sd)→Chg (Fl col1) wr w'→Q .normal a' w'
theorem rend_w (C:Code) (Q:Exit→Act→World→Prop) (b bd N m:Nat) (a0:Act) (wr:World) (col1:Nat→Nat) (y:Sv) (t:St) (B:Nat) (rr:Rq) (Ad At Ao:Option Addr) (dl cd tl ct ol co:Nat) (sd:ByteArray) (q off:Nat) (h:Rnd C Q b bd N m a0 wr col1 y t B rr Ad At Ao dl cd tl ct ol co sd) (hw:rr.write=true) (hA:Ad=some ⟨q,off,none⟩) (hm:m<dl) (hg:wr.cell? ⟨q,off+m,none⟩=some (.string sd)):C.wp Tryz.prog Q a0 wr:=by
 subst hA;obtain ⟨hC,z1,z2,z3,z4,z5,hst,hIn,hu,hbox,hcB,hlt,hlo,hfr,hsz,hto⟩:=h;obtain ⟨f,rfl,hf⟩:=frame_of a0 z1 z2;have y0:=hf 0 _ z3;have y7:=hf 7 _ z4;have y12:=hf 12 _ z5;have HT:=Lib.hid hto;have HS:=Lib.hid hst;have HIn:=Lib.hid hIn;have Hu:=Lib.hid hu;have Hlo:=Lib.hid hlo;have Hfr:=Lib.hid hfr;have Hsz:=Lib.hid hsz;have hz:=zero_buf;have Hfb:Hid (Fl col1 b):=show _∧_ from ⟨by rw [hst.cb]; decide,by rw [hst.cb]; decide⟩;have Hln:Hid (t.bufs.length≤65536):=show _≤_ by have:=hIn.len8; omega
 have Hbx:=Lib.hid hbox;have HBb:Hid (B≠b):=show _≠_ from fun e=>by rw [e,hst.cb] at hcB; cases hcB
 have d0:wr.cell? ⟨B,0,none⟩=some (.bool rr.write):=cell_of_row _ _ 0 _ _ _ hbox;have d1:wr.cell? ⟨B,1,none⟩=some (.int .i64 rr.lo):=cell_of_row _ _ 1 _ _ _ hbox;have d2:wr.cell? ⟨B,2,none⟩=some (.int .i64 rr.many):=cell_of_row _ _ 2 _ _ _ hbox;have c2:wr.cell? ⟨b,2,none⟩=some y.bufs:=hst.cell 2;have hwrap:IntKind.i64.wrap (rr.lo+(m:Int))=rr.lo+(m:Int):=IntWalk.i64_in _ (by omega);have hm4:(m:Int)<5:=by omega
 have hC:=Option.some.inj (Eq.symm hC);subst hC;simp only [List.range,List.range.loop,List.map_cons,List.map_nil,y0,y7,y12];clear z1 z2 z3 z4 z5 hst hIn hu hto hbox y0 y7 y12 hf hfr hsz;rw [hw] at d0;have Hw:=Lib.hid hw;clear hw;have d3:wr.cell? ⟨B,3,none⟩=some (.slice (some ⟨q,off,none⟩) dl cd):=cell_of_row _ _ 3 _ _ _ Hbx.out;have hmd:(m:Int)<(dl:Int):=by omega
 have hm0:¬ (m:Int)<0:=by omega
 go_wp2_with fail;refine wp_region_tail (n:=15) 1000 [] [] mixed [(110,fun v _=>v=(.pointer (some ⟨b,0,none⟩))),(111,fun v _=>v=(.pointer (some ⟨b,0,none⟩))),(112,fun v _=>v=(.pointer (some ⟨b,0,none⟩))),(113,fun v _=>v=(.pointer (some ⟨b,2,none⟩))),(114,fun v _=>v=y.bufs),(115,fun v _=>v=(.int .i64 (rr.lo+(m:Int)))),(116,fun v _=>v=(.pointer (some ⟨B,0,none⟩))),(117,fun v _=>v=(.pointer (some ⟨B,3,none⟩))),(118,fun v _=>v=(.slice (some ⟨q,off,none⟩) dl cd)),(119,fun v _=>v=(.int .i64 (m:Int))),(120,fun v _=>v=(.pointer (some ⟨q,off+m,none⟩))),(121,fun v _=>v=(.string sd)),(122,(fun v u=>u.ownsRow wr.heap.size 107 4 v (cleanB t.bufs (rr.lo+(m:Int)) sd).length (flatB (cleanB t.bufs (rr.lo+(m:Int)) sd)))),(123,fun v _=>v=(.pointer (some ⟨b,0,none⟩))),(124,fun v _=>v=(.pointer (some ⟨b,2,none⟩)))] (fun u=>Below wr.heap.size wr u) (fun _ u u'=>Below u.heap.size u u') (by kernel_rfl) rfl rfl rfl (by kernel_rfl) rfl (by decide) (by kernel_rfl) (by kernel_rfl) (Below.refl _ _).drew ?st19 ?sm19 ?steps19 ?fin19;case st19=>exact fun i hi=>by repeat' first | exact trivial | exact fun v u u' h hr=>own_below h hr | exact fun v u u' h _=>h | refine ⟨?_,?_⟩
 case sm19=>repeat' first | exact trivial | exact .inr (fun v u u' h hr=>own_below h hr) | exact .inr (fun v u u' h _=>h) | refine ⟨?_,?_⟩
 case steps19 =>
  refine ⟨?_,?_,?_,?_,?_,?_,?_,?_,?_,?_,?_,?_,?a19,?_,?_,trivial⟩
  case a19 =>
   intro ρ u hp hJ hr;have r1:ρ _=y.bufs:=hr.1;have r2:ρ _=(.int .i64 (rr.lo+(m:Int))):=hr.2.1;have r3:ρ _=.string sd:=hr.2.2.1;clear hr;refine gives_enter (f:=68) (args:=#[y.bufs,(.int .i64 (rr.lo+(m:Int))),.string sd]) (w':=u) ?_ ((rclean_any (Im u col1) t.bufs y.bufs (rr.lo+(m:Int)) sd u (HS.out.below hJ).bufs Hln.out).mono ?_)
   ·have hpf:=hp.func 68
    go_simp
   rintro e u' ⟨v2,rfl,ho2,hb2⟩;exact ⟨_,rfl,own_lo ho2 hJ.size,hJ.trans (hb2.mono hJ.size),hb2⟩
  all_goals
   intro ρ u hp hJ hr;have r1:ρ _=_:=hr.1;try have r2:ρ _=_:=hr.2.1
   clear hr;have e2:=cell_b hJ c2;have e3:=cell_b hJ d3;have e4:=cell_b hJ hg;refine gives_value (v:=_) (w':=u) ?_ ⟨rfl,hJ,Below.refl _ _⟩;go_simp
 case fin19 =>
  intro g ρ u hF hJ hU hp hρ;have f69:g 124=.pointer (some ⟨b,2,none⟩):=(hF.2.2.2.2.2.2.2.2.2.2.2.2.2.2.1).resolve_left (by simp);have f67:u.ownsRow wr.heap.size 107 4 (g 122) (cleanB t.bufs (rr.lo+(m:Int)) sd).length (flatB (cleanB t.bufs (rr.lo+(m:Int)) sd)):=(hF.2.2.2.2.2.2.2.2.2.2.2.2.1).resolve_left (by simp);obtain ⟨A2,n2,m2,e2,en⟩:=own_slice' f67;rw [e2,← en] at f67;have q1:ρ (.tmp 124)=.pointer (some ⟨b,2,none⟩):=(hρ 124).trans f69;have q2:ρ (.tmp 122)=.slice A2 n2 m2:=(hρ 122).trans e2;have H5:=Lib.hid (HS.out.below hJ);have HB5:=Lib.hid hJ;have q3:u.cell? ⟨b,2,none⟩=some y.bufs:=H5.out.cell 2;have q4:=H5.out.frozen 2;have Ho2:=Lib.hid f67;have Hen:=Lib.hid en;clear hF hU hp hρ f69 f67 hJ en e2;refine gives_skip (w':=u.setCell ⟨b,2,none⟩ (.slice A2 n2 m2)) (by go_simp) ?_;simp only [laid,List.take_succ_cons,List.take_zero];have hS5:=(Same1.refl (b:=b) (w:=u)).setCell 2 (.slice A2 n2 m2);have hv5:BufsAt (S0 col1) u (.slice A2 n2 m2) (cleanB t.bufs (rr.lo+(m:Int)) sd):=bufs_of_own (fun k hk=>HS.out.s0 k hk) (Hen.out▸Ho2.out) ((HIn.out.ended1 (w:=true) ⟨by have:=Hlo.out; omega,Hlo.out.2.1⟩ Hsz.out (fun _=>Hfr.out)).bok (by show t.use≤_; have:=Hu.out; omega));have H6:=Lib.hid (H5.out.bufd hS5 hv5 (heap_setCell_same _ _ 2 _ _ _ H5.out.row));have HK6:Hid (Chg (Fl col1) wr _):=show Chg _ _ _ from (Chg.of_below HB5.out).two (hS5.chg Hfb.out);clear hS5 hv5 q1 q2 q3 q4 c2 d0 d1 d2 d3 hg;generalize u.setCell ⟨b,2,none⟩ (.slice A2 n2 m2)=u3 at HK6 H6 ⊢;go_wp2_with fail;refine HT.out _ _ { y with bufs:=.slice A2 n2 m2 } rfl rfl rfl rfl (by first | rfl | go_num) ?_ HK6.out;rw [Hw.out];exact H6.out
end Go.Proofs.YtagndjihiklmiaaGreatDoor
