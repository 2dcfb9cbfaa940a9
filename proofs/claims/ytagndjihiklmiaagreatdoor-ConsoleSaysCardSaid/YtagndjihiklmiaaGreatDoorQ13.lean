/- The driver ends a request: (*Driver).End of the program. -/
import Derived.Test.YtagndjihiklmiaaGreatDoorQ12
set_option linter.unusedSimpArgs false
set_option linter.unusedVariables false
set_option maxRecDepth 100000
set_option maxHeartbeats 8000000
namespace Go.Proofs.YtagndjihiklmiaaGreatDoor
open Go.RowKit
abbrev TVp:TypeId:=183
def RetDrv (TD TP TV:TypeId) (S F:Nat→Prop) (w:World) (bv bd bt n:Nat) (v':Drv) (rs:Rs) (done:Bool) (ev:Value):Ending→World→Prop :=
 fun e w'=>∃ (x:Value) (F' S':Nat→Prop),e=.returned (.tuple #[x,.bool done,ev])∧RsAt S' w' x rs∧DrvAt TD TP TV S' F' w' bv bd bt (n+1) v'∧Chg (fun k=>F k∨k=bt) w w'∧(∀ k,F' k→Grow F w w' k)∧(∀ k,S k→S' k)∧(∀ k,S' k→Grow S w w' k)∧(∀ k,S' k→¬ F' k)
theorem tag_cell {S:Nat→Prop} {w:World} {A:Option Addr} {c:Nat} {r:Rq} (h:IntsAt S w (.slice A r.tags.length c) r.tags) (hr:ReqOk r):∃ b off,A=some ⟨b,off,none⟩∧w.cell? ⟨b,off,none⟩=some (.int .i64 (tagOf r))∧i64 (tagOf r)∧(0:Int)<(r.tags.length:Int)∧S b∧b<w.heap.size:=by
 have ht:=hr.tags;unfold tagsOk at ht;obtain ⟨b,off,e,hSb,hbl,hc⟩:=h.at_ (by omega)
 have hx:r.tags[0]?=some (tagOf r):=by
  unfold tagOf
  cases hl:r.tags with
  |nil=>rw [hl] at ht; simp at ht
  |cons x l=>rfl
 obtain ⟨h1,h2⟩:=hc 0 _ hx;exact ⟨b,off,e,by simpa using h1,h2,by omega,hSb,hbl⟩
theorem one8 (b:Bool) (x y z q:Int) (A B C:Option Addr) (n1 c1 n2 c2 n3 c3:Nat):(#[Value.bool b,.int .i64 x,.int .i64 y,.slice A n1 c1,.slice B n2 c2,.int .i64 z,.slice C n3 c3,.int .i64 q]:Array Value).all (·.oneCell')=true:=by simp [Value.oneCell']
theorem LayF.grown {F:Nat→Prop} {w wr w':World} {l:List (Nat × TypeId × Array Value)} (h:LayF F w wr l) {b:Nat} (hg:wr.grownBy w' (some b)) (hb:F b) (hn:∀ x ∈ l,x.1≠b):LayF F w w' l :=
 h.chg2 (G:=fun q=>q=b) ⟨hg.os,hg.tape,hg.output,hg.size,fun k hk hne=>hg.block k hk (fun e=>hne (by injection e))⟩ (fun q hq=>.inl (hq▸hb)) hn
theorem drvend_ok (S F:Nat→Prop) (w:World) (bv bd bt n k:Nat) (v:Drv) (r:Rq) (h:DrvAt TDp TPp TVp S F w bv bd bt n v) (hk:v.d.l[k]?=some r) (hok:DvOk v.d) (hwl:v.d.waits.length≤900000000) (hn:n≤900000000)
  (hF:∀ k,F k→k<w.heap.size) (hSF:∀ k,S k→¬ F k) (hSlt:∀ k,S k→k<w.heap.size) :
  Calls Tryz.prog 89 #[.pointer (some ⟨bv,0,none⟩),.int .i64 (k:Int),.bool false] w (RetDrv TDp TPp TVp S F w bv bd bt n ⟨(v.d.ended r k false).1,upd v.tries (tagOf r) 0⟩ (v.d.ended r k false).2 true .nilIface):=by
 have hr:=reqF_zero (hok.l r (List.mem_of_getElem? hk));have hbv:=(Array.getElem?_eq_some_iff.1 h.row).1;have c0:∀ o,(w.alloc o).cell? ⟨bv,0,none⟩=some (.pointer (some ⟨bd,0,none⟩)):=fun o=>by rw [World.cell?_alloc_lt _ _ _ hbv,cell_of_row _ _ _ _ _ _ h.row]; rfl
 have H:=Lib.hid h;have Hk:=Lib.hid hk;have Hok:=Lib.hid hok;have Hr:=Lib.hid hr;have HF:=Lib.hid hF;have HS:=Lib.hid hSF;have Hlt:=Lib.hid hSlt;have hrr:(v.d.ended r k false).2.req=r:=by unfold Dv.ended; rw [if_neg (by simp)]; split <;> rfl
 have hre:(v.d.ended r k false).2.err=0:=by unfold Dv.ended; rw [if_neg (by simp)]; split <;> rfl
 obtain ⟨q,hq⟩:∃ x,v.d.ended r k false=x:=⟨_,rfl⟩
 rw [hq] at hrr hre ⊢;obtain ⟨d',⟨rr,dl,er⟩⟩:=q;simp only at hrr hre ⊢;subst hrr hre;have Hq:=Lib.hid hq;clear h hk hok hr hF hSF hSlt hq;go_enter Tryz.func89,Tryz.ntmps89;go_wp2_with fail;have L:=(LayF.refl (fun k=>F k∨k=bt) w).alloc' w.heap.size zeroRsV 123 rfl;have hb1:Below w.heap.size w _:=(Below.refl w.heap.size w).alloc (Nat.le_refl _) (.cells zeroRsV 123);have hs1:(w.alloc (.cells zeroRsV 123)).heap.size=w.heap.size+1:=by simp
 generalize World.alloc _ _=W1 at L hb1 hs1 ⊢;have hd1:=H.out.below hb1;refine (devend_some S F W1 bd v.d k rr false hd1.dev Hk.out Hr.out Hok.out.two (by omega) Hok.out.nowM (fun k hk=>by have:=HF.out k hk; omega) HS.out (fun k hk=>by have:=Hlt.out k hk; omega)).mono ?_;rw [Hq.out];rintro e w2 ⟨x2,F2,S2,rfl,hrs,hd2,hc2,_,hF2,hSS2,hS2,hSF2⟩;simp only at hrs hd2 ⊢;obtain ⟨rc,ov,ev,erc,hrc,hov⟩:=hrs;obtain ⟨r3,rdv,rtv⟩:=rc;simp only at erc ev hov;obtain ⟨Bd,bd7,e1,_,_⟩:=hrc.data.form;obtain ⟨Bt,bt7,e2,_,_⟩:=hrc.tags.form;obtain ⟨Bo,bo7,e3,_,_⟩:=hov.form;simp only at e1 e2;subst e1 e2 e3 ev erc;obtain ⟨tb,tof,rfl,htc,hti,htl,hSt,htb⟩:=tag_cell hrc.tags Hr.out
 have hL2:=L.chg2 hc2 (fun k hk=>.inl (.inl hk)) (fun x hx hf=>by
  simp only [List.mem_cons,List.not_mem_nil,or_false] at hx;subst hx;have:=HF.out _ hf;simp only at this
  omega)
 obtain ⟨f,hmf,hfv⟩:=H.out.map;have hbt:=hmf.lt;have HL2:=Lib.hid hL2;have HT:Hid (w2.there w.heap.size 0 (#[Value.bool r3.write,.int .i64 r3.lo,.int .i64 r3.many,.slice Bd r3.data.length bd7,.slice (some ⟨tb,tof,none⟩) r3.tags.length bt7,.int .i64 r3.born,.slice Bo dl.length bo7,.int .i64 0]:Array Value).size):=hL2.there 0 rfl _ rfl;have Hi:Hid ((Tryz.prog.info? 123).map (·.size)=some (#[Value.bool r3.write,.int .i64 r3.lo,.int .i64 r3.many,.slice Bd r3.data.length bd7,.slice (some ⟨tb,tof,none⟩) r3.tags.length bt7,.int .i64 r3.born,.slice Bo dl.length bo7,.int .i64 0]:Array Value).size):=resInfo;have Hz:Hid ((#[Value.bool r3.write,.int .i64 r3.lo,.int .i64 r3.many,.slice Bd r3.data.length bd7,.slice (some ⟨tb,tof,none⟩) r3.tags.length bt7,.int .i64 r3.born,.slice Bo dl.length bo7,.int .i64 0]:Array Value).all (·.oneCell')=true):=one8 _ _ _ _ _ _ _ _ _ _ _ _ _ _;have hb2:∀ q,q<w.heap.size→¬ F q→w2.heap[q]?=w.heap[q]?:=fun q hq hf=>(hc2.block q (by omega) hf).trans (hb1.block q hq)
 have Hrow2:=Lib.hid ((hb2 bv hbv H.out.nv).trans H.out.row);have Hmap2:=Lib.hid (hmf.keep (hb2 bt hbt H.out.nt));have Hfv:=Lib.hid hfv;have htw:tb≠w.heap.size:=fun e=>by rcases hS2 tb hSt with h | h; have:=Hlt.out _ h; omega; omega
 have htt:tb≠bt:=fun e=>by
  rcases hS2 tb hSt with h | h
  ·exact (H.out.sv tb h).2 e
  ·omega
 have Htc:=Lib.hid htc;have Hrc:=Lib.hid hrc;have Hov:=Lib.hid hov;have Hd2:=Lib.hid hd2;have Hc2:=Lib.hid ((Chg.of_below (F:=F) hb1).trans (hc2.mono (fun q h=>.inl h)))
 have HF2:Hid (∀ q,F2 q→Grow F w w2 q∧q≠bv∧q≠bt∧q≠w.heap.size):=fun q hq=>by
  rcases hF2 q hq with h | h
  ·exact ⟨.inl h,fun e=>H.out.nv (e▸h),fun e=>H.out.nt (e▸h),fun e=>by have:=HF.out q h; omega⟩
  ·exact ⟨.inr ⟨by omega,h.2⟩,by omega,by omega,by omega⟩
 have HS2:Hid (∀ q,S2 q→Grow S w w2 q∧q≠bv∧q≠bt∧q≠w.heap.size∧q<w2.heap.size):=fun q hq=>by
  rcases hS2 q hq with h | h
  ·exact ⟨.inl h,(H.out.sv q h).1,(H.out.sv q h).2,by have:=Hlt.out q h; omega,by have:=Hlt.out q h; have:=hc2.size; omega⟩
  ·exact ⟨.inr ⟨by omega,h.2⟩,by omega,by omega,by omega,h.2⟩
 have HSF2:=Lib.hid hSF2;have HSS2:=Lib.hid hSS2;have hz12:=hc2.size;have hwt:w.heap.size≠bt:=by omega
 clear hL2 L hb1 hrc hov hd2 hc2 hF2 hSS2 hS2 hSF2 hmf hfv hb2 htc c0 hd1 hSt
 go_wp2_with (first
  |(refine wpList_store_mid rfl 123 (.tmp 6) (.tmp 18) rfl w.heap.size 0 #[Value.bool r3.write,.int .i64 r3.lo,.int .i64 r3.many,.slice Bd r3.data.length bd7,.slice (some ⟨tb,tof,none⟩) r3.tags.length bt7,.int .i64 r3.born,.slice Bo dl.length bo7,.int .i64 0] rfl rfl HT.out Hi.out Hz.out ?_
    have L3:=Lib.hid (HL2.out.put 0 rfl #[Value.bool r3.write,.int .i64 r3.lo,.int .i64 r3.many,.slice Bd r3.data.length bd7,.slice (some ⟨tb,tof,none⟩) r3.tags.length bt7,.int .i64 r3.born,.slice Bo dl.length bo7,.int .i64 0] rfl);have hc3:Hid (Chg (fun q=>q=w.heap.size) w2 (w2.setCells w.heap.size 0 (#[Value.bool r3.write,.int .i64 r3.lo,.int .i64 r3.many,.slice Bd r3.data.length bd7,.slice (some ⟨tb,tof,none⟩) r3.tags.length bt7,.int .i64 r3.born,.slice Bo dl.length bo7,.int .i64 0]:Array Value).toList)):=Chg.setCells (F:=fun q=>q=w.heap.size) (w:=w2) Chg.refl (.inl rfl) 0 (#[Value.bool r3.write,.int .i64 r3.lo,.int .i64 r3.many,.slice Bd r3.data.length bd7,.slice (some ⟨tb,tof,none⟩) r3.tags.length bt7,.int .i64 r3.born,.slice Bo dl.length bo7,.int .i64 0]:Array Value).toList;generalize World.setCells _ _ _ _=W3 at L3 hc3 ⊢;obtain ⟨p0,p1,p2,p3,p4,p5,p6,p7⟩:=L3.out.c8 0 rfl;have ht3:W3.cell? ⟨tb,tof,none⟩=_:=(World.cell?_of_block (w:=w2) (hc3.out.block tb htb htw)).trans Htc.out;have hrow3:=(hc3.out.block bv (by omega) (by omega)).trans Hrow2.out;have cbt:W3.cell? ⟨bv,1,none⟩=some (.map (some bt)):=by rw [cell_of_row _ _ _ _ _ _ hrow3]; rfl
    have Hrow3:=Lib.hid hrow3;have Hmap3:=Lib.hid (Hmap2.out.keep (hc3.out.block bt (by omega) (by omega)))
    clear hrow3)
  |(at_delete; refine wpList_drop _ rfl (.tmp 35) (.tmp 36) rfl bt n f (tagOf r3) rfl rfl Hmap3.out hti ?_
    intro w4 hm4 hg4;have L4:=Lib.hid (L3.out.grown hg4 (.inr rfl) (fun x hx=>by simp at hx; subst hx; exact hwt));obtain ⟨y0,y1,y2,y3,y4,y5,y6,y7⟩:=L4.out.c8 0 rfl;have HT4:Hid (w4.there w.heap.size 0 (#[Value.bool r3.write,.int .i64 r3.lo,.int .i64 r3.many,.slice Bd r3.data.length bd7,.slice (some ⟨tb,tof,none⟩) r3.tags.length bt7,.int .i64 r3.born,.slice Bo dl.length bo7,.int .i64 0]:Array Value).size):=L4.out.there 0 rfl _ rfl;have Hm4:=Lib.hid hm4;have Hg4:=Lib.hid hg4
    clear hm4 hg4 p0 p1 p2 p3 p4 p5 p6 p7)
  |(refine wpList_store_mid rfl 123 (.tmp 6) (.tmp 37) rfl w.heap.size 0 #[Value.bool r3.write,.int .i64 r3.lo,.int .i64 r3.many,.slice Bd r3.data.length bd7,.slice (some ⟨tb,tof,none⟩) r3.tags.length bt7,.int .i64 r3.born,.slice Bo dl.length bo7,.int .i64 0] rfl rfl HT4.out Hi.out Hz.out ?_
    have L5:=Lib.hid (L4.out.put 0 rfl #[Value.bool r3.write,.int .i64 r3.lo,.int .i64 r3.many,.slice Bd r3.data.length bd7,.slice (some ⟨tb,tof,none⟩) r3.tags.length bt7,.int .i64 r3.born,.slice Bo dl.length bo7,.int .i64 0] rfl);have hc5:Hid (Chg (fun q=>q=w.heap.size) w4 (w4.setCells w.heap.size 0 (#[Value.bool r3.write,.int .i64 r3.lo,.int .i64 r3.many,.slice Bd r3.data.length bd7,.slice (some ⟨tb,tof,none⟩) r3.tags.length bt7,.int .i64 r3.born,.slice Bo dl.length bo7,.int .i64 0]:Array Value).toList)):=Chg.setCells (F:=fun q=>q=w.heap.size) (w:=w4) Chg.refl (.inl rfl) 0 (#[Value.bool r3.write,.int .i64 r3.lo,.int .i64 r3.many,.slice Bd r3.data.length bd7,.slice (some ⟨tb,tof,none⟩) r3.tags.length bt7,.int .i64 r3.born,.slice Bo dl.length bo7,.int .i64 0]:Array Value).toList;generalize World.setCells _ _ _ _=W5 at L5 hc5 ⊢;clear y0 y1 y2 y3 y4 y5 y6 y7
    obtain ⟨z0,z1,z2,z3,z4,z5,z6,z7⟩:=L5.out.c8 0 rfl))
 refine bodyPost_ret (v:=.tuple #[.agg #[Value.bool r3.write,.int .i64 r3.lo,.int .i64 r3.many,.slice Bd r3.data.length bd7,.slice (some ⟨tb,tof,none⟩) r3.tags.length bt7,.int .i64 r3.born,.slice Bo dl.length bo7,.int .i64 0],.bool true,.nilIface]) (by simp [results,Tryz.results89,go_sem,z0,z1,z2,z3,z4,z5,z6,z7]) rfl ?_;have hsz3:w2.heap.size≤W3.heap.size:=hc3.out.size;have hsz4:W3.heap.size≤w4.heap.size:=Hg4.out.size;have hsz5:w4.heap.size≤W5.heap.size:=hc5.out.size
 have hkk:∀ q,q<w2.heap.size→q≠w.heap.size→q≠bt→W5.heap[q]?=w2.heap[q]?:=fun q hq h1 h2 =>
  ((hc5.out.block q (by omega) h1).trans (Hg4.out.block q (by omega) (fun e=>h2 (by injection e)))).trans (hc3.out.block q hq h1)
 have hkS:∀ q,S2 q→q<w2.heap.size→W5.heap[q]?=w2.heap[q]?:=fun q hq hlt=>hkk q hlt (HS2.out q hq).2.2.2.1 (HS2.out q hq).2.2.1
 have hkF:∀ q,F2 q→q<w2.heap.size→W5.heap[q]?=w2.heap[q]?:=fun q hq hlt=>hkk q hlt (HF2.out q hq).2.2.2 (HF2.out q hq).2.2.1
 refine ⟨_,F2,S2,rfl,⟨_,_,rfl,rfl,Hrc.out.keep hkS,Hov.out.keep hkS⟩,⟨?_,?_,(Hd2.out.more HSS2.out).keep hkF hkS,fun hf=>(HF2.out _ hf).2.1 rfl,fun hf=>(HF2.out _ hf).2.2.1 rfl,fun q hq=>⟨(HS2.out q hq).2.1,(HS2.out q hq).2.2.1⟩⟩,L5.out.chg,fun q hq=>(HF2.out q hq).1.elim .inl (fun h=>.inr ⟨h.1,by omega⟩),HSS2.out,fun q hq=>(HS2.out q hq).1.elim .inl (fun h=>.inr ⟨h.1,by omega⟩),HSF2.out⟩
 ·exact (hkk bv (by omega) (by omega) H.out.ne).trans Hrow2.out
 ·refine ⟨_,(Hm4.out.keep (hc5.out.block bt (by omega) (fun e=>hwt e.symm))).mono (Nat.le_succ n),fun j hj=>?_⟩
  show upd f (tagOf r3) 0 j=upd v.tries (tagOf r3) 0 j;unfold upd
  split
  ·rfl
  ·exact Hfv.out j hj
end Go.Proofs.YtagndjihiklmiaaGreatDoor
namespace Go.Proofs.YtagndjihiklmiaaGreatDoor
open Go.RowKit
theorem drvend_true (S F:Nat→Prop) (w:World) (bv bd bt n k:Nat) (v:Drv) (r:Rq) (h:DrvAt TDp TPp TVp S F w bv bd bt n v) (hk:v.d.l[k]?=some r) (hok:DvOk v.d) (hwl:v.d.waits.length≤900000000) (hn:n≤900000000) (htr:∀ j,i64 j→0≤v.tries j∧v.tries j≤2)
  (hF:∀ k,F k→k<w.heap.size) (hSF:∀ k,S k→¬ F k) (hSlt:∀ k,S k→k<w.heap.size) :
  Calls Tryz.prog 89 #[.pointer (some ⟨bv,0,none⟩),.int .i64 (k:Int),.bool true] w (fun e w'=>(v.tries (tagOf r)+1<3→RetDrv TDp TPp TVp S F w bv bd bt n ⟨((v.d.drop k).start r).1,upd v.tries (tagOf r) (v.tries (tagOf r)+1)⟩ zeroRs false .nilIface e w')∧(¬ v.tries (tagOf r)+1<3→RetDrv TDp TPp TVp S F w bv bd bt n ⟨v.d.drop k,upd v.tries (tagOf r) 0⟩ ⟨r,[],8⟩ true .nilIface e w')):=by
 have hr:=reqF_zero (hok.l r (List.mem_of_getElem? hk));have hbv:=(Array.getElem?_eq_some_iff.1 h.row).1;have c0:∀ o,(w.alloc o).cell? ⟨bv,0,none⟩=some (.pointer (some ⟨bd,0,none⟩)):=fun o=>by rw [World.cell?_alloc_lt _ _ _ hbv,cell_of_row _ _ _ _ _ _ h.row]; rfl
 have H:=Lib.hid h;have Hk:=Lib.hid hk;have Hok:=Lib.hid hok;have Hr:=Lib.hid hr;have HF:=Lib.hid hF;have HS:=Lib.hid hSF;have Hlt:=Lib.hid hSlt;have hq:v.d.ended r k true=(v.d.drop k,⟨r,[],8⟩):=if_pos rfl;have Hq:=Lib.hid hq
 obtain ⟨rr,hrr⟩:∃ x,r=x:=⟨_,rfl⟩
 subst hrr
 obtain ⟨d',hd'⟩:∃ x,v.d.drop k=x:=⟨_,rfl⟩
 rw [hd'] at Hq ⊢;have Hd':=Lib.hid hd';clear hd';clear h hk hok hr hF hSF hSlt hq;go_enter Tryz.func89,Tryz.ntmps89;go_wp2_with fail;have L:=(LayF.refl (fun k=>F k∨k=bt) w).alloc' w.heap.size zeroRsV 123 rfl;have hb1:Below w.heap.size w _:=(Below.refl w.heap.size w).alloc (Nat.le_refl _) (.cells zeroRsV 123);have hs1:(w.alloc (.cells zeroRsV 123)).heap.size=w.heap.size+1:=by simp
 generalize World.alloc _ _=W1 at L hb1 hs1 ⊢;have hd1:=H.out.below hb1;refine (devend_some S F W1 bd v.d k r true hd1.dev Hk.out Hr.out Hok.out.two (by omega) Hok.out.nowM (fun k hk=>by have:=HF.out k hk; omega) HS.out (fun k hk=>by have:=Hlt.out k hk; omega)).mono ?_;rw [Hq.out];rintro e w2 ⟨x2,F2,S2,rfl,hrs,hd2,hc2,_,hF2,hSS2,hS2,hSF2⟩;simp only at hrs hd2 ⊢;obtain ⟨rc,ov,ev,erc,hrc,hov⟩:=hrs;obtain ⟨r3,rdv,rtv⟩:=rc;simp only at erc ev hov;obtain ⟨Bd,bd7,e1,_,_⟩:=hrc.data.form;obtain ⟨Bt,bt7,e2,_,_⟩:=hrc.tags.form;obtain ⟨Bo,bo7,e3,_,_⟩:=hov.form;simp only at e1 e2;subst e1 e2 e3 ev;subst erc;obtain ⟨tb,tof,rfl,htc,hti,htl,hSt,htb⟩:=tag_cell hrc.tags Hr.out
 have hL2:=L.chg2 hc2 (fun k hk=>.inl (.inl hk)) (fun x hx hf=>by
  simp only [List.mem_cons,List.not_mem_nil,or_false] at hx;subst hx;have:=HF.out _ hf;simp only at this
  omega)
 obtain ⟨f,hmf,hfv⟩:=H.out.map;have hbt:=hmf.lt;have HL2:=Lib.hid hL2;have HT:Hid (w2.there w.heap.size 0 (#[Value.bool r3.write,.int .i64 r3.lo,.int .i64 r3.many,.slice Bd r3.data.length bd7,.slice (some ⟨tb,tof,none⟩) r3.tags.length bt7,.int .i64 r3.born,.slice Bo 0 bo7,.int .i64 8]:Array Value).size):=hL2.there 0 rfl _ rfl;have Hi:Hid ((Tryz.prog.info? 123).map (·.size)=some (#[Value.bool r3.write,.int .i64 r3.lo,.int .i64 r3.many,.slice Bd r3.data.length bd7,.slice (some ⟨tb,tof,none⟩) r3.tags.length bt7,.int .i64 r3.born,.slice Bo 0 bo7,.int .i64 8]:Array Value).size):=resInfo;have Hz:Hid ((#[Value.bool r3.write,.int .i64 r3.lo,.int .i64 r3.many,.slice Bd r3.data.length bd7,.slice (some ⟨tb,tof,none⟩) r3.tags.length bt7,.int .i64 r3.born,.slice Bo 0 bo7,.int .i64 8]:Array Value).all (·.oneCell')=true):=one8 _ _ _ _ _ _ _ _ _ _ _ _ _ _;have hb2:∀ q,q<w.heap.size→¬ F q→w2.heap[q]?=w.heap[q]?:=fun q hq hf=>(hc2.block q (by omega) hf).trans (hb1.block q hq)
 have Hrow2:=Lib.hid ((hb2 bv hbv H.out.nv).trans H.out.row);have Hmap2:=Lib.hid (hmf.keep (hb2 bt hbt H.out.nt));have Hfv:=Lib.hid hfv;have htw:tb≠w.heap.size:=fun e=>by rcases hS2 tb hSt with h | h; have:=Hlt.out _ h; omega; omega
 have htt:tb≠bt:=fun e=>by
  rcases hS2 tb hSt with h | h
  ·exact (H.out.sv tb h).2 e
  ·omega
 have Htc:=Lib.hid htc;have Hrc:=Lib.hid hrc;have Hov:=Lib.hid hov;have Hd2:=Lib.hid hd2;have Hc2:=Lib.hid ((Chg.of_below (F:=F) hb1).trans (hc2.mono (fun q h=>.inl h)))
 have HF2:Hid (∀ q,F2 q→Grow F w w2 q∧q≠bv∧q≠bt∧q≠w.heap.size):=fun q hq=>by
  rcases hF2 q hq with h | h
  ·exact ⟨.inl h,fun e=>H.out.nv (e▸h),fun e=>H.out.nt (e▸h),fun e=>by have:=HF.out q h; omega⟩
  ·exact ⟨.inr ⟨by omega,h.2⟩,by omega,by omega,by omega⟩
 have HS2:Hid (∀ q,S2 q→Grow S w w2 q∧q≠bv∧q≠bt∧q≠w.heap.size∧q<w2.heap.size):=fun q hq=>by
  rcases hS2 q hq with h | h
  ·exact ⟨.inl h,(H.out.sv q h).1,(H.out.sv q h).2,by have:=Hlt.out q h; omega,by have:=Hlt.out q h; have:=hc2.size; omega⟩
  ·exact ⟨.inr ⟨by omega,h.2⟩,by omega,by omega,by omega,h.2⟩
 have HSF2:=Lib.hid hSF2;have HSS2:=Lib.hid hSS2;have hz12:=hc2.size;have hwt:w.heap.size≠bt:=by omega
 clear hL2 L hb1 hrc hov hd2 hc2 hF2 hSS2 hS2 hSF2 hmf hfv hb2 htc c0 hd1 hSt;have htb2:=htr _ hti;have hadd:IntKind.i64.wrap (v.tries (tagOf r3)+1)=v.tries (tagOf r3)+1:=IntWalk.i64_in _ (by omega);have hvi:i64 (v.tries (tagOf r3)+1):=by unfold i64; omega
 by_cases h3:v.tries (tagOf r3)+1<3
 go_wp2_with (first
  |(refine wpList_store_mid rfl 123 (.tmp 6) (.tmp 18) rfl w.heap.size 0 #[Value.bool r3.write,.int .i64 r3.lo,.int .i64 r3.many,.slice Bd r3.data.length bd7,.slice (some ⟨tb,tof,none⟩) r3.tags.length bt7,.int .i64 r3.born,.slice Bo (0:Nat) bo7,.int .i64 8] rfl rfl HT.out Hi.out Hz.out ?_
    have L3:=Lib.hid (HL2.out.put 0 rfl #[Value.bool r3.write,.int .i64 r3.lo,.int .i64 r3.many,.slice Bd r3.data.length bd7,.slice (some ⟨tb,tof,none⟩) r3.tags.length bt7,.int .i64 r3.born,.slice Bo 0 bo7,.int .i64 8] rfl);have hc3:Hid (Chg (fun q=>q=w.heap.size) w2 (w2.setCells w.heap.size 0 (#[Value.bool r3.write,.int .i64 r3.lo,.int .i64 r3.many,.slice Bd r3.data.length bd7,.slice (some ⟨tb,tof,none⟩) r3.tags.length bt7,.int .i64 r3.born,.slice Bo 0 bo7,.int .i64 8]:Array Value).toList)):=Chg.setCells (F:=fun q=>q=w.heap.size) (w:=w2) Chg.refl (.inl rfl) 0 (#[Value.bool r3.write,.int .i64 r3.lo,.int .i64 r3.many,.slice Bd r3.data.length bd7,.slice (some ⟨tb,tof,none⟩) r3.tags.length bt7,.int .i64 r3.born,.slice Bo 0 bo7,.int .i64 8]:Array Value).toList;generalize World.setCells _ _ _ _=W3 at L3 hc3 ⊢;obtain ⟨p0,p1,p2,p3,p4,p5,p6,p7⟩:=L3.out.c8 0 rfl;have ht3:W3.cell? ⟨tb,tof,none⟩=_:=(World.cell?_of_block (w:=w2) (hc3.out.block tb htb htw)).trans Htc.out;have hrow3:=(hc3.out.block bv (by omega) (by omega)).trans Hrow2.out;have cbt:W3.cell? ⟨bv,1,none⟩=some (.map (some bt)):=by rw [cell_of_row _ _ _ _ _ _ hrow3]; rfl
    have Hrow3:=Lib.hid hrow3;have Hmap3:=Lib.hid (Hmap2.out.keep (hc3.out.block bt (by omega) (by omega)));have hlk:=Hmap3.out.lookup hti;rw [Hfv.out _ hti] at hlk
    clear hrow3)
  |(at_mapUpdate; refine wpList_upd _ rfl (.tmp 41) (.tmp 42) (.tmp 44) rfl bt n f (tagOf r3) (v.tries (tagOf r3)+1) rfl rfl rfl Hmap3.out hti hvi (by omega) ?_
    intro w4 hm4 hg4;have L4:=Lib.hid (L3.out.grown hg4 (.inr rfl) (fun x hx=>by simp at hx; subst hx; exact hwt));obtain ⟨y0,y1,y2,y3,y4,y5,y6,y7⟩:=L4.out.c8 0 rfl;have hlk4:=hm4.lookup hti;rw [show upd f (tagOf r3) (v.tries (tagOf r3)+1) (tagOf r3)=v.tries (tagOf r3)+1 from if_pos rfl] at hlk4;have hrow4:=(hg4.block bv (by have:=hc3.out.size; omega) (fun e=>H.out.ne (by injection e))).trans Hrow3.out;have cbt4:w4.cell? ⟨bv,1,none⟩=some (.map (some bt)):=by rw [cell_of_row _ _ _ _ _ _ hrow4]; rfl
    have cbd4:w4.cell? ⟨bv,0,none⟩=some (.pointer (some ⟨bd,0,none⟩)):=by rw [cell_of_row _ _ _ _ _ _ hrow4]; rfl
    have HT4:Hid (w4.there w.heap.size 0 (#[Value.bool r3.write,.int .i64 r3.lo,.int .i64 r3.many,.slice Bd r3.data.length bd7,.slice (some ⟨tb,tof,none⟩) r3.tags.length bt7,.int .i64 r3.born,.slice Bo 0 bo7,.int .i64 8]:Array Value).size):=L4.out.there 0 rfl _ rfl;have Hm4:=Lib.hid hm4;have Hg4:=Lib.hid hg4
    clear hm4 hg4 p0 p1 p2 p3 p4 p5 p6 p7 hlk)
  |(at_delete; refine wpList_drop _ rfl (.tmp 63) (.tmp 64) rfl bt (n+1) _ (tagOf r3) rfl rfl Hm4.out hti ?_
    intro w5 hm5 hg5;have L5:=Lib.hid (L4.out.grown hg5 (.inr rfl) (fun x hx=>by simp at hx; subst hx; exact hwt));clear y0 y1 y2 y3 y4 y5 y6 y7;obtain ⟨u0,u1,u2,u3,u4,u5,u6,u7⟩:=L5.out.c8 0 rfl;have HT5:Hid (w5.there w.heap.size 0 (#[Value.bool r3.write,.int .i64 r3.lo,.int .i64 r3.many,.slice Bd r3.data.length bd7,.slice (some ⟨tb,tof,none⟩) r3.tags.length bt7,.int .i64 r3.born,.slice Bo 0 bo7,.int .i64 8]:Array Value).size):=L5.out.there 0 rfl _ rfl;have Hm5:=Lib.hid hm5;have Hg5:=Lib.hid hg5
    clear hm5 hg5)
  |(refine wpList_store_mid rfl 123 (.tmp 6) (.tmp 65) rfl w.heap.size 0 #[Value.bool r3.write,.int .i64 r3.lo,.int .i64 r3.many,.slice Bd r3.data.length bd7,.slice (some ⟨tb,tof,none⟩) r3.tags.length bt7,.int .i64 r3.born,.slice Bo 0 bo7,.int .i64 8] rfl rfl HT5.out Hi.out Hz.out ?_
    have L6:=Lib.hid (L5.out.put 0 rfl #[Value.bool r3.write,.int .i64 r3.lo,.int .i64 r3.many,.slice Bd r3.data.length bd7,.slice (some ⟨tb,tof,none⟩) r3.tags.length bt7,.int .i64 r3.born,.slice Bo 0 bo7,.int .i64 8] rfl);have hc6:Hid (Chg (fun q=>q=w.heap.size) w5 (w5.setCells w.heap.size 0 (#[Value.bool r3.write,.int .i64 r3.lo,.int .i64 r3.many,.slice Bd r3.data.length bd7,.slice (some ⟨tb,tof,none⟩) r3.tags.length bt7,.int .i64 r3.born,.slice Bo 0 bo7,.int .i64 8]:Array Value).toList)):=Chg.setCells (F:=fun q=>q=w.heap.size) (w:=w5) Chg.refl (.inl rfl) 0 (#[Value.bool r3.write,.int .i64 r3.lo,.int .i64 r3.many,.slice Bd r3.data.length bd7,.slice (some ⟨tb,tof,none⟩) r3.tags.length bt7,.int .i64 r3.born,.slice Bo 0 bo7,.int .i64 8]:Array Value).toList;generalize World.setCells _ _ _ _=W6 at L6 hc6 ⊢;clear u0 u1 u2 u3 u4 u5 u6 u7
    obtain ⟨z0,z1,z2,z3,z4,z5,z6,z7⟩:=L6.out.c8 0 rfl))
 ·have hgk:∀ q,q<w2.heap.size→q≠w.heap.size→q≠bt→w4.heap[q]?=w2.heap[q]?:=fun q hq h1 h2 =>
   (Hg4.out.block q (by have:=hc3.out.size; omega) (fun e=>h2 (by injection e))).trans (hc3.out.block q hq h1)
  have hs34:w2.heap.size≤w4.heap.size:=Nat.le_trans hc3.out.size Hg4.out.size;have Hd4:=Lib.hid (((Hd2.out.more HSS2.out).keep (fun q hq hlt=>hgk q hlt (HF2.out q hq).2.2.2 (HF2.out q hq).2.2.1) (fun q hq hlt=>hgk q hlt (HS2.out q hq).2.2.2.1 (HS2.out q hq).2.2.1)).below (Below.refl _ _).drew);have Hrc4:=Lib.hid ((Hrc.out.keep (fun q hq hlt=>hgk q hlt (HS2.out q hq).2.2.2.1 (HS2.out q hq).2.2.1)).below (Below.refl _ _).drew);have L4d:=Lib.hid L4.out.drew;have hl1:d'.l.length≤1:=by rw [← Hd'.out]; have:=Hok.out.two; have:=(List.getElem?_eq_some_iff.1 Hk.out).1; unfold Dv.drop; rw [List.length_eraseIdx]; split <;> omega
  obtain ⟨d2,hd2⟩:∃ x,(d'.start r3).1=x:=⟨_,rfl⟩
  have hst:d'.start r3=(d2,0):=by rw [← hd2]; unfold Dv.start; rw [if_neg (by omega)]
  have Hst:=Lib.hid hst;have hbvw:bv≠w.heap.size:=by omega
  obtain ⟨y0,y1,y2,y3,y4,y5,y6,y7⟩:=L4.out.c8 0 rfl;clear hst hd2
  go_region_law
   (first
    |(go_simp
      go_at_call 130;refine (devstart_any S2 F2 _ bd d' r3 _ Hd4.out Hrc4.out.req (fun q hq=>by have:=(HF2.out q hq).1; rcases this with h | h; have:=HF.out q h; have:=hs34; have:=hc3.out.size; show q<w4.heap.size; omega; show q<w4.heap.size; omega) HSF2.out (by omega)).mono ?_;rw [Hst.out];rintro e w5 ⟨rfl,hd5,hc5⟩;have L5:=Lib.hid (L4d.out.chg2 hc5 (fun q hq=>(HF2.out q hq).1.elim (fun h=>.inl (.inl h)) (fun h=>.inr h.1)) (fun x hx hf=>by simp at hx; subst hx; exact (HF2.out _ hf).2.2.2 rfl));have Hd5:=Lib.hid hd5;have Hc5:=Lib.hid hc5;have Hrow5:=Lib.hid ((hc5.block bv (by show bv<w4.heap.size; omega) (fun hf=>(HF2.out _ hf).2.1 rfl)).trans hrow4);obtain ⟨z0,z1,z2,z3,z4,z5,z6,z7⟩:=L5.out.c8 0 rfl;have f0:=L5.out.frozen 0 rfl 0;have f1:=L5.out.frozen 0 rfl 1;have f2:=L5.out.frozen 0 rfl 2;have f3:=L5.out.frozen 0 rfl 3;have f4:=L5.out.frozen 0 rfl 4;have f5:=L5.out.frozen 0 rfl 5;have f6:=L5.out.frozen 0 rfl 6;have f7:=L5.out.frozen 0 rfl 7
      clear hd5 hc5))
  all_goals
   have L6:=Lib.hid (L5.out.put 0 rfl zeroRsV rfl);have hc6:Hid (Chg (fun q=>q=w.heap.size) w5 (w5.setCells w.heap.size 0 zeroRsV.toList)):=Chg.setCells (F:=fun q=>q=w.heap.size) (w:=w5) Chg.refl (.inl rfl) 0 zeroRsV.toList;refine (fun X=>?_:∀ x,x=w5.setCells w.heap.size 0 zeroRsV.toList→Exit.then _ _ _ _ x) _ rfl;intro hX;rw [← hX] at L6 hc6;clear hX z0 z1 z2 z3 z4 z5 z6 z7 f0 f1 f2 f3 f4 f5 f6 f7 y0 y1 y2 y3 y4 y5 y6 y7;obtain ⟨z0,z1,z2,z3,z4,z5,z6,z7⟩:=L6.out.c8 0 rfl;go_wp2_with fail;refine bodyPost_ret (v:=.tuple #[.agg zeroRsV,.bool false,.nilIface]) (by simp [results,Tryz.results89,go_sem,errV,z0,z1,z2,z3,z4,z5,z6,z7]) rfl ?_;refine ⟨?_,fun h=>absurd h3 (by omega)⟩;rw [congrArg Prod.fst Hst.out];have hc34:=Hc5.out.size;have hsz45:w4.heap.size≤w5.heap.size:=Hc5.out.size;have hsz56:w5.heap.size≤X.heap.size:=hc6.out.size;have hg5:∀ q,q<w4.heap.size→¬ F2 q→q≠w.heap.size→X.heap[q]?=w4.heap[q]?:=fun q hq h1 h2=>(hc6.out.block q (by omega) h2).trans (Hc5.out.block q hq h1)
   have hF5:∀ q,Grow F2 w4.drew w5 q→Grow F w X q∧q≠bv∧q≠bt∧q≠w.heap.size:=fun q hq=>by
    have h2:=hz12;rcases hq with hq | hq
    ·have:=HF2.out q hq
     exact ⟨this.1.elim .inl (fun h=>.inr ⟨h.1,by omega⟩),this.2⟩
    ·have h3:w4.heap.size≤q:=hq.1
     exact ⟨.inr ⟨by omega,by omega⟩,by omega,by omega,by omega⟩
   have hS5:∀ q,S2 q→q<w5.heap.size→X.heap[q]?=w5.heap[q]?:=fun q hq hlt=>hc6.out.block q hlt (HS2.out q hq).2.2.2.1
   refine ⟨_,Grow F2 w4.drew w5,S2,rfl,⟨zeroRc,_,rfl,rfl,zeroRc_ok _ _,strs_nil _ _⟩,⟨?_,?_,(Hd5.out).keep (fun q hq hlt=>hc6.out.block q hlt (hF5 q hq).2.2.2) hS5,fun hf=>(hF5 _ hf).2.1 rfl,fun hf=>(hF5 _ hf).2.2.1 rfl,fun q hq=>⟨(HS2.out q hq).2.1,(HS2.out q hq).2.2.1⟩⟩,L6.out.chg,fun q hq=>(hF5 q hq).1,HSS2.out,fun q hq=>(HS2.out q hq).1.elim .inl (fun h=>.inr ⟨h.1,by omega⟩),fun q hq hf=>hf.elim (HSF2.out q hq) (fun h=>by have:=(HS2.out q hq).2.2.2.2; have h3:w4.heap.size≤q:=h.1; omega)⟩
   ·exact (hc6.out.block bv (by omega) (by omega)).trans Hrow5.out
   ·refine ⟨_,Hm4.out.keep (hg5 bt (by omega) (fun hf=>(HF2.out _ hf).2.2.1 rfl) (fun e=>hwt e.symm)),fun j hj=>?_⟩
    show upd f (tagOf r3) _ j=upd v.tries (tagOf r3) _ j;unfold upd
    split
    ·rfl
    ·exact Hfv.out j hj
 ·refine bodyPost_ret (v:=.tuple #[.agg #[Value.bool r3.write,.int .i64 r3.lo,.int .i64 r3.many,.slice Bd r3.data.length bd7,.slice (some ⟨tb,tof,none⟩) r3.tags.length bt7,.int .i64 r3.born,.slice Bo 0 bo7,.int .i64 8],.bool true,.nilIface]) (by simp [results,Tryz.results89,go_sem,z0,z1,z2,z3,z4,z5,z6,z7]) rfl ?_
  have hsz3:w2.heap.size≤W3.heap.size:=hc3.out.size;have hsz4:W3.heap.size≤w4.heap.size:=Hg4.out.size;have hsz5:w4.heap.size≤w5.heap.size:=Hg5.out.size;have hsz6:w5.heap.size≤W6.heap.size:=hc6.out.size
  have hkk:∀ q,q<w2.heap.size→q≠w.heap.size→q≠bt→W6.heap[q]?=w2.heap[q]?:=fun q hq h1 h2 =>
   (((hc6.out.block q (by omega) h1).trans (Hg5.out.block q (by omega) (fun e=>h2 (by injection e)))).trans (Hg4.out.block q (by omega) (fun e=>h2 (by injection e)))).trans (hc3.out.block q hq h1)
  have hkS:∀ q,S2 q→q<w2.heap.size→W6.heap[q]?=w2.heap[q]?:=fun q hq hlt=>hkk q hlt (HS2.out q hq).2.2.2.1 (HS2.out q hq).2.2.1
  have hkF:∀ q,F2 q→q<w2.heap.size→W6.heap[q]?=w2.heap[q]?:=fun q hq hlt=>hkk q hlt (HF2.out q hq).2.2.2 (HF2.out q hq).2.2.1
  refine ⟨fun h=>absurd h (by omega),?_⟩;refine ⟨_,F2,S2,rfl,⟨_,_,rfl,rfl,Hrc.out.keep hkS,Hov.out.keep hkS⟩,⟨?_,?_,(Hd2.out.more HSS2.out).keep hkF hkS,fun hf=>(HF2.out _ hf).2.1 rfl,fun hf=>(HF2.out _ hf).2.2.1 rfl,fun q hq=>⟨(HS2.out q hq).2.1,(HS2.out q hq).2.2.1⟩⟩,L6.out.chg,fun q hq=>(HF2.out q hq).1.elim .inl (fun h=>.inr ⟨h.1,by omega⟩),HSS2.out,fun q hq=>(HS2.out q hq).1.elim .inl (fun h=>.inr ⟨h.1,by omega⟩),HSF2.out⟩
  ·exact (hkk bv (by omega) (by omega) H.out.ne).trans Hrow2.out
  ·refine ⟨_,Hm5.out.keep (hc6.out.block bt (by omega) (fun e=>hwt e.symm)),fun j hj=>?_⟩
   show upd (upd f (tagOf r3) _) (tagOf r3) 0 j=upd v.tries (tagOf r3) 0 j;unfold upd
   split
   ·rfl
   ·exact Hfv.out j hj
theorem drvend_gone (S F:Nat→Prop) (w:World) (bv bd bt n k:Nat) (v:Drv) (r:Rq) (h:DrvAt TDp TPp TVp S F w bv bd bt n v) (hk:v.d.l[k]?=some r) (hok:DvOk v.d) (hwl:v.d.waits.length≤900000000) (hn:n≤900000000) (htr:∀ j,i64 j→0≤v.tries j∧v.tries j≤2)
  (h3:¬ v.tries (tagOf r)+1<3)
  (hF:∀ k,F k→k<w.heap.size) (hSF:∀ k,S k→¬ F k) (hSlt:∀ k,S k→k<w.heap.size) :
  Calls Tryz.prog 89 #[.pointer (some ⟨bv,0,none⟩),.int .i64 (k:Int),.bool true] w (RetDrv TDp TPp TVp S F w bv bd bt n ⟨v.d.drop k,upd v.tries (tagOf r) 0⟩ ⟨r,[],8⟩ true .nilIface) :=
 (drvend_true S F w bv bd bt n k v r h hk hok hwl hn htr hF hSF hSlt).mono fun _ _ h=>h.2 h3
theorem drvend_again (S F:Nat→Prop) (w:World) (bv bd bt n k:Nat) (v:Drv) (r:Rq) (h:DrvAt TDp TPp TVp S F w bv bd bt n v) (hk:v.d.l[k]?=some r) (hok:DvOk v.d) (hwl:v.d.waits.length≤900000000) (hn:n≤900000000) (htr:∀ j,i64 j→0≤v.tries j∧v.tries j≤2)
  (h3:v.tries (tagOf r)+1<3)
  (hF:∀ k,F k→k<w.heap.size) (hSF:∀ k,S k→¬ F k) (hSlt:∀ k,S k→k<w.heap.size) :
  Calls Tryz.prog 89 #[.pointer (some ⟨bv,0,none⟩),.int .i64 (k:Int),.bool true] w (RetDrv TDp TPp TVp S F w bv bd bt n ⟨((v.d.drop k).start r).1,upd v.tries (tagOf r) (v.tries (tagOf r)+1)⟩ zeroRs false .nilIface) :=
 (drvend_true S F w bv bd bt n k v r h hk hok hwl hn htr hF hSF hSlt).mono fun _ _ h=>h.1 h3
end Go.Proofs.YtagndjihiklmiaaGreatDoor
