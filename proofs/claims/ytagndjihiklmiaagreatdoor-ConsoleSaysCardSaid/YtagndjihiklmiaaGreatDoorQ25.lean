/- End: a request that writes is done. -/
import Derived.Test.YtagndjihiklmiaaGreatDoorQ24
set_option linter.unusedSimpArgs false
set_option linter.unusedVariables false
set_option maxRecDepth 100000
set_option maxHeartbeats 8000000
namespace Go.Proofs.YtagndjihiklmiaaGreatDoor
open Go.RowKit Go.Sort
theorem strs_cell {S:Nat→Prop} {w:World} {A:Option Addr} {n cap k:Nat} {l:List ByteArray} (h:StrsAt S w (.slice A n cap) l) (hk:k<l.length):∃ g off,A=some ⟨g,off,none⟩∧S g∧g<w.heap.size∧w.cell? ⟨g,off+k,none⟩=some (.string (l.getD k noB)):=by
 obtain ⟨g,off,e,hS,hlt,hc⟩:=h.at_ (by omega);refine ⟨g,off,e,hS,hlt,?_⟩;have hx:l[k]?=some (l.getD k noB):=by rw [List.getD_eq_getElem?_getD,List.getElem?_eq_getElem hk]; rfl
 exact (hc k _ hx).1
theorem end_ok_w (col:Nat→Nat) (w:World) (b bd N:Nat) (x:Sv) (s:St) (k:Nat) (r:Rq) (K:Int) (h:StAt Ts col w b bd N x s) (hI:Inv s) (hB:Bd K s) (h0:0≤K) (hK:K≤700000000) (hN:N≤900000000) (hk:s.v.d.l[k]?=some r) (hwr:r.write=true) :
  Calls Tryz.prog 48 #[.pointer (some ⟨b,0,none⟩),.int .i64 (k:Int),.bool false] w (Ret5 Ts col w b bd (N+1) (s.end_ k false).1 (errV (s.end_ k false).2)):=by
 have hcall:=stend_any col w b bd N x s k false h hI (by have:=hB.waits; omega) hN;rw [drvEndAt_ok _ _ _ hk,St.ended_res] at hcall;have He:Hid (s.end_ k false=(((s.did k r).endedN r.write r.lo (s.outs r) r.many.toNat).serve,0)):=St.end_ok hk;have Hrok:Hid (ReqOk r):=reqF_zero (hI.dv.l r (List.mem_of_getElem? hk))
 have Hdb:Hid (Bd (K+4) (s.did k r)):=show Bd _ _ from by
  have h1:=(hI.dv.ended Hrok.out k false).2;exact ⟨by have:=hB.use; show s.use≤_; omega,by have:=hB.tag; show s.tag≤_; omega,by have:=hB.waits; show ((s.v.d.ended r k false).1.waits.length:Int)≤_; omega⟩
 have HIn:Hid (∀ n,n≤r.many.toNat→Inv ((s.did k r).endedN r.write r.lo (s.outs r) n)):=fun n hn=>hI.endedN hk n hn
 have Hout:Hid (s.outs r=r.data):=show _=_ by unfold St.outs; rw [if_pos hwr]
 have Hcall:=Lib.hid hcall;have H:=Lib.hid h;have c1:w.cell? ⟨b,1,none⟩=some (.pointer (some ⟨x.bv,0,none⟩)):=h.cell 1;clear h hI hB hN hk hcall;go_enter Tryz.func48,Tryz.ntmps48;go_wp2_with fail;refine Hcall.out.mono ?_;rintro e w1 ⟨col',c,ov,rfl,hc,hok,hov,hst,hch,hrec⟩;obtain ⟨Ad,cd,e1,_,_⟩:=hok.data.form;obtain ⟨At,ct,e2,_,_⟩:=hok.tags.form;obtain ⟨Ao,co,e3,_,_⟩:=hov.form;obtain ⟨rr,rdv,rtv⟩:=c;simp only at e1 e2 hc;subst e1 e2 e3;subst hc;have Hwr:=Lib.hid hwr;have Hst:=Lib.hid hst;have Hch:=Lib.hid hch;have Hrec:=Lib.hid hrec;have Hok:=Lib.hid hok;have hb1:=fun o=>(Below.refl w1.heap.size w1).alloc (Nat.le_refl _) o
 have HB1:=Lib.hid hb1;clear hok hov hst hch hrec c1 hb1 hwr;unfold rsCells;simp only [Hwr.out];go_wp2_with fail
 obtain ⟨B,hBz⟩:∃ B,w1.heap.size=B:=⟨_,rfl⟩
 have HB2:=Lib.hid (HB1.out (.cells #[.bool true,.int .i64 rr.lo,.int .i64 rr.many,.slice Ad rr.data.length cd,.slice At rr.tags.length ct,.int .i64 rr.born,.slice Ao (0:Nat) co,.int .i64 0] 123));have HX:Hid ((w1.alloc (.cells #[.bool true,.int .i64 rr.lo,.int .i64 rr.many,.slice Ad rr.data.length cd,.slice At rr.tags.length ct,.int .i64 rr.born,.slice Ao (0:Nat) co,.int .i64 0] 123)).heap[B]?=some (.cells #[.bool true,.int .i64 rr.lo,.int .i64 rr.many,.slice Ad rr.data.length cd,.slice At rr.tags.length ct,.int .i64 rr.born,.slice Ao (0:Nat) co,.int .i64 0] 123 (0,0))):=show _=_ from hBz▸heap_alloc_new w1 _
 have HcB:Hid (col' B=0):=show _=_ by
  rcases Nat.eq_zero_or_pos (col' B) with h1 | h1
  ·exact h1
  ·have:=Hst.out.lt B (by omega); omega
 rw [hBz];have Hst2:=Lib.hid (Hst.out.below HB2.out);have Hch2:=Lib.hid (Hch.out.two (Chg.of_below HB2.out));have Hok2:=Lib.hid ((Hok.out.below HB2.out).data);clear HB1 HB2 hBz;generalize World.alloc _ _=w2 at HX Hst2 Hch2 Hok2 ⊢
 obtain ⟨n,hn⟩:∃ n:Nat,rr.many.toNat=n:=⟨_,rfl⟩
 obtain ⟨a1,a2,a3,a4,a5⟩:=Hrok.out.span;have hmn:rr.many=(n:Int):=by omega
 have Hmn:=Lib.hid hmn;have Hn:=Lib.hid hn;have Hlen:Hid (rr.data.length=n):=show _=_ by have:=Hrok.out.len Hwr.out; omega
 have hn4:n≤4:=by omega
 clear hmn hn;go_loopw [47] (fun i wr=>∃ (m:Nat) (y:Sv),m≤n∧i=.int .i64 m∧Hid (StAt Ts col' wr b bd (N+1) y ((s.did k rr).endedN rr.write rr.lo (s.outs rr) m))∧Hid (Chg (Fl col') w2 wr)) (fun i _=>n - (intOf i).toNat)
 case atStart=>exact ⟨0,_,by omega,rfl,Hst2.out,Chg.refl⟩
 case round =>
  obtain ⟨m,y,hm,rfl,HS,HC⟩:=hrel;have HXr:Hid (wr.heap[B]?=_):=show _=_ from (HC.out.block B (Array.getElem?_eq_some_iff.1 HX.out).1 (fun hf=>hf.1 HcB.out)).trans HX.out;have d0:wr.cell? ⟨B,0,none⟩=some (.bool true):=cell_of_row _ _ 0 _ _ _ HXr.out;have d1:wr.cell? ⟨B,1,none⟩=some (.int .i64 rr.lo):=cell_of_row _ _ 1 _ _ _ HXr.out;have d3:wr.cell? ⟨B,3,none⟩=some (.slice Ad rr.data.length cd):=cell_of_row _ _ 3 _ _ _ HXr.out;by_cases hlt:m<n
  ·have hlt2:(m:Int)<rr.many:=by rw [Hmn.out]; omega
   obtain ⟨g,off,eA,hSg,hgl,hgc⟩:=strs_cell (k:=m) Hok2.out (by rw [Hlen.out]; exact hlt);subst eA;have hmd:m<rr.data.length:=by rw [Hlen.out]; exact hlt
   have dg:wr.cell? ⟨g,off+m,none⟩=some (.string (rr.data.getD m noB)):=by
    rw [← hgc];exact World.cell?_of_block (HC.out.block g hgl (fun hf=>by have h1:=hSg.2; exact hf.1 h1))
   obtain ⟨sd,hsd⟩:∃ z,rr.data.getD m noB=z:=⟨_,rfl⟩
   rw [hsd] at dg;have Hsd:=Lib.hid hsd;clear hsd
   have HE:Hid ((s.did k rr).endedN rr.write rr.lo (s.outs rr) (m+1)={ (s.did k rr).endedN rr.write rr.lo (s.outs rr) m with bufs:=cleanB ((s.did k rr).endedN rr.write rr.lo (s.outs rr) m).bufs (rr.lo+(m:Int)) sd }):=show _=_ by
    rw [St.endedN,Hout.out,Hsd.out];unfold St.ended1;rw [if_pos Hwr.out]
   have hwrap:IntKind.i64.wrap (rr.lo+(m:Int))=rr.lo+(m:Int):=IntWalk.i64_in _ (by omega);have c2:wr.cell? ⟨b,2,none⟩=some y.bufs:=HS.out.cell 2;have f2:=HS.out.frozen 2;have HIm:=Lib.hid (HIn.out m (by rw [Hn.out]; omega));have HIm1:=Lib.hid (HIn.out (m+1) (by rw [Hn.out]; omega));have HSd:=Lib.hid (HS.out.below (Below.refl _ _).drew);have Hln:Hid (((s.did k rr).endedN rr.write rr.lo (s.outs rr) m).bufs.length≤65536):=show _≤_ by have:=HIm.out.len8; omega
   clear hgc hgl hSg;go_wp2_with fail
   go_region_law
    (first
     |(go_simp
       go_at_call 91
       (with_reducible refine (clean_any (Im wr.drew col') _ y.bufs (rr.lo+(m:Int)) sd wr.drew HSd.out.bufs HIm.out.rises Hln.out).mono ?_)
       rintro e u2 ⟨v2,rfl,ho2,hb2⟩;obtain ⟨A2,n2,m2,e2,en⟩:=own_slice' ho2;subst e2;subst en;have Ho2:=Lib.hid ho2;have HB2:=Lib.hid hb2;have Hst3:=Lib.hid (HSd.out.below hb2);have f3:=Hst3.out.frozen 2;have q3:u2.cell? ⟨b,2,none⟩=some y.bufs:=cell_b hb2 c2
       clear ho2 hb2)
     |fail)
   all_goals
    have hS3:=(Same1.refl (b:=b) (w:=u2)).setCell 2 (.slice A2 (cleanB ((s.did k rr).endedN rr.write rr.lo (s.outs rr) m).bufs (rr.lo+(m:Int)) sd).length m2);have hI3:=HIm1.out;rw [HE.out] at hI3;have hv3:BufsAt (S0 col') u2 (.slice A2 (cleanB ((s.did k rr).endedN rr.write rr.lo (s.outs rr) m).bufs (rr.lo+(m:Int)) sd).length m2) (cleanB ((s.did k rr).endedN rr.write rr.lo (s.outs rr) m).bufs (rr.lo+(m:Int)) sd):=bufs_of_own (fun k hk=>HSd.out.s0 k hk) Ho2.out (hI3.bok (by have:=(Hdb.out.endedN rr.write rr.lo (s.outs rr) m).use; show ((s.did k rr).endedN rr.write rr.lo (s.outs rr) m).use≤_; omega));have Hst4:=Lib.hid (Hst3.out.bufd hS3 hv3 (heap_setCell_same _ _ 2 _ _ _ Hst3.out.row));have HC4:Hid (Chg (Fl col') w2 (u2.setCell ⟨b,2,none⟩ (.slice A2 (cleanB ((s.did k rr).endedN rr.write rr.lo (s.outs rr) m).bufs (rr.lo+(m:Int)) sd).length m2))):=show Chg _ _ _ from (HC.out.drew.two (Chg.of_below HB2.out)).two (HSd.out.chg1 (hS3.chg (F:=fun k=>k=b) rfl));clear hS3 hI3 hv3 f3 q3 c2 f2 dg d0 d1 d3 hwrap;generalize World.setCell _ _ _=u3 at Hst4 HC4 ⊢;go_wp2_with fail;go_roundw
    case rel=>exact ⟨m+1,_,by omega,by go_num,HE.out▸Hst4.out,HC4.out⟩
    case measure=>simp [intOf]; omega
  ·obtain rfl:m=n:=by omega
   have hlt2:¬ (m:Int)<rr.many:=by rw [Hmn.out]; omega
   have HIm:=Lib.hid (HIn.out m (by rw [Hn.out]; omega));have HBm:Hid (Bd (K+10) ((s.did k rr).endedN rr.write rr.lo (s.outs rr) m)):=show Bd _ _ from (Hdb.out.endedN rr.write rr.lo (s.outs rr) m).mono (by omega);clear d0 d1 d3;go_wp2_with fail;refine (serve_any col' wr b bd (N+1) y _ (K+10) HS.out HIm.out HBm.out (by omega) (by omega)).mono ?_;rintro e w4 ⟨y4,rfl,hst4,hc4,_⟩;have Hst4:=Lib.hid hst4;have HC4:=Lib.hid ((Hch2.out.recol HC.out Hrec.out.grow).recol hc4 Hrec.out.grow);clear hst4 hc4;go_wp2_with fail;go_ret;rw [He.out,Hn.out];exact ⟨col',_,rfl,Hst4.out,HC4.out,Hrec.out.old,Hrec.out.grow⟩
end Go.Proofs.YtagndjihiklmiaaGreatDoor
namespace Go.Proofs.YtagndjihiklmiaaGreatDoor
open Go.RowKit Go.Sort
theorem end_ok_r (col:Nat→Nat) (w:World) (b bd N:Nat) (x:Sv) (s:St) (k:Nat) (r:Rq) (K:Int) (h:StAt Ts col w b bd N x s) (hI:Inv s) (hB:Bd K s) (h0:0≤K) (hK:K≤700000000) (hN:N≤900000000) (hk:s.v.d.l[k]?=some r) (hwr:r.write=false) :
  Calls Tryz.prog 48 #[.pointer (some ⟨b,0,none⟩),.int .i64 (k:Int),.bool false] w (Ret5 Ts col w b bd (N+1) (s.end_ k false).1 (errV (s.end_ k false).2)):=by
 have hcall:=stend_any col w b bd N x s k false h hI (by have:=hB.waits; omega) hN;rw [drvEndAt_ok _ _ _ hk,St.ended_res] at hcall;have He:Hid (s.end_ k false=(((s.did k r).endedN r.write r.lo (s.outs r) r.many.toNat).serve,0)):=St.end_ok hk;have Hrok:Hid (ReqOk r):=reqF_zero (hI.dv.l r (List.mem_of_getElem? hk))
 have Hdb:Hid (Bd (K+4) (s.did k r)):=show Bd _ _ from by
  have h1:=(hI.dv.ended Hrok.out k false).2;exact ⟨by have:=hB.use; show s.use≤_; omega,by have:=hB.tag; show s.tag≤_; omega,by have:=hB.waits; show ((s.v.d.ended r k false).1.waits.length:Int)≤_; omega⟩
 have HIn:Hid (∀ n,n≤r.many.toNat→Inv ((s.did k r).endedN r.write r.lo (s.outs r) n)):=fun n hn=>hI.endedN hk n hn
 have Hrd:Hid ((if r.write then [] else s.v.d.reads r.lo.toNat r.many.toNat)=s.outs r):=show _=_ by unfold St.outs; rw [hwr]; rfl
 have Hos:Hid (∀ d ∈ s.outs r,d.size≤16):=hI.outs_size hk;have Hfree:Hid (∀ q,hasB r.lo r.many q=true→(s.did k r).heldP q=false):=fun q hq=>hI.did_free hk hq
 rw [Hrd.out] at hcall;have Hcall:=Lib.hid hcall;have Hnow:Hid (s.v.d.now.length=32):=hI.dv.now;have H:=Lib.hid h;have c1:w.cell? ⟨b,1,none⟩=some (.pointer (some ⟨x.bv,0,none⟩)):=h.cell 1;clear h hI hB hN hk hcall;go_enter Tryz.func48,Tryz.ntmps48;go_wp2_with fail;refine Hcall.out.mono ?_;rintro e w1 ⟨col',c,ov,rfl,hc,hok,hov,hst,hch,hrec⟩;obtain ⟨Ad,cd,e1,_,_⟩:=hok.data.form;obtain ⟨At,ct,e2,_,_⟩:=hok.tags.form;obtain ⟨Ao,co,e3,_,_⟩:=hov.form;obtain ⟨rr,rdv,rtv⟩:=c;simp only at e1 e2 hc;subst e1 e2 e3;subst hc;have Hwr:=Lib.hid hwr;have Hst:=Lib.hid hst;have Hch:=Lib.hid hch;have Hrec:=Lib.hid hrec;have Hov:=Lib.hid hov;have hb1:=fun o=>(Below.refl w1.heap.size w1).alloc (Nat.le_refl _) o
 have HB1:=Lib.hid hb1;clear hok hov hst hch hrec c1 hb1 hwr;unfold rsCells;simp only [Hwr.out];go_wp2_with fail
 obtain ⟨B,hBz⟩:∃ B,w1.heap.size=B:=⟨_,rfl⟩
 have HB2:=Lib.hid (HB1.out (.cells #[.bool false,.int .i64 rr.lo,.int .i64 rr.many,.slice Ad rr.data.length cd,.slice At rr.tags.length ct,.int .i64 rr.born,.slice Ao (s.outs rr).length co,.int .i64 0] 123));have HX:Hid ((w1.alloc (.cells #[.bool false,.int .i64 rr.lo,.int .i64 rr.many,.slice Ad rr.data.length cd,.slice At rr.tags.length ct,.int .i64 rr.born,.slice Ao (s.outs rr).length co,.int .i64 0] 123)).heap[B]?=some (.cells #[.bool false,.int .i64 rr.lo,.int .i64 rr.many,.slice Ad rr.data.length cd,.slice At rr.tags.length ct,.int .i64 rr.born,.slice Ao (s.outs rr).length co,.int .i64 0] 123 (0,0))):=show _=_ from hBz▸heap_alloc_new w1 _
 have HcB:Hid (col' B=0):=show _=_ by
  rcases Nat.eq_zero_or_pos (col' B) with h1 | h1
  ·exact h1
  ·have:=Hst.out.lt B (by omega); omega
 rw [hBz];have Hst2:=Lib.hid (Hst.out.below HB2.out);have Hch2:=Lib.hid (Hch.out.two (Chg.of_below HB2.out));have Hok2:=Lib.hid (Hov.out.below HB2.out);clear HB1 HB2 hBz;generalize World.alloc _ _=w2 at HX Hst2 Hch2 Hok2 ⊢
 obtain ⟨n,hn⟩:∃ n:Nat,rr.many.toNat=n:=⟨_,rfl⟩
 obtain ⟨a1,a2,a3,a4,a5⟩:=Hrok.out.span;have hmn:rr.many=(n:Int):=by omega
 have Hmn:=Lib.hid hmn;have Hn:=Lib.hid hn
 have Hlen:Hid ((s.outs rr).length=n):=show _=_ by
  have h1:=H.out;rw [← Hrd.out,Hwr.out,if_neg (by decide)];unfold Dv.reads;rw [List.length_take,List.length_drop,Hnow.out,Hn.out];omega
 have hn4:n≤4:=by omega
 clear hmn hn;go_loopw [47] (fun i wr=>∃ (m:Nat) (y:Sv),m≤n∧i=.int .i64 m∧Hid (StAt Ts col' wr b bd (N+1) y ((s.did k rr).endedN rr.write rr.lo (s.outs rr) m))∧Hid (Chg (Fl col') w2 wr)) (fun i _=>n - (intOf i).toNat)
 case atStart=>exact ⟨0,_,by omega,rfl,Hst2.out,Chg.refl⟩
 case round =>
  obtain ⟨m,y,hm,rfl,HS,HC⟩:=hrel;have HXr:Hid (wr.heap[B]?=_):=show _=_ from (HC.out.block B (Array.getElem?_eq_some_iff.1 HX.out).1 (fun hf=>hf.1 HcB.out)).trans HX.out;have d0:wr.cell? ⟨B,0,none⟩=some (.bool false):=cell_of_row _ _ 0 _ _ _ HXr.out;have d1:wr.cell? ⟨B,1,none⟩=some (.int .i64 rr.lo):=cell_of_row _ _ 1 _ _ _ HXr.out;have d6:wr.cell? ⟨B,6,none⟩=some (.slice Ao (s.outs rr).length co):=cell_of_row _ _ 6 _ _ _ HXr.out;by_cases hlt:m<n
  ·have hlt2:(m:Int)<rr.many:=by rw [Hmn.out]; omega
   obtain ⟨g,off,eA,hSg,hgl,hgc⟩:=strs_cell (k:=m) Hok2.out (by rw [Hlen.out]; exact hlt);subst eA;have hmd:m<(s.outs rr).length:=by rw [Hlen.out]; exact hlt
   obtain ⟨sd,hsd⟩:∃ z,(s.outs rr).getD m noB=z:=⟨_,rfl⟩
   have dg:wr.cell? ⟨g,off+m,none⟩=some (.string sd):=by
    rw [← hsd,← hgc];exact World.cell?_of_block (HC.out.block g hgl (fun hf=>by have h1:=hSg.2; exact hf.1 h1))
   have Hg0:Hid (col' g=0):=hSg.2;have hgl2:g<wr.heap.size:=Nat.lt_of_lt_of_le hgl HC.out.size;have hgb:g≠b:=by rintro rfl; have h1:=Hg0.out; rw [Hst2.out.cb] at h1; cases h1
   have hBb:B≠b:=by rintro rfl; have h1:=HcB.out; rw [Hst2.out.cb] at h1; cases h1
   have Hsz:Hid (sd.size≤16):=show _≤_ from hsd▸getD_size Hos.out m;have Hsd:=Lib.hid hsd;clear hsd;have HIm:=Lib.hid (HIn.out m (by rw [Hn.out]; omega));have HBm:=Lib.hid (Hdb.out.endedN rr.write rr.lo (s.outs rr) m);have HE0:Hid ((s.did k rr).endedN rr.write rr.lo (s.outs rr) (m+1)=((s.did k rr).endedN rr.write rr.lo (s.outs rr) m).ended1 false (rr.lo+(m:Int)) sd):=show _=_ by rw [St.endedN,Hsd.out]; rw [Hwr.out]
   have Hfr:Hid (((s.did k rr).endedN rr.write rr.lo (s.outs rr) m).heldP (rr.lo+(m:Int))=false):=show _=_ by rw [(Keeps.endedN _ _ _ _ m).held]; exact Hfree.out _ (by rw [hasB_iff]; omega)
   obtain ⟨t,ht⟩:∃ t,((s.did k rr).endedN rr.write rr.lo (s.outs rr) m)=t:=⟨_,rfl⟩
   rw [ht] at HS HIm HBm HE0 Hfr;clear ht;have hwrap:IntKind.i64.wrap (rr.lo+(m:Int))=rr.lo+(m:Int):=IntWalk.i64_in _ (by omega);have Hp:Hid (0≤rr.lo+(m:Int)∧rr.lo+(m:Int)≤31):=show _∧_ by omega
   have c2:wr.cell? ⟨b,2,none⟩=some y.bufs:=HS.out.cell 2;clear hgc hgl hSg;go_wp2_with fail;refine (get_st HS.out HIm.out (rr.lo+(m:Int)) wr (Below.refl _ _)).mono ?_;rintro e w3 ⟨rfl,hb3⟩;have HB3:=Lib.hid hb3;have HXs:Hid (w3.heap[B]?=_):=show _=_ from (hb3.block _ (Array.getElem?_eq_some_iff.1 HXr.out).1).trans HXr.out;have c2:=cell_b hb3 c2;have dg:=cell_b hb3 dg;have d6:=cell_b hb3 d6;clear d0 d1 hb3;unfold bfV
   cases hg:(getB t.bufs (rr.lo+(m:Int))).2 with
   |true =>
    have HE:Hid ((s.did k rr).endedN rr.write rr.lo (s.outs rr) (m+1)=t):=show _=_ by rw [HE0.out]; unfold St.ended1; rw [if_neg (by decide),if_pos hg]
    clear hg c2 dg d6;go_wp2_with fail;go_roundw
    case rel=>exact ⟨m+1,y,by omega,by go_num,HE.out▸(HS.out.below HB3.out).below ((Below.refl _ _).alloc (Nat.le_refl _) _),(HC.out.two (Chg.of_below HB3.out)).two (Chg.of_below ((Below.refl _ _).alloc (Nat.le_refl _) _))⟩
    case measure=>simp [intOf]; omega
   |false =>
    have Hgn:=Lib.hid hg;clear hg;go_wp2_with fail;have hbA:=(Below.refl w3.heap.size w3).alloc (Nat.le_refl _) (.cells #[.int .i64 (getB t.bufs (rr.lo+(m:Int))).1.pos,.string (getB t.bufs (rr.lo+(m:Int))).1.data,.bool (getB t.bufs (rr.lo+(m:Int))).1.dirty,.int .i64 (getB t.bufs (rr.lo+(m:Int))).1.used] 107);have HBA:=Lib.hid hbA;have H5:=Lib.hid ((HS.out.below HB3.out).below hbA);have k2:=cell_b hbA c2;have kg:=cell_b hbA dg;have k6:=cell_b hbA d6;have HX5:=Lib.hid ((hbA.block _ (Array.getElem?_eq_some_iff.1 HXs.out).1).trans HXs.out);have HC5:=Lib.hid ((HC.out.two (Chg.of_below HB3.out)).two (Chg.of_below hbA));have hgl5:=Nat.lt_of_lt_of_le hgl2 (Nat.le_trans HB3.out.size hbA.size);clear hbA c2 dg d6;generalize World.alloc _ _=w5 at HBA H5 k2 kg k6 HX5 HC5 hgl5 ⊢;have H5d:=Lib.hid (H5.out.below (Below.refl _ _).drew);have Hus:Hid (0≤t.use∧t.use≤1000000000):=show _∧_ from ⟨HIm.out.use0,by have:=HBm.out.use; omega⟩;have Hin:Hid (InB t.bufs):=HIm.out.inb;have Hln:Hid (t.bufs.length≤65536):=show _≤_ by have:=HIm.out.len8; omega
    have HXd:Hid (w5.drew.heap[B]?=_):=HX5
    have K0:w5.drew.cell? ⟨b,2,none⟩=some y.bufs∧w5.drew.cell? ⟨B,6,none⟩=some (.slice (some ⟨g,off,none⟩) (s.outs rr).length co)∧w5.drew.cell? ⟨g,off+m,none⟩=some (.string sd):=⟨k2,k6,kg⟩
    have hat:atB t.bufs (rr.lo+(m:Int))=none:=by unfold atB; rw [Hgn.out]; rfl
    have Hat:=Lib.hid hat;clear k2 k6 kg hat
    cases hp:putB t.bufs ⟨rr.lo+(m:Int),sd,false,t.use+1⟩ t.heldP with
    |some l =>
     have HE:Hid ((s.did k rr).endedN rr.write rr.lo (s.outs rr) (m+1)=({ t with use:=t.use+1,bufs:=l }:St).tell (rr.lo+(m:Int)) sd):=show _=_ by rw [HE0.out]; unfold St.ended1; rw [if_neg (by decide),if_neg (by rw [Hgn.out]; decide),hp]; rfl
     have Hpp:=Lib.hid hp;clear hp
     go_region_held3 (fun q=>q.cell? ⟨b,2,none⟩=some y.bufs∧q.cell? ⟨B,6,none⟩=some (.slice (some ⟨g,off,none⟩) (s.outs rr).length co)∧q.cell? ⟨g,off+m,none⟩=some (.string sd))
      (first | exact K2 | exact K1 | exact K0)
      (first
       |((with_reducible refine (used_any col' w5.drew b bd (N+1) y t H5d.out Hus.out).mono ?_); rintro e u1 ⟨rfl,hS1,hst1⟩; have K1:u1.cell? ⟨b,2,none⟩=some y.bufs∧u1.cell? ⟨B,6,none⟩=some (.slice (some ⟨g,off,none⟩) (s.outs rr).length co)∧u1.cell? ⟨g,off+m,none⟩=some (.string sd):=⟨hst1.cell 2,cell_of_row _ _ 6 _ _ _ ((hS1.block B hBb).trans HXd.out),(World.cell?_of_block (hS1.block g hgb)).trans K0.2.2⟩; have HS1:=Lib.hid hS1; have Hst1:=Lib.hid hst1; have Hbu:Hid (BufsAt (Im u1 col') u1 y.bufs t.bufs):=hst1.bufs; have Hby:Hid (HeldBy u1 82 #[.pointer (some ⟨b,0,none⟩)] #[] t.heldP):=(held_by col' u1 b bd (N+1) y { t with use:=t.use+1 } hst1 (good_oks HIm.out.good) HIm.out.dv.two); clear hS1 hst1)
       |((with_reducible refine (put_some (Im u1 col') t.bufs l y.bufs ⟨rr.lo+(m:Int),sd,false,t.use+1⟩ 82 #[.pointer (some ⟨b,0,none⟩)] #[] t.heldP u1 Hbu.out HIm.out.rises Hin.out Hby.out Hln.out Hpp.out).mono ?_); rintro e u2 ⟨v2,rfl,ho2,hb2⟩; have K2:u2.cell? ⟨b,2,none⟩=some y.bufs∧u2.cell? ⟨B,6,none⟩=some (.slice (some ⟨g,off,none⟩) (s.outs rr).length co)∧u2.cell? ⟨g,off+m,none⟩=some (.string sd):=⟨cell_b hb2 K1.1,cell_b hb2 K1.2.1,cell_b hb2 K1.2.2⟩; obtain ⟨A2,n2,m2,e2,en⟩:=own_slice' ho2; subst e2; subst en; have Ho2:=Lib.hid ho2; have HB2:=Lib.hid hb2; have Hst2':=Lib.hid (Hst1.out.below hb2); have q2:=K2.1; have q6:=K2.2.1; have qg:=K2.2.2; have f2:=Hst2'.out.frozen 2; clear ho2 hb2)
       |fail)
     all_goals
      clear K0 K1 K2;have hS3:=(Same1.refl (b:=b) (w:=u2)).setCell 2 (.slice A2 l.length m2);have hI3:Inv { t with use:=t.use+1,bufs:=l }:=HIm.out.putB Hpp.out Hp.out Hsz.out (show t.use≤t.use+1 by omega) (by have:=HIm.out.use0; simp only; omega) (fun h=>by cases h) (.inr Hat.out);have hv3:BufsAt (S0 col') u2 (.slice A2 l.length m2) l:=bufs_of_own (fun k hk=>Hst1.out.s0 k hk) Ho2.out (hI3.bok (by have:=HBm.out.use; show t.use+1≤_; omega));have Hst3:=Lib.hid (Hst2'.out.bufd hS3 hv3 (heap_setCell_same _ _ 2 _ _ _ Hst2'.out.row));have HI3:=Lib.hid hI3
      have HC3:Hid (Chg (Fl col') w2 (u2.setCell ⟨b,2,none⟩ (.slice A2 l.length m2))):=show Chg _ _ _ from
       ((HC5.out.drew.two (H5.out.chg1 (HS1.out.chg (F:=fun k=>k=b) rfl))).two (Chg.of_below HB2.out)).two (H5.out.chg1 (hS3.chg (F:=fun k=>k=b) rfl))
      clear hS3 hI3 hv3;try go_wp2_with fail
      clear q2 q6 qg f2;generalize World.setCell _ _ _=u3 at Hst3 HC3 ⊢;refine (tell_any col' u3 b bd (N+1) _ _ (rr.lo+(m:Int)) sd Hst3.out HI3.out).mono ?_;rintro e w6 ⟨y6,rfl,hst6,hc6,_⟩;have Hst6:=Lib.hid hst6;have HC6:=Lib.hid (HC3.out.two (H5.out.chg1 hc6));clear hst6 hc6;go_wp2_with fail;go_roundw
      case rel=>exact ⟨m+1,_,by omega,by go_num,HE.out▸Hst6.out,HC6.out⟩
      case measure=>simp [intOf]; omega
    |none =>
     have HE:Hid ((s.did k rr).endedN rr.write rr.lo (s.outs rr) (m+1)=({ t with use:=t.use+1 }:St).tell (rr.lo+(m:Int)) sd):=show _=_ by rw [HE0.out]; unfold St.ended1; rw [if_neg (by decide),if_neg (by rw [Hgn.out]; decide),hp]; rfl
     have Hpp:=Lib.hid hp;clear hp
     go_region_held3 (fun q=>q.cell? ⟨b,2,none⟩=some y.bufs∧q.cell? ⟨B,6,none⟩=some (.slice (some ⟨g,off,none⟩) (s.outs rr).length co)∧q.cell? ⟨g,off+m,none⟩=some (.string sd))
      (first | exact K2 | exact K1 | exact K0)
      (first
       |((with_reducible refine (used_any col' w5.drew b bd (N+1) y t H5d.out Hus.out).mono ?_); rintro e u1 ⟨rfl,hS1,hst1⟩; have K1:u1.cell? ⟨b,2,none⟩=some y.bufs∧u1.cell? ⟨B,6,none⟩=some (.slice (some ⟨g,off,none⟩) (s.outs rr).length co)∧u1.cell? ⟨g,off+m,none⟩=some (.string sd):=⟨hst1.cell 2,cell_of_row _ _ 6 _ _ _ ((hS1.block B hBb).trans HXd.out),(World.cell?_of_block (hS1.block g hgb)).trans K0.2.2⟩; have HS1:=Lib.hid hS1; have Hst1:=Lib.hid hst1; have Hbu:Hid (BufsAt (Im u1 col') u1 y.bufs t.bufs):=hst1.bufs; have Hby:Hid (HeldBy u1 82 #[.pointer (some ⟨b,0,none⟩)] #[] t.heldP):=(held_by col' u1 b bd (N+1) y { t with use:=t.use+1 } hst1 (good_oks HIm.out.good) HIm.out.dv.two); clear hS1 hst1)
       |((with_reducible refine (put_none (Im u1 col') t.bufs y.bufs ⟨rr.lo+(m:Int),sd,false,t.use+1⟩ 82 #[.pointer (some ⟨b,0,none⟩)] #[] t.heldP u1 Hbu.out HIm.out.rises Hin.out Hby.out Hln.out Hpp.out).mono ?_); rintro e u2 ⟨rfl,hb2⟩; have K2:u2.cell? ⟨b,2,none⟩=some y.bufs∧u2.cell? ⟨B,6,none⟩=some (.slice (some ⟨g,off,none⟩) (s.outs rr).length co)∧u2.cell? ⟨g,off+m,none⟩=some (.string sd):=⟨cell_b hb2 K1.1,cell_b hb2 K1.2.1,cell_b hb2 K1.2.2⟩; have HB2:=Lib.hid hb2; have Hst2':=Lib.hid (Hst1.out.below hb2); have q6:=K2.2.1; have qg:=K2.2.2; clear hb2)
       |fail)
     all_goals
      clear K0 K1 K2;have HI3:Hid (Inv { t with use:=t.use+1 }):=HIm.out.use1 (show t.use≤t.use+1 by omega);have HC3:Hid (Chg (Fl col') w2 u2):=show Chg _ _ _ from (HC5.out.drew.two (H5.out.chg1 (HS1.out.chg (F:=fun k=>k=b) rfl))).two (Chg.of_below HB2.out);try go_wp2_with fail
      clear q6 qg;refine (tell_any col' u2 b bd (N+1) _ _ (rr.lo+(m:Int)) sd Hst2'.out HI3.out).mono ?_;rintro e w6 ⟨y6,rfl,hst6,hc6,_⟩;have Hst6:=Lib.hid hst6;have HC6:=Lib.hid (HC3.out.two (H5.out.chg1 hc6));clear hst6 hc6;go_wp2_with fail;go_roundw
      case rel=>exact ⟨m+1,_,by omega,by go_num,HE.out▸Hst6.out,HC6.out⟩
      case measure=>simp [intOf]; omega
  ·obtain rfl:m=n:=by omega
   have hlt2:¬ (m:Int)<rr.many:=by rw [Hmn.out]; omega
   have HIm:=Lib.hid (HIn.out m (by rw [Hn.out]; omega));have HBm:Hid (Bd (K+10) ((s.did k rr).endedN rr.write rr.lo (s.outs rr) m)):=show Bd _ _ from (Hdb.out.endedN rr.write rr.lo (s.outs rr) m).mono (by omega);clear d0 d1 d6;go_wp2_with fail;refine (serve_any col' wr b bd (N+1) y _ (K+10) HS.out HIm.out HBm.out (by omega) (by omega)).mono ?_;rintro e w4 ⟨y4,rfl,hst4,hc4,_⟩;have Hst4:=Lib.hid hst4;have HC4:=Lib.hid ((Hch2.out.recol HC.out Hrec.out.grow).recol hc4 Hrec.out.grow);clear hst4 hc4;go_wp2_with fail;go_ret;rw [He.out,Hn.out];exact ⟨col',_,rfl,Hst4.out,HC4.out,Hrec.out.old,Hrec.out.grow⟩
theorem end_any (col:Nat→Nat) (w:World) (b bd N:Nat) (x:Sv) (s:St) (i:Int) (f:Bool) (K:Int) (h:StAt Ts col w b bd N x s) (hI:Inv s) (hB:Bd K s) (h0:0≤K) (hK:K≤700000000) (hN:N≤900000000) :
  Calls Tryz.prog 48 #[.pointer (some ⟨b,0,none⟩),.int .i64 i,.bool f] w (Ret5 Ts col w b bd (N+1) (s.end_ i f).1 (errV (s.end_ i f).2)):=by
 rcases endAt_split s.v.d i with hi | ⟨k,r,rfl,hk⟩
 ·exact end_none col w b bd N x s i f h hI (by have:=hB.waits; omega) hN hi
 ·cases f with
  |true =>
   by_cases h3:s.v.tries (tagOf r)+1<3
   ·exact end_again col w b bd N x s k r h hI (by have:=hB.waits; omega) hN hk h3
   ·exact end_gone col w b bd N x s k r K h hI hB h0 (by omega) hN hk h3
  |false =>
   rcases Bool.eq_false_or_eq_true r.write with hw | hw
   ·exact end_ok_w col w b bd N x s k r K h hI hB h0 hK hN hk hw
   ·exact end_ok_r col w b bd N x s k r K h hI hB h0 hK hN hk hw
end Go.Proofs.YtagndjihiklmiaaGreatDoor
