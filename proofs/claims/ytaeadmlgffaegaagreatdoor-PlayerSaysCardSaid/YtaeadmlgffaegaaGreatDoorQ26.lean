/- End: a request that reads is done; End, whatever comes of it. -/
import Derived.Test.YtaeadmlgffaegaaGreatDoorQ25
set_option linter.unusedSimpArgs false
set_option linter.unusedVariables false
set_option maxRecDepth 100000
set_option maxHeartbeats 8000000
namespace Go.Proofs.YtaeadmlgffaegaaGreatDoor
open Go.RowKit Go.Sort
theorem end_ok_r (col:Nat→Nat) (w:World) (b bd N:Nat) (x:Sv) (s:St) (k:Nat) (r:Rq) (K:Int) (h:StAt Ts col w b bd N x s) (hI:Inv s) (hB:Bd K s) (h0:0≤K) (hK:K≤700000000) (hN:N≤900000000) (hk:s.v.d.l[k]?=some r) (hwr:r.write=false) :
  Calls Tryz.prog 26 #[.pointer (some ⟨b,0,none⟩),.int .i64 (k:Int),.bool false] w (Ret5 Ts col w b bd (N+1) (s.end_ k false).1 (errV (s.end_ k false).2)):=by
 have hcall:=stend_any col w b bd N x s k false h hI (by have:=hB.waits; omega) hN
 rw [drvEndAt_ok _ _ _ hk,St.ended_res] at hcall
 have He:Hid (s.end_ k false=(((s.did k r).endedN r.write r.lo (s.outs r) r.many.toNat).serve,0)):=St.end_ok hk
 have Hrok:Hid (ReqOk r):=reqF_zero (hI.dv.l r (List.mem_of_getElem? hk))
 have Hdb:Hid (Bd (K+4) (s.did k r)):=show Bd _ _ from by
  have h1:=(hI.dv.ended Hrok.out k false).2
  exact ⟨by have:=hB.use; show s.use≤_; omega,by have:=hB.tag; show s.tag≤_; omega,by have:=hB.waits; show ((s.v.d.ended r k false).1.waits.length:Int)≤_; omega⟩
 have HIn:Hid (∀ n,n≤r.many.toNat→Inv ((s.did k r).endedN r.write r.lo (s.outs r) n)):=fun n hn=>hI.endedN hk n hn
 have Hrd:Hid ((if r.write then [] else s.v.d.reads r.lo.toNat r.many.toNat)=s.outs r):=show _=_ by unfold St.outs; rw [hwr]; rfl
 have Hos:Hid (∀ d ∈ s.outs r,d.size≤16):=hI.outs_size hk
 have Hfree:Hid (∀ q,hasB r.lo r.many q=true→(s.did k r).heldP q=false):=fun q hq=>hI.did_free hk hq
 rw [Hrd.out] at hcall
 have Hcall:=Lib.hid hcall
 have Hnow:Hid (s.v.d.now.length=32):=hI.dv.now
 have H:=Lib.hid h
 have c1:w.cell? ⟨b,1,none⟩=some (.pointer (some ⟨x.bv,0,none⟩)):=h.cell 1
 clear h hI hB hN hk hcall
 go_enter Tryz.func26,Tryz.ntmps26
 go_wp2_with fail
 refine Hcall.out.mono ?_
 rintro e w1 ⟨col',c,ov,rfl,hc,hok,hov,hst,hch,hrec⟩
 obtain ⟨Ad,cd,e1,_,_⟩:=hok.data.form
 obtain ⟨At,ct,e2,_,_⟩:=hok.tags.form
 obtain ⟨Ao,co,e3,_,_⟩:=hov.form
 obtain ⟨rr,rdv,rtv⟩:=c
 simp only at e1 e2 hc
 subst e1 e2 e3
 subst hc
 have Hwr:=Lib.hid hwr
 have Hst:=Lib.hid hst
 have Hch:=Lib.hid hch
 have Hrec:=Lib.hid hrec
 have Hov:=Lib.hid hov
 have hb1:=fun o=>(Below.refl w1.heap.size w1).alloc (Nat.le_refl _) o
 have HB1:=Lib.hid hb1
 clear hok hov hst hch hrec c1 hb1 hwr
 unfold rsCells
 simp only [Hwr.out]
 go_wp2_with fail
 obtain ⟨B,hBz⟩:∃ B,w1.heap.size=B:=⟨_,rfl⟩
 have HB2:=Lib.hid (HB1.out (.cells #[.bool false,.int .i64 rr.lo,.int .i64 rr.many,.slice Ad rr.data.length cd,.slice At rr.tags.length ct,.int .i64 rr.born,.slice Ao (s.outs rr).length co,.int .i64 0] 128))
 have HX:Hid ((w1.alloc (.cells #[.bool false,.int .i64 rr.lo,.int .i64 rr.many,.slice Ad rr.data.length cd,.slice At rr.tags.length ct,.int .i64 rr.born,.slice Ao (s.outs rr).length co,.int .i64 0] 128)).heap[B]?=some (.cells #[.bool false,.int .i64 rr.lo,.int .i64 rr.many,.slice Ad rr.data.length cd,.slice At rr.tags.length ct,.int .i64 rr.born,.slice Ao (s.outs rr).length co,.int .i64 0] 128 (0,0))):=show _=_ from hBz▸heap_alloc_new w1 _
 have HcB:Hid (col' B=0):=show _=_ by
  rcases Nat.eq_zero_or_pos (col' B) with h1 | h1
  ·exact h1
  ·have:=Hst.out.lt B (by omega); omega
 rw [hBz]
 have Hst2:=Lib.hid (Hst.out.below HB2.out)
 have Hch2:=Lib.hid (Hch.out.two (Chg.of_below HB2.out))
 have Hok2:=Lib.hid (Hov.out.below HB2.out)
 clear HB1 HB2 hBz
 generalize World.alloc _ _=w2 at HX Hst2 Hch2 Hok2 ⊢
 obtain ⟨n,hn⟩:∃ n:Nat,rr.many.toNat=n:=⟨_,rfl⟩
 obtain ⟨a1,a2,a3,a4,a5⟩:=Hrok.out.span
 have hmn:rr.many=(n:Int):=by omega
 have Hmn:=Lib.hid hmn
 have Hn:=Lib.hid hn
 have Hlen:Hid ((s.outs rr).length=n):=show _=_ by
  have h1:=H.out
  rw [← Hrd.out,Hwr.out,if_neg (by decide)]
  unfold Dv.reads
  rw [List.length_take,List.length_drop,Hnow.out,Hn.out]
  omega
 have hn4:n≤4:=by omega
 clear hmn hn
 go_loopw [47] (fun i wr=>∃ (m:Nat) (y:Sv),m≤n∧i=.int .i64 m∧Hid (StAt Ts col' wr b bd (N+1) y ((s.did k rr).endedN rr.write rr.lo (s.outs rr) m))∧Hid (Chg (Fl col') w2 wr)) (fun i _=>n - (intOf i).toNat)
 case atStart=>exact ⟨0,_,by omega,rfl,Hst2.out,Chg.refl⟩
 case round =>
  obtain ⟨m,y,hm,rfl,HS,HC⟩:=hrel
  have HXr:Hid (wr.heap[B]?=_):=show _=_ from (HC.out.block B (Array.getElem?_eq_some_iff.1 HX.out).1 (fun hf=>hf.1 HcB.out)).trans HX.out
  have d0:wr.cell? ⟨B,0,none⟩=some (.bool false):=cell_of_row _ _ 0 _ _ _ HXr.out
  have d1:wr.cell? ⟨B,1,none⟩=some (.int .i64 rr.lo):=cell_of_row _ _ 1 _ _ _ HXr.out
  have d6:wr.cell? ⟨B,6,none⟩=some (.slice Ao (s.outs rr).length co):=cell_of_row _ _ 6 _ _ _ HXr.out
  by_cases hlt:m<n
  ·have hlt2:(m:Int)<rr.many:=by rw [Hmn.out]; omega
   obtain ⟨g,off,eA,hSg,hgl,hgc⟩:=strs_cell (k:=m) Hok2.out (by rw [Hlen.out]; exact hlt)
   subst eA
   have hmd:m<(s.outs rr).length:=by rw [Hlen.out]; exact hlt
   obtain ⟨sd,hsd⟩:∃ z,(s.outs rr).getD m noB=z:=⟨_,rfl⟩
   have dg:wr.cell? ⟨g,off+m,none⟩=some (.string sd):=by
    rw [← hsd,← hgc]
    exact World.cell?_of_block (HC.out.block g hgl (fun hf=>by have h1:=hSg.2; exact hf.1 h1))
   have Hg0:Hid (col' g=0):=hSg.2
   have hgl2:g<wr.heap.size:=Nat.lt_of_lt_of_le hgl HC.out.size
   have hgb:g≠b:=by rintro rfl; have h1:=Hg0.out; rw [Hst2.out.cb] at h1; cases h1
   have hBb:B≠b:=by rintro rfl; have h1:=HcB.out; rw [Hst2.out.cb] at h1; cases h1
   have Hsz:Hid (sd.size≤16):=show _≤_ from hsd▸getD_size Hos.out m
   have Hsd:=Lib.hid hsd
   clear hsd
   have HIm:=Lib.hid (HIn.out m (by rw [Hn.out]; omega))
   have HBm:=Lib.hid (Hdb.out.endedN rr.write rr.lo (s.outs rr) m)
   have HE0:Hid ((s.did k rr).endedN rr.write rr.lo (s.outs rr) (m+1)=((s.did k rr).endedN rr.write rr.lo (s.outs rr) m).ended1 false (rr.lo+(m:Int)) sd):=show _=_ by rw [St.endedN,Hsd.out]; rw [Hwr.out]
   have Hfr:Hid (((s.did k rr).endedN rr.write rr.lo (s.outs rr) m).heldP (rr.lo+(m:Int))=false):=show _=_ by rw [(Keeps.endedN _ _ _ _ m).held]; exact Hfree.out _ (by rw [hasB_iff]; omega)
   obtain ⟨t,ht⟩:∃ t,((s.did k rr).endedN rr.write rr.lo (s.outs rr) m)=t:=⟨_,rfl⟩
   rw [ht] at HS HIm HBm HE0 Hfr
   clear ht
   have hwrap:IntKind.i64.wrap (rr.lo+(m:Int))=rr.lo+(m:Int):=IntWalk.i64_in _ (by omega)
   have Hp:Hid (0≤rr.lo+(m:Int)∧rr.lo+(m:Int)≤31):=show _∧_ by omega
   have c2:wr.cell? ⟨b,2,none⟩=some y.bufs:=HS.out.cell 2
   clear hgc hgl hSg
   go_wp2_with fail
   refine (get_st HS.out HIm.out (rr.lo+(m:Int)) wr (Below.refl _ _)).mono ?_
   rintro e w3 ⟨rfl,hb3⟩
   have HB3:=Lib.hid hb3
   have HXs:Hid (w3.heap[B]?=_):=show _=_ from (hb3.block _ (Array.getElem?_eq_some_iff.1 HXr.out).1).trans HXr.out
   have c2:=cell_b hb3 c2
   have dg:=cell_b hb3 dg
   have d6:=cell_b hb3 d6
   clear d0 d1 hb3
   unfold bfV
   cases hg:(getB t.bufs (rr.lo+(m:Int))).2 with
   |true =>
    have HE:Hid ((s.did k rr).endedN rr.write rr.lo (s.outs rr) (m+1)=t):=show _=_ by rw [HE0.out]; unfold St.ended1; rw [if_neg (by decide),if_pos hg]
    clear hg c2 dg d6
    go_wp2_with fail
    go_roundw
    case rel=>exact ⟨m+1,y,by omega,by go_num,HE.out▸(HS.out.below HB3.out).below ((Below.refl _ _).alloc (Nat.le_refl _) _),(HC.out.two (Chg.of_below HB3.out)).two (Chg.of_below ((Below.refl _ _).alloc (Nat.le_refl _) _))⟩
    case measure=>simp [intOf]; omega
   |false =>
    have Hgn:=Lib.hid hg
    clear hg
    go_wp2_with fail
    have hbA:=(Below.refl w3.heap.size w3).alloc (Nat.le_refl _) (.cells #[.int .i64 (getB t.bufs (rr.lo+(m:Int))).1.pos,.string (getB t.bufs (rr.lo+(m:Int))).1.data,.bool (getB t.bufs (rr.lo+(m:Int))).1.dirty,.int .i64 (getB t.bufs (rr.lo+(m:Int))).1.used] 111)
    have HBA:=Lib.hid hbA
    have H5:=Lib.hid ((HS.out.below HB3.out).below hbA)
    have k2:=cell_b hbA c2
    have kg:=cell_b hbA dg
    have k6:=cell_b hbA d6
    have HX5:=Lib.hid ((hbA.block _ (Array.getElem?_eq_some_iff.1 HXs.out).1).trans HXs.out)
    have HC5:=Lib.hid ((HC.out.two (Chg.of_below HB3.out)).two (Chg.of_below hbA))
    have hgl5:=Nat.lt_of_lt_of_le hgl2 (Nat.le_trans HB3.out.size hbA.size)
    clear hbA c2 dg d6
    generalize World.alloc _ _=w5 at HBA H5 k2 kg k6 HX5 HC5 hgl5 ⊢
    have H5d:=Lib.hid (H5.out.below (Below.refl _ _).drew)
    have Hus:Hid (0≤t.use∧t.use≤1000000000):=show _∧_ from ⟨HIm.out.use0,by have:=HBm.out.use; omega⟩
    have Hin:Hid (InB t.bufs):=HIm.out.inb
    have Hln:Hid (t.bufs.length≤65536):=show _≤_ by have:=HIm.out.len8; omega
    have HXd:Hid (w5.drew.heap[B]?=_):=HX5
    have K0:w5.drew.cell? ⟨b,2,none⟩=some y.bufs∧w5.drew.cell? ⟨B,6,none⟩=some (.slice (some ⟨g,off,none⟩) (s.outs rr).length co)∧w5.drew.cell? ⟨g,off+m,none⟩=some (.string sd):=⟨k2,k6,kg⟩
    have hat:atB t.bufs (rr.lo+(m:Int))=none:=by unfold atB; rw [Hgn.out]; rfl
    have Hat:=Lib.hid hat
    clear k2 k6 kg hat
    cases hp:putB t.bufs ⟨rr.lo+(m:Int),sd,false,t.use+1⟩ t.heldP with
    |some l =>
     have HE:Hid ((s.did k rr).endedN rr.write rr.lo (s.outs rr) (m+1)=({ t with use:=t.use+1,bufs:=l }:St).tell (rr.lo+(m:Int)) sd):=show _=_ by rw [HE0.out]; unfold St.ended1; rw [if_neg (by decide),if_neg (by rw [Hgn.out]; decide),hp]; rfl
     have Hpp:=Lib.hid hp
     clear hp
     go_region_held3 (fun q=>q.cell? ⟨b,2,none⟩=some y.bufs∧q.cell? ⟨B,6,none⟩=some (.slice (some ⟨g,off,none⟩) (s.outs rr).length co)∧q.cell? ⟨g,off+m,none⟩=some (.string sd))
      (first | exact K2 | exact K1 | exact K0)
      (first
       |((with_reducible refine (used_any col' w5.drew b bd (N+1) y t H5d.out Hus.out).mono ?_); rintro e u1 ⟨rfl,hS1,hst1⟩; have K1:u1.cell? ⟨b,2,none⟩=some y.bufs∧u1.cell? ⟨B,6,none⟩=some (.slice (some ⟨g,off,none⟩) (s.outs rr).length co)∧u1.cell? ⟨g,off+m,none⟩=some (.string sd):=⟨hst1.cell 2,cell_of_row _ _ 6 _ _ _ ((hS1.block B hBb).trans HXd.out),(World.cell?_of_block (hS1.block g hgb)).trans K0.2.2⟩; have HS1:=Lib.hid hS1; have Hst1:=Lib.hid hst1; have Hbu:Hid (BufsAt (Im u1 col') u1 y.bufs t.bufs):=hst1.bufs; have Hby:Hid (HeldBy u1 58 #[.pointer (some ⟨b,0,none⟩)] #[] t.heldP):=(held_by col' u1 b bd (N+1) y { t with use:=t.use+1 } hst1 (good_oks HIm.out.good) HIm.out.dv.two); clear hS1 hst1)
       |((with_reducible refine (put_some (Im u1 col') t.bufs l y.bufs ⟨rr.lo+(m:Int),sd,false,t.use+1⟩ 58 #[.pointer (some ⟨b,0,none⟩)] #[] t.heldP u1 Hbu.out HIm.out.rises Hin.out Hby.out Hln.out Hpp.out).mono ?_); rintro e u2 ⟨v2,rfl,ho2,hb2⟩; have K2:u2.cell? ⟨b,2,none⟩=some y.bufs∧u2.cell? ⟨B,6,none⟩=some (.slice (some ⟨g,off,none⟩) (s.outs rr).length co)∧u2.cell? ⟨g,off+m,none⟩=some (.string sd):=⟨cell_b hb2 K1.1,cell_b hb2 K1.2.1,cell_b hb2 K1.2.2⟩; obtain ⟨A2,n2,m2,e2,en⟩:=own_slice' ho2; subst e2; subst en; have Ho2:=Lib.hid ho2; have HB2:=Lib.hid hb2; have Hst2':=Lib.hid (Hst1.out.below hb2); have q2:=K2.1; have q6:=K2.2.1; have qg:=K2.2.2; have f2:=Hst2'.out.frozen 2; clear ho2 hb2)
       |fail)
     all_goals
      clear K0 K1 K2
      have hS3:=(Same1.refl (b:=b) (w:=u2)).setCell 2 (.slice A2 l.length m2)
      have hI3:Inv { t with use:=t.use+1,bufs:=l }:=HIm.out.putB Hpp.out Hp.out Hsz.out (show t.use≤t.use+1 by omega) (by have:=HIm.out.use0; simp only; omega) (fun h=>by cases h) (.inr Hat.out)
      have hv3:BufsAt (S0 col') u2 (.slice A2 l.length m2) l:=bufs_of_own (fun k hk=>Hst1.out.s0 k hk) Ho2.out (hI3.bok (by have:=HBm.out.use; show t.use+1≤_; omega))
      have Hst3:=Lib.hid (Hst2'.out.bufd hS3 hv3 (heap_setCell_same _ _ 2 _ _ _ Hst2'.out.row))
      have HI3:=Lib.hid hI3
      have HC3:Hid (Chg (Fl col') w2 (u2.setCell ⟨b,2,none⟩ (.slice A2 l.length m2))):=show Chg _ _ _ from
       ((HC5.out.drew.two (H5.out.chg1 (HS1.out.chg (F:=fun k=>k=b) rfl))).two (Chg.of_below HB2.out)).two (H5.out.chg1 (hS3.chg (F:=fun k=>k=b) rfl))
      clear hS3 hI3 hv3
      try go_wp2_with fail
      clear q2 q6 qg f2
      generalize World.setCell _ _ _=u3 at Hst3 HC3 ⊢
      refine (tell_any col' u3 b bd (N+1) _ _ (rr.lo+(m:Int)) sd Hst3.out HI3.out).mono ?_
      rintro e w6 ⟨y6,rfl,hst6,hc6,_⟩
      have Hst6:=Lib.hid hst6
      have HC6:=Lib.hid (HC3.out.two (H5.out.chg1 hc6))
      clear hst6 hc6
      go_wp2_with fail
      go_roundw
      case rel=>exact ⟨m+1,_,by omega,by go_num,HE.out▸Hst6.out,HC6.out⟩
      case measure=>simp [intOf]; omega
    |none =>
     have HE:Hid ((s.did k rr).endedN rr.write rr.lo (s.outs rr) (m+1)=({ t with use:=t.use+1 }:St).tell (rr.lo+(m:Int)) sd):=show _=_ by rw [HE0.out]; unfold St.ended1; rw [if_neg (by decide),if_neg (by rw [Hgn.out]; decide),hp]; rfl
     have Hpp:=Lib.hid hp
     clear hp
     go_region_held3 (fun q=>q.cell? ⟨b,2,none⟩=some y.bufs∧q.cell? ⟨B,6,none⟩=some (.slice (some ⟨g,off,none⟩) (s.outs rr).length co)∧q.cell? ⟨g,off+m,none⟩=some (.string sd))
      (first | exact K2 | exact K1 | exact K0)
      (first
       |((with_reducible refine (used_any col' w5.drew b bd (N+1) y t H5d.out Hus.out).mono ?_); rintro e u1 ⟨rfl,hS1,hst1⟩; have K1:u1.cell? ⟨b,2,none⟩=some y.bufs∧u1.cell? ⟨B,6,none⟩=some (.slice (some ⟨g,off,none⟩) (s.outs rr).length co)∧u1.cell? ⟨g,off+m,none⟩=some (.string sd):=⟨hst1.cell 2,cell_of_row _ _ 6 _ _ _ ((hS1.block B hBb).trans HXd.out),(World.cell?_of_block (hS1.block g hgb)).trans K0.2.2⟩; have HS1:=Lib.hid hS1; have Hst1:=Lib.hid hst1; have Hbu:Hid (BufsAt (Im u1 col') u1 y.bufs t.bufs):=hst1.bufs; have Hby:Hid (HeldBy u1 58 #[.pointer (some ⟨b,0,none⟩)] #[] t.heldP):=(held_by col' u1 b bd (N+1) y { t with use:=t.use+1 } hst1 (good_oks HIm.out.good) HIm.out.dv.two); clear hS1 hst1)
       |((with_reducible refine (put_none (Im u1 col') t.bufs y.bufs ⟨rr.lo+(m:Int),sd,false,t.use+1⟩ 58 #[.pointer (some ⟨b,0,none⟩)] #[] t.heldP u1 Hbu.out HIm.out.rises Hin.out Hby.out Hln.out Hpp.out).mono ?_); rintro e u2 ⟨rfl,hb2⟩; have K2:u2.cell? ⟨b,2,none⟩=some y.bufs∧u2.cell? ⟨B,6,none⟩=some (.slice (some ⟨g,off,none⟩) (s.outs rr).length co)∧u2.cell? ⟨g,off+m,none⟩=some (.string sd):=⟨cell_b hb2 K1.1,cell_b hb2 K1.2.1,cell_b hb2 K1.2.2⟩; have HB2:=Lib.hid hb2; have Hst2':=Lib.hid (Hst1.out.below hb2); have q6:=K2.2.1; have qg:=K2.2.2; clear hb2)
       |fail)
     all_goals
      clear K0 K1 K2
      have HI3:Hid (Inv { t with use:=t.use+1 }):=HIm.out.use1 (show t.use≤t.use+1 by omega)
      have HC3:Hid (Chg (Fl col') w2 u2):=show Chg _ _ _ from (HC5.out.drew.two (H5.out.chg1 (HS1.out.chg (F:=fun k=>k=b) rfl))).two (Chg.of_below HB2.out)
      try go_wp2_with fail
      clear q6 qg
      refine (tell_any col' u2 b bd (N+1) _ _ (rr.lo+(m:Int)) sd Hst2'.out HI3.out).mono ?_
      rintro e w6 ⟨y6,rfl,hst6,hc6,_⟩
      have Hst6:=Lib.hid hst6
      have HC6:=Lib.hid (HC3.out.two (H5.out.chg1 hc6))
      clear hst6 hc6
      go_wp2_with fail
      go_roundw
      case rel=>exact ⟨m+1,_,by omega,by go_num,HE.out▸Hst6.out,HC6.out⟩
      case measure=>simp [intOf]; omega
  ·obtain rfl:m=n:=by omega
   have hlt2:¬ (m:Int)<rr.many:=by rw [Hmn.out]; omega
   have HIm:=Lib.hid (HIn.out m (by rw [Hn.out]; omega))
   have HBm:Hid (Bd (K+10) ((s.did k rr).endedN rr.write rr.lo (s.outs rr) m)):=show Bd _ _ from (Hdb.out.endedN rr.write rr.lo (s.outs rr) m).mono (by omega)
   clear d0 d1 d6
   go_wp2_with fail
   refine (serve_any col' wr b bd (N+1) y _ (K+10) HS.out HIm.out HBm.out (by omega) (by omega)).mono ?_
   rintro e w4 ⟨y4,rfl,hst4,hc4,_⟩
   have Hst4:=Lib.hid hst4
   have HC4:=Lib.hid ((Hch2.out.recol HC.out Hrec.out.grow).recol hc4 Hrec.out.grow)
   clear hst4 hc4
   go_wp2_with fail
   go_ret
   rw [He.out,Hn.out]
   exact ⟨col',_,rfl,Hst4.out,HC4.out,Hrec.out.old,Hrec.out.grow⟩
theorem end_any (col:Nat→Nat) (w:World) (b bd N:Nat) (x:Sv) (s:St) (i:Int) (f:Bool) (K:Int) (h:StAt Ts col w b bd N x s) (hI:Inv s) (hB:Bd K s) (h0:0≤K) (hK:K≤700000000) (hN:N≤900000000) :
  Calls Tryz.prog 26 #[.pointer (some ⟨b,0,none⟩),.int .i64 i,.bool f] w (Ret5 Ts col w b bd (N+1) (s.end_ i f).1 (errV (s.end_ i f).2)):=by
 rcases endAt_split s.v.d i with hi | ⟨k,r,rfl,hk⟩
 ·exact end_none col w b bd N x s i f h hI (by have:=hB.waits; omega) hN hi
 ·cases f with
  |true =>
   by_cases h3:s.v.tries (tagOf r)+1<3
   ·exact end_again col w b bd N x s k r h hI (by have:=hB.waits; omega) hN hk h3
   ·exact end_gone col w b bd N x s k r K h hI hB h0 (by omega) hN hk h3
  |false =>
   rcases Bool.eq_false_or_eq_true r.write with hw | hw
   ·exact end_ok_w col w b bd N x s k r K h hI hB h0 hK hN hk hw
   ·exact end_ok_r col w b bd N x s k r K h hI hB h0 hK hN hk hw
end Go.Proofs.YtaeadmlgffaegaaGreatDoor
namespace Go.Proofs.YtaeadmlgffaegaaGreatDoor
open Go.RowKit Go.Sort
theorem StAt.taken {T:Tys} {col:Nat→Nat} {w w':World} {b bd N:Nat} {x:Sv} {s:St} (h:StAt T col w b bd N x s) (hb:Same1 b w w') {v:Value} {l:List Rq} {t:Tn} (hv:ReqsAt (S0 col) w v l) (hrow:w'.heap[b]?=some (.cells (({ x with wait:=v }:Sv).row { s with wait:=l,turn:=t } bd) T.S (0,0))) :
  StAt T col w' b bd N { x with wait:=v } { s with wait:=l,turn:=t }:=by
 refine h.turn1 hb hrow rfl rfl rfl rfl h.bufs (S0.im hv) h.asks (fun c hc=>?_) h.done h.errs
 have:=h.ask c hc
 match c,hc with | 0,_=>exact this | 1,_=>exact this | 2,_=>exact this
theorem dispatch_any (col:Nat→Nat) (w:World) (b bd N:Nat) (x:Sv) (s:St) (h:StAt Ts col w b bd N x s) (hI:Inv s) :
  Calls Tryz.prog 25 #[.pointer (some ⟨b,0,none⟩)] w (Ret5 Ts col w b bd N s.dispatch.1 (.bool s.dispatch.2)):=by
 have H:=Lib.hid h
 have HI:=Lib.hid hI
 have c1:w.cell? ⟨b,1,none⟩=some (.pointer (some ⟨x.bv,0,none⟩)):=h.cell 1
 have c3:w.cell? ⟨b,3,none⟩=some x.wait:=h.cell 3
 obtain ⟨A,cap,hwv,_,_⟩:=h.wait.form
 rw [hwv] at c3
 clear h hI
 go_enter Tryz.func25,Tryz.ntmps25
 by_cases hne:s.wait=[]
 ·have hl0:s.wait.length=0:=by rw [hne]; rfl
  have Hd:=Lib.hid (Inv.dispatch_no (s:=s) (.inl hne))
  rw [hl0] at c3
  clear hne hl0 hwv
  go_wp2_with fail
  go_ret
  rw [Hd.out]
  exact ⟨_,_,rfl,H.out,Chg.refl,.refl⟩
 have hl1:(((s.wait.length:Nat):Int) == 0)=false:=by simp only [beq_eq_false_iff_ne]; have:=List.length_pos_iff.2 hne; omega
 go_wp2_with fail
 refine (drvroom_any _ _ w x.bv bd x.bt x.n s.v H.out.drv HI.out.dv.two).mono ?_
 rintro e w1 ⟨rfl,hb1⟩
 have HB1:=Lib.hid hb1
 have H1:=Lib.hid (H.out.below hb1)
 clear c1 c3 hb1
 by_cases h2:s.v.d.l.length<2
 ·obtain ⟨j,r,t',hx,hde⟩:=HI.out.dispatched hne h2
  have hd2:decide (s.v.d.l.length<2)=true:=by simpa using h2
  have Hne:=Lib.hid hne
  have H2:=Lib.hid h2
  have Hx:=Lib.hid hx
  have Hde:=Lib.hid hde
  have Hwv:=Lib.hid hwv
  have Hb1:=HB1
  clear hne h2 hx hde hwv
  rw [hd2]
  clear hd2
  go_wp2_with fail
  clear hl1
  have c3:w1.cell? ⟨b,3,none⟩=some x.wait:=H1.out.cell 3
  have c4:w1.cell? ⟨b,4,none⟩=some (.bool s.turn.write):=H1.out.cell 4
  have c5:w1.cell? ⟨b,5,none⟩=some (.int .i64 s.turn.gone):=H1.out.cell 5
  have c6:w1.cell? ⟨b,6,none⟩=some (.int .i64 s.turn.starved):=H1.out.cell 6
  have c7:w1.cell? ⟨b,7,none⟩=some (.int .i64 s.turn.wh):=H1.out.cell 7
  have c8:w1.cell? ⟨b,8,none⟩=some (.int .i64 s.now):=H1.out.cell 8
  have Hcall:Hid (∀ u,Below w1.heap.size w1 u→Calls Tryz.prog 62 #[x.wait,.agg #[.bool s.turn.write,.int .i64 s.turn.gone,.int .i64 s.turn.starved,.int .i64 s.turn.wh],.int .i64 s.now] u (Ret (.tuple #[.int .i64 (j:Int),.agg #[.bool t'.write,.int .i64 t'.gone,.int .i64 t'.starved,.int .i64 t'.wh]]) u)):=fun u hu=>by
   have:=next_any' (Im w1 col) s.wait x.wait s.turn s.now u (H1.out.wait.below hu) (good_app.1 HI.out.good).1 Hne.out (by have:=HI.out.turn; unfold i64; omega) HI.out.now.1 HI.out.now.2
   unfold nextV at this
   rw [Hx.out.eq] at this
   exact this
  obtain ⟨FB,hFB⟩:∃ F:Array Value,F=#[.bool t'.write,.int .i64 t'.gone,.int .i64 t'.starved,.int .i64 t'.wh]:=⟨_,rfl⟩
  refine wp_region_ev mixed [(22,fun v _=>v=(.pointer (some ⟨b,0,none⟩))),(23,fun v _=>v=(.pointer (some ⟨b,0,none⟩))),(24,fun v _=>v=(.pointer (some ⟨b,3,none⟩))),(25,fun v _=>v=x.wait),(26,fun v _=>v=(.pointer (some ⟨b,0,none⟩))),(27,fun v _=>v=(.pointer (some ⟨b,0,none⟩))),(28,fun v _=>v=(.pointer (some ⟨b,4,none⟩))),(29,fun v _=>v=(.agg #[.bool s.turn.write,.int .i64 s.turn.gone,.int .i64 s.turn.starved,.int .i64 s.turn.wh])),(30,fun v _=>v=(.pointer (some ⟨b,0,none⟩))),(31,fun v _=>v=(.pointer (some ⟨b,0,none⟩))),(32,fun v _=>v=(.pointer (some ⟨b,8,none⟩))),(33,fun v _=>v=(.int .i64 s.now)),(34,fun v _=>v=(.tuple #[.int .i64 (j:Int),.agg #[.bool t'.write,.int .i64 t'.gone,.int .i64 t'.starved,.int .i64 t'.wh]])),(21,fun v _=>v=(.tuple #[.int .i64 (j:Int),.agg #[.bool t'.write,.int .i64 t'.gone,.int .i64 t'.starved,.int .i64 t'.wh]])),(35,fun v _=>v=(.int .i64 (j:Int))),(36,fun v _=>v=(.agg #[.bool t'.write,.int .i64 t'.gone,.int .i64 t'.starved,.int .i64 t'.wh])),(4,BxF 76 FB w1.heap.size),(3,fun v _=>v=(.int .i64 (j:Int)))] (fun u=>Below w1.heap.size w1 u) (BR 76 FB w1.heap.size) (BxE 76 FB 18) (by kernel_rfl) rfl (by decide) (Below.refl _ _).drew ?st (fun k vs u u' h hr=>h.step hr) ?steps ?fin
  case st=>exact ⟨fun v u u' h _=>h,fun v u u' h _=>h,fun v u u' h _=>h,fun v u u' h _=>h,fun v u u' h _=>h,fun v u u' h _=>h,fun v u u' h _=>h,fun v u u' h _=>h,fun v u u' h _=>h,fun v u u' h _=>h,fun v u u' h _=>h,fun v u u' h _=>h,fun v u u' h _=>h,fun v u u' h _=>h,fun v u u' h _=>h,fun v u u' h _=>h,fun v u u' h hr=>h.step hr,fun v u u' h _=>h,trivial⟩
  case steps =>
   refine ⟨?_,?_,?_,?_,?_,?_,?_,?_,?_,?_,?_,?_,?_,?_,?_,?_,?_,?_,?_,trivial⟩
   all_goals
    intro ρ u hp hJ hr
    try
     have r1:ρ _=_:=hr.1
     clear hr
     have c3:=cell_b hJ c3
     have c4:=cell_b hJ c4
     have c5:=cell_b hJ c5
     have c6:=cell_b hJ c6
     have c7:=cell_b hJ c7
     have c8:=cell_b hJ c8
     refine gives_value (v:=_) (w':=u) ?_ ⟨rfl,hJ,BR.refl _,fun h=>absurd h (by decide)⟩
     go_simp
     done
   ·have r1:ρ (.tmp 25)=x.wait:=hr.1
    have r2:ρ (.tmp 29)=(.agg #[.bool s.turn.write,.int .i64 s.turn.gone,.int .i64 s.turn.starved,.int .i64 s.turn.wh]):=hr.2.1
    have r3:ρ (.tmp 33)=(.int .i64 s.now):=hr.2.2.1
    clear hr
    refine gives_enter (f:=62) (args:=#[x.wait,.agg #[.bool s.turn.write,.int .i64 s.turn.gone,.int .i64 s.turn.starved,.int .i64 s.turn.wh],.int .i64 s.now]) (w':=u) ?_ ((Hcall.out u hJ).mono ?_)
    ·have hpf:=hp.func 62
     go_simp
    rintro e u' ⟨rfl,hb⟩
    exact ⟨_,rfl,rfl,hJ.trans (hb.mono hJ.size),BR.below hb,fun h=>absurd h (by decide)⟩
   ·clear hr
    refine gives_value (v:=.pointer (some ⟨u.heap.size,0,none⟩)) (w':=u.alloc (.cells #[.bool false,.int .i64 0,.int .i64 0,.int .i64 0] 76)) ?_ ⟨⟨_,rfl,hJ.size,⟨_,by rw [hFB]; rfl,heap_alloc_new _ _⟩⟩,hJ.trans (((Below.refl _ _).alloc (Nat.le_refl _) _).mono hJ.size),BR.below ((Below.refl _ _).alloc (Nat.le_refl _) _),fun h=>absurd h (by decide)⟩
    go_simp
   ·have r1:BxF 76 FB w1.heap.size (ρ (.tmp 4)) u:=hr.1
    have r2:ρ (.tmp 36)=(.agg #[.bool t'.write,.int .i64 t'.gone,.int .i64 t'.starved,.int .i64 t'.wh]):=hr.2.1
    clear hr
    obtain ⟨bb,e1,hbb,hbx⟩:=r1
    rw [show FB.size=4 by rw [hFB]; rfl] at hbx
    obtain ⟨g1,g2,g3⟩:=bx_put4 (v0:=.bool t'.write) (v1:=.int .i64 t'.gone) (v2:=.int .i64 t'.starved) (v3:=.int .i64 t'.wh) hbb hbx _ rfl
    rw [← hFB] at g1 g2
    refine gives_skip (w':=_) ?_ ⟨trivial,hJ.trans g3,g1,BxE.at e1 rfl g2⟩
    obtain ⟨z0,z1,z2,z3,hz⟩:=bx4 hbx
    have z0:u.cell? ⟨bb,0,none⟩=some _:=cell_of_row _ _ 0 _ _ _ hz
    have z1:u.cell? ⟨bb,1,none⟩=some _:=cell_of_row _ _ 1 _ _ _ hz
    have z2:u.cell? ⟨bb,2,none⟩=some _:=cell_of_row _ _ 2 _ _ _ hz
    have z3:u.cell? ⟨bb,3,none⟩=some _:=cell_of_row _ _ 3 _ _ _ hz
    have f0:∀ j,u.frozen? ⟨bb,j,none⟩=false:=fun j=>frozen_of_row _ _ j _ _ hz
    clear g1 g2 g3 hz hbx
    go_simp
  intro f u hF hJ hU hE
  have f4:BxF 76 FB w1.heap.size (f 4) u:=hF.2.2.2.2.2.2.2.2.2.2.2.2.2.2.2.2.1
  have f3:f 3=(.int .i64 (j:Int)):=hF.2.2.2.2.2.2.2.2.2.2.2.2.2.2.2.2.2.1
  obtain ⟨bb,e4,hbb,hbz⟩:=f4
  have hbx:u.heap[bb]?=some (.cells FB 76 (0,0)):=hE 18 _ rfl rfl bb (by rw [argsOf_store rfl,e4]; rfl)
  clear hF hU hE
  rw [hFB] at hbx
  clear hbz hFB FB
  have HJ:=Lib.hid hJ
  have Hbx:=Lib.hid hbx
  have Hbb:=Lib.hid hbb
  clear hJ hbx hbb
  simp only [laid]
  clear c3 c4 c5 c6 c7 c8 Hcall
  have H3:=Lib.hid (H1.out.below HJ.out)
  have c3:u.cell? ⟨b,3,none⟩=some x.wait:=H3.out.cell 3
  rw [f3]
  clear f3
  rw [e4]
  clear e4
  go_wp2_with fail
  refine (take_any (S0 col) s.wait x.wait j r u (H3.out.wait.more (fun k hk=>hk.2)) H3.out.s0 Hx.out.get (by have:=HI.out.wait6; omega)).mono ?_
  rintro e w4 ⟨v4,rv4,rfl,hown4,hrq4,hb4⟩
  obtain ⟨Ad,cd,At,ct,hrv,_,_,_,_,_,_,_⟩:=hrq4.opened
  have HW4:Hid (ReqsAt (S0 col) w4 v4 (s.wait.eraseIdx j)):=hown4.at_ H3.out.s0
  obtain ⟨A4,cap4,hv4,_,_⟩:=HW4.out.form
  subst hv4
  subst hrv
  have Hrq4:=Lib.hid hrq4
  have HB4:=Lib.hid hb4
  have H4:=Lib.hid (H3.out.below hb4)
  have Hbx4:=Lib.hid ((hb4.block _ (Array.getElem?_eq_some_iff.1 Hbx.out).1).trans Hbx.out)
  clear hown4 hrq4 hb4 c3
  go_wp2_with fail
  obtain ⟨b6,hb6⟩:∃ n,w4.heap.size=n:=⟨_,rfl⟩
  have Hc6:Hid (col b6=0):=H4.out.s0 b6 (by omega)
  have hbA:=(Below.refl w4.heap.size w4).alloc (Nat.le_refl _) (.cells #[Value.bool r.write,.int .i64 r.lo,.int .i64 r.many,.slice Ad r.data.length cd,.slice At r.tags.length ct,.int .i64 r.born] 123)
  have Hbx6:Hid ((w4.alloc (.cells #[Value.bool r.write,.int .i64 r.lo,.int .i64 r.many,.slice Ad r.data.length cd,.slice At r.tags.length ct,.int .i64 r.born] 123)).heap[b6]?=some (.cells #[Value.bool r.write,.int .i64 r.lo,.int .i64 r.many,.slice Ad r.data.length cd,.slice At r.tags.length ct,.int .i64 r.born] 123 (0,0))):=show _=_ from hb6▸heap_alloc_new w4 _
  rw [hb6]
  have HBA:=Lib.hid hbA
  clear hbA
  generalize w4.alloc _=w5 at HBA Hbx6 ⊢
  have H5:=Lib.hid (H4.out.below HBA.out)
  have Hbx5:=Lib.hid ((HBA.out.block _ (Array.getElem?_eq_some_iff.1 Hbx4.out).1).trans Hbx4.out)
  have HW5:Hid (ReqsAt (S0 col) w5 (.slice A4 (s.wait.eraseIdx j).length cap4) (s.wait.eraseIdx j)):=HW4.out.below HBA.out
  have Hrq5:=Lib.hid (Hrq4.out.below HBA.out)
  have HB05:Hid (Below w.heap.size w w5):=show Below _ _ _ from Hb1.out.trans ((HJ.out.trans ((HB4.out.trans (HBA.out.mono HB4.out.size)).mono HJ.out.size)).mono Hb1.out.size)
  have c3:w5.cell? ⟨b,3,none⟩=some x.wait:=H5.out.cell 3
  have c4:w5.cell? ⟨b,4,none⟩=some (.bool s.turn.write):=H5.out.cell 4
  have c5:w5.cell? ⟨b,5,none⟩=some (.int .i64 s.turn.gone):=H5.out.cell 5
  have c6:w5.cell? ⟨b,6,none⟩=some (.int .i64 s.turn.starved):=H5.out.cell 6
  have c7:w5.cell? ⟨b,7,none⟩=some (.int .i64 s.turn.wh):=H5.out.cell 7
  have hfr:=fun k=>H5.out.frozen k
  have d0:w5.cell? ⟨bb,0,none⟩=some (.bool t'.write):=cell_of_row _ _ 0 _ _ _ Hbx5.out
  have d1:w5.cell? ⟨bb,1,none⟩=some (.int .i64 t'.gone):=cell_of_row _ _ 1 _ _ _ Hbx5.out
  have d2:w5.cell? ⟨bb,2,none⟩=some (.int .i64 t'.starved):=cell_of_row _ _ 2 _ _ _ Hbx5.out
  have d3:w5.cell? ⟨bb,3,none⟩=some (.int .i64 t'.wh):=cell_of_row _ _ 3 _ _ _ Hbx5.out
  have hbne:bb≠b:=by have:=Hbb.out; have:=H1.out.bl; omega
  have hb6ne:b6≠b:=by have:=H4.out.bl; omega
  go_region
  have hS6:=((((((Same1.refl (b:=b) (w:=w5)).setCell 3 (.slice A4 (s.wait.eraseIdx j).length cap4)).setCell 4 (.bool t'.write)).setCell 5 (.int .i64 t'.gone)).setCell 6 (.int .i64 t'.starved)).setCell 7 (.int .i64 t'.wh)).drew
  have H6:=Lib.hid (H5.out.taken hS6 HW5.out (t:=t') (heap_setCell_same _ _ 7 _ _ _ (heap_setCell_same _ _ 6 _ _ _ (heap_setCell_same _ _ 5 _ _ _ (heap_setCell_same _ _ 4 _ _ _ (heap_setCell_same _ _ 3 _ _ _ H5.out.row))))))
  have HS6:=Lib.hid hS6
  clear hS6 c3 c4 c5 c6 c7 hfr d0 d1 d2 d3
  generalize World.drew _=w6 at H6 HS6 ⊢
  go_wp2_with fail
  have H7:=Lib.hid (H6.out.below (Below.refl _ _).drew)
  have Hbx7:Hid (w6.drew.heap[b6]?=_):=show _=_ from (HS6.out.block b6 hb6ne).trans Hbx6.out
  have Hrq7:Hid (ReqAt (Im w6.drew col) w6.drew (.agg #[.bool r.write,.int .i64 r.lo,.int .i64 r.many,.slice Ad r.data.length cd,.slice At r.tags.length ct,.int .i64 r.born]) r):=show ReqAt _ _ _ _ from
   ((Hrq5.out.keep (fun k hk _=>HS6.out.block k (fun e=>by have h1:col k=0:=hk.1; rw [e,H5.out.cb] at h1; cases h1))).below (Below.refl _ _).drew).more (fun k hk=>⟨by
    have h1:=hk.2
    have h2:u.heap.size≤w6.heap.size:=by rw [HS6.out.size]; exact Nat.le_trans HB4.out.size HBA.out.size
    show k<w6.heap.size
    omega,hk.1⟩)
  have Hfl:Hid (∀ k,Fd col k→k<w6.drew.heap.size):=fun k (hk:col k=4)=>H7.out.lt k (by omega)
  have Him:Hid (∀ k,Im w6.drew col k→¬ Fd col k):=StAt.imfd
  have hst:s.v.d.start r=({ s.v.d with l:=s.v.d.l ++ [r] },0):=by unfold Dv.start; rw [if_neg (by have:=H2.out; omega)]
  have Hcl:Hid (Calls Tryz.prog 64 #[.pointer (some ⟨x.bv,0,none⟩),.agg #[.bool r.write,.int .i64 r.lo,.int .i64 r.many,.slice Ad r.data.length cd,.slice At r.tags.length ct,.int .i64 r.born]] w6.drew (RetDrvS TDp TPp TVp (Im w6.drew col) (Fd col) w6.drew x.bv bd x.bt x.n { s.v with d:={ s.v.d with l:=s.v.d.l ++ [r] } } .nilIface)):=show Calls _ _ _ _ _ from by
   have:=drvstart_any (Im w6.drew col) (Fd col) w6.drew x.bv bd x.bt x.n s.v r _ H7.out.drv Hrq7.out Hfl.out Him.out (fun k hk=>hk.1) HI.out.dv.two
   rw [hst] at this
   exact this
  clear hst
  have K0:w6.drew.cell? ⟨b,1,none⟩=some (.pointer (some ⟨x.bv,0,none⟩))∧w6.drew.cell? ⟨b6,0,none⟩=some (.bool r.write)∧w6.drew.cell? ⟨b6,1,none⟩=some (.int .i64 r.lo)∧w6.drew.cell? ⟨b6,2,none⟩=some (.int .i64 r.many)∧w6.drew.cell? ⟨b6,3,none⟩=some (.slice Ad r.data.length cd)∧w6.drew.cell? ⟨b6,4,none⟩=some (.slice At r.tags.length ct)∧w6.drew.cell? ⟨b6,5,none⟩=some (.int .i64 r.born):=⟨H7.out.cell 1,cell_of_row _ _ 0 _ _ _ Hbx7.out,cell_of_row _ _ 1 _ _ _ Hbx7.out,cell_of_row _ _ 2 _ _ _ Hbx7.out,cell_of_row _ _ 3 _ _ _ Hbx7.out,cell_of_row _ _ 4 _ _ _ Hbx7.out,cell_of_row _ _ 5 _ _ _ Hbx7.out⟩
  go_region_held3 (fun q=>q.cell? ⟨b,1,none⟩=some (.pointer (some ⟨x.bv,0,none⟩))∧q.cell? ⟨b6,0,none⟩=some (.bool r.write)∧q.cell? ⟨b6,1,none⟩=some (.int .i64 r.lo)∧q.cell? ⟨b6,2,none⟩=some (.int .i64 r.many)∧q.cell? ⟨b6,3,none⟩=some (.slice Ad r.data.length cd)∧q.cell? ⟨b6,4,none⟩=some (.slice At r.tags.length ct)∧q.cell? ⟨b6,5,none⟩=some (.int .i64 r.born))
   (first | exact K1 | exact K0)
   (first
    |((with_reducible refine Hcl.out.mono ?_); rintro e u1 ⟨rfl,hp1,hc1⟩; have HP1:=Lib.hid hp1; have HC1:=Lib.hid hc1; have K1:u1.cell? ⟨b,1,none⟩=some (.pointer (some ⟨x.bv,0,none⟩))∧u1.cell? ⟨b6,0,none⟩=some (.bool r.write)∧u1.cell? ⟨b6,1,none⟩=some (.int .i64 r.lo)∧u1.cell? ⟨b6,2,none⟩=some (.int .i64 r.many)∧u1.cell? ⟨b6,3,none⟩=some (.slice Ad r.data.length cd)∧u1.cell? ⟨b6,4,none⟩=some (.slice At r.tags.length ct)∧u1.cell? ⟨b6,5,none⟩=some (.int .i64 r.born):=⟨(World.cell?_of_block (hc1.block b H7.out.bl (fun hf=>by have h1:col b=4:=hf; rw [H7.out.cb] at h1; cases h1))).trans K0.1,(by have hbb:=(hc1.block b6 (Array.getElem?_eq_some_iff.1 Hbx7.out).1 (fun hf=>by have h1:col b6=4:=hf; rw [Hc6.out] at h1; cases h1)).trans Hbx7.out; exact ⟨cell_of_row _ _ 0 _ _ _ hbb,cell_of_row _ _ 1 _ _ _ hbb,cell_of_row _ _ 2 _ _ _ hbb,cell_of_row _ _ 3 _ _ _ hbb,cell_of_row _ _ 4 _ _ _ hbb,cell_of_row _ _ 5 _ _ _ hbb⟩)⟩; clear hp1 hc1)
    |fail)
  all_goals
   clear K0 K1
   try go_wp2_with fail
   go_ret
   obtain ⟨col',hst',hrec,_⟩:=H7.out.drvd HP1.out (HC1.out.mono (fun k hk=>.inl hk)) (fun k hk=>hk) (fun k hk=>.inl hk) (fun k hk hg=>hg.elim (Him.out k hk) (fun h2=>by have h3:=hk.1; omega)) H7.out.n
   rw [Hde.out]
   have HC07:Chg (Fl col) w w6.drew:=((Chg.of_below HB05.out).two (H5.out.chg1 (HS6.out.chg (F:=fun k=>k=b) rfl))).drew
   exact ⟨col',_,rfl,hst',HC07.two (HC1.out.mono Fl.of_d),Rec.refl.trans hrec HC07.size⟩
 ·have hd2:decide (s.v.d.l.length<2)=false:=by simpa using h2
  have Hd:=Lib.hid (Inv.dispatch_no (s:=s) (.inr (by omega)))
  rw [hd2]
  clear hd2 h2 hne hwv
  go_wp2_with fail
  go_ret
  rw [Hd.out]
  exact ⟨_,_,rfl,H1.out,Chg.of_below HB1.out,.refl⟩
end Go.Proofs.YtaeadmlgffaegaaGreatDoor
namespace Go.Proofs.YtaeadmlgffaegaaGreatDoor
open Go.RowKit
theorem pressed1_any (F:Nat→Prop) (w:World) (v:Value) (o:Option Ak) (h:AskAt Ts.A F w v o) (hk:∀ a,o=some a→AkOk a) :
  Calls Tryz.prog 98 #[v] w (Ret (.bool (isKind 2 o || isKind 3 o)) w):=by
 cases o with
 |none =>
  have hv:v=.pointer none:=h
  subst hv
  clear h hk
  go_enter Tryz.func98,Tryz.ntmps98
  go_wp2_with fail
  go_ret
  exact ⟨rfl,Below.refl _ _⟩
 |some a =>
  obtain ⟨ba,lv,rfl,_,hrow,_⟩:=h
  have k0:w.cell? ⟨ba,0,none⟩=some (.int .i64 a.kind):=cell_of_row _ _ 0 _ _ _ hrow
  have hk3:=(hk a rfl).kind
  clear hrow hk
  rcases hk3 with e | e | e
  ·have Hv:Hid ((isKind 2 (some a) || isKind 3 (some a))=false):=show _=_ by simp [isKind,e]
   rw [e] at k0
   clear e
   go_enter Tryz.func98,Tryz.ntmps98
   go_wp2_with fail
   go_ret
   rw [Hv.out]
   exact ⟨rfl,Below.refl _ _⟩
  ·have Hv:Hid ((isKind 2 (some a) || isKind 3 (some a))=true):=show _=_ by simp [isKind,e]
   rw [e] at k0
   clear e
   go_enter Tryz.func98,Tryz.ntmps98
   go_wp2_with fail
   go_ret
   rw [Hv.out]
   exact ⟨rfl,Below.refl _ _⟩
  ·have Hv:Hid ((isKind 2 (some a) || isKind 3 (some a))=true):=show _=_ by simp [isKind,e]
   rw [e] at k0
   clear e
   go_enter Tryz.func98,Tryz.ntmps98
   go_wp2_with fail
   go_ret
   rw [Hv.out]
   exact ⟨rfl,Below.refl _ _⟩
end Go.Proofs.YtaeadmlgffaegaaGreatDoor
