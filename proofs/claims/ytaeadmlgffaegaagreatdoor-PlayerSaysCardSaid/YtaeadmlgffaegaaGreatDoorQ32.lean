/- The reference's stack: serve: a client that reads. -/
import Derived.Test.YtaeadmlgffaegaaGreatDoorQ31
set_option linter.unusedSimpArgs false
set_option linter.unusedVariables false
set_option maxRecDepth 100000
set_option maxHeartbeats 8000000
namespace Go.Proofs.YtaeadmlgffaegaaGreatDoor
open Go.RowKit Go.Sort
theorem srv_read (C:Code) (Q:Exit→Act→World→Prop) (col:Nat→Nat) (w:World) (b bd N k:Nat) (a0:Act) (wr:World) (col1:Nat→Nat) (y:Sv) (t:St) (a:Ak) (ba:Nat) (h:Srv C Q col w b bd N k a0 wr col1 y t a ba) (hk1:a.kind=1):C.wp Tryz.prog Q a0 wr:=by
 obtain ⟨hC,h3,z1,z2,z3,z4,hst,hch,hrec,hIn,hu,ho,ep,hto⟩:=h
 obtain ⟨f,rfl⟩:=frame_srv a0 z1 z2 z3 z4
 have HT:=Lib.hid hto
 have HS:=Lib.hid hst
 have HC:=Lib.hid hch
 have HR:=Lib.hid hrec
 have HIn:=Lib.hid hIn
 have Hu:=Lib.hid hu
 have hz:=zero_buf
 obtain ⟨j0,hj0,hy0,hy1,hy2⟩:=info_parts intInfo
 have hk3:(k:Int)<3:=by omega
 have hk0:¬ (k:Int)<0:=by omega
 have cA:wr.cell? ⟨b,11+k,none⟩=some (.pointer (some ⟨ba,0,none⟩)):=(hst.cellA h3).trans (congrArg some ep)
 obtain ⟨lv,hrow,hfa,how⟩:=hst.askc h3 ho ep
 have Hne:=Lib.hid (hst.ask_ne hfa)
 have Ha:=Lib.hid (hIn.ask k a ho)
 have Ho:=Lib.hid ho
 have Ep:=Lib.hid ep
 have Hrow:=Lib.hid hrow
 have How:=Lib.hid how
 have k0:wr.cell? ⟨ba,0,none⟩=some (.int .i64 a.kind):=cell_of_row _ _ 0 _ _ _ hrow
 have p1:wr.cell? ⟨ba,1,none⟩=some (.int .i64 a.pos):=cell_of_row _ _ 1 _ _ _ hrow
 have c2:wr.cell? ⟨b,2,none⟩=some y.bufs:=hst.cell 2
 have hgg:∃ g,getB t.bufs a.pos=g:=⟨_,rfl⟩
 obtain ⟨g,hg⟩:=hgg
 have Hg:=Lib.hid hg
 have Hfb:Hid (Fl col1 b):=show _∧_ from ⟨by rw [hst.cb]; decide,by rw [hst.cb]; decide⟩
 have Hln:Hid (t.bufs.length≤65536):=show _≤_ by have:=hIn.len8; omega
 have Hlo:Hid (0≤a.pos∧a.pos<32):=show _∧_ by have:=Ha.out.lo; have:=Ha.out.hi; omega
 obtain ⟨hs,hhs⟩:∃ l,hlOf t=l:=⟨_,rfl⟩
 have hlen:hs.length=32:=hhs▸hlOf_len t
 have Hhs:=Lib.hid hhs
 have Hlen:=Lib.hid hlen
 have hC:=Option.some.inj (Eq.symm hC)
 subst hC
 clear z1 z2 z3 z4 hst hch hrec hIn hu hto hhs hlen ho ep hrow how hfa hg
 have Hsv:Hid (t.serve1 k=t.read k a):=show _=_ from serve1_read Ho.out hk1
 rw [hk1] at k0
 clear hk1
 have Hs:Hid ((Tryz.prog.info? 145).map (·.size)=some (hs.map Value.bool).length):=show _=_ by rw [List.length_map,Hlen.out]; kernel_rfl
 have Hoc:Hid ((hs.map Value.bool).toArray.all (·.oneCell')=true):=all_oneCell_toArray (fun v hv=>by obtain ⟨s,_,rfl⟩:=List.mem_map.1 hv; rfl)
 go_wp2_with fail
 obtain ⟨FB,hFB⟩:∃ F:Array Value,F=#[.int .i64 g.1.pos,.string g.1.data,.bool g.1.dirty,.int .i64 g.1.used]:=⟨_,rfl⟩
 refine wp_region_ev mixed [(33,fun v _=>v=(.pointer (some ⟨b,0,none⟩))),(34,fun v _=>v=(.pointer (some ⟨b,0,none⟩))),(35,fun v _=>v=(.pointer (some ⟨b,2,none⟩))),(36,fun v _=>v=y.bufs),(37,fun v _=>v=(.pointer (some ⟨ba,0,none⟩))),(38,fun v _=>v=(.pointer (some ⟨ba,0,none⟩))),(39,fun v _=>v=(.pointer (some ⟨ba,1,none⟩))),(40,fun v _=>v=(.int .i64 a.pos)),(41,fun v _=>v=(.tuple #[.agg #[.int .i64 g.1.pos,.string g.1.data,.bool g.1.dirty,.int .i64 g.1.used],.bool g.2])),(32,fun v _=>v=(.tuple #[.agg #[.int .i64 g.1.pos,.string g.1.data,.bool g.1.dirty,.int .i64 g.1.used],.bool g.2])),(42,fun v _=>v=(.agg #[.int .i64 g.1.pos,.string g.1.data,.bool g.1.dirty,.int .i64 g.1.used])),(43,fun v _=>v=(.bool g.2)),(4,BxF 111 FB wr.heap.size),(5,fun v _=>v=(.bool g.2))] (fun u=>Below wr.heap.size wr u) (BR 111 FB wr.heap.size) (BxE 111 FB 13) (by as_aux_lemma=>kernel_rfl) rfl (by decide) (Below.refl _ _).drew ?st33 (fun k vs u u' h hr=>h.step hr) ?steps33 ?fin33
 case st33=>repeat' first | exact trivial | exact fun v u u' h hr=>h.step hr | exact fun v u u' h _=>h | refine ⟨?_,?_⟩
 case steps33 =>
  refine ⟨?_,?_,?_,?_,?_,?_,?_,?_,?a33,?_,?_,?_,?b33,?c33,?_,trivial⟩
  case a33 =>
   intro ρ u hp hJ hr
   have r1:ρ _=y.bufs:=hr.1
   have r2:ρ _=.int .i64 a.pos:=hr.2.1
   clear hr
   refine gives_enter (f:=81) (args:=#[y.bufs,.int .i64 a.pos]) (w':=u) ?_ ((rget_st HS.out HIn.out _ Hg.out u hJ).mono ?_)
   ·have hpf:=hp.func 81
    go_simp
   rintro e u' ⟨rfl,hb⟩
   exact ⟨_,rfl,rfl,hJ.trans (hb.mono hJ.size),BR.below hb,fun h=>absurd h (by decide)⟩
  case b33 =>
   intro ρ u hp hJ hr
   clear hr
   refine gives_value (v:=.pointer (some ⟨u.heap.size,0,none⟩)) (w':=u.alloc (.cells #[.int .i64 0,.string ⟨#[]⟩,.bool false,.int .i64 0] 111)) ?_ ⟨⟨_,rfl,hJ.size,⟨_,by rw [hFB]; rfl,heap_alloc_new _ _⟩⟩,hJ.trans (((Below.refl _ _).alloc (Nat.le_refl _) _).mono hJ.size),BR.below ((Below.refl _ _).alloc (Nat.le_refl _) _),fun h=>absurd h (by decide)⟩
   go_simp
  case c33 =>
   intro ρ u hp hJ hr
   have r1:BxF 111 FB wr.heap.size (ρ (.tmp 4)) u:=hr.1
   have r2:ρ _=.agg #[.int .i64 g.1.pos,.string g.1.data,.bool g.1.dirty,.int .i64 g.1.used]:=hr.2.1
   clear hr
   obtain ⟨bb,e1,hbb,hbx⟩:=r1
   rw [show FB.size=4 by rw [hFB]; rfl] at hbx
   obtain ⟨g1,g2,g3⟩:=bx_put4 (v0:=.int .i64 g.1.pos) (v1:=.string g.1.data) (v2:=.bool g.1.dirty) (v3:=.int .i64 g.1.used) hbb hbx _ rfl
   rw [← hFB] at g1 g2
   refine gives_skip (w':=_) ?_ ⟨trivial,hJ.trans g3,g1,BxE.at e1 rfl g2⟩
   obtain ⟨z0,z1,z2,z3,hz⟩:=bx4 hbx
   have z0:u.cell? ⟨bb,0,none⟩=some _:=cell_of_row _ _ 0 _ _ _ hz
   have z1:u.cell? ⟨bb,1,none⟩=some _:=cell_of_row _ _ 1 _ _ _ hz
   have z2:u.cell? ⟨bb,2,none⟩=some _:=cell_of_row _ _ 2 _ _ _ hz
   have z3:u.cell? ⟨bb,3,none⟩=some _:=cell_of_row _ _ 3 _ _ _ hz
   have f0:∀ j,u.frozen? ⟨bb,j,none⟩=false:=fun j=>frozen_of_row _ _ j _ _ hz
   clear g1 g2 g3 hz hbx
   go_simp
  all_goals
   intro ρ u hp hJ hr
   have r1:ρ _=_:=hr.1
   clear hr
   have d2:=cell_b hJ c2
   have d1:=cell_b hJ p1
   refine gives_value (v:=_) (w':=u) ?_ ⟨rfl,hJ,BR.refl _,fun h=>absurd h (by decide)⟩
   go_simp
 intro f u hF hJ hU hE
 have f4:BxF 111 FB wr.heap.size (f 4) u:=hF.2.2.2.2.2.2.2.2.2.2.2.2.1
 have f5:f 5=.bool g.2:=hF.2.2.2.2.2.2.2.2.2.2.2.2.2.1
 obtain ⟨bb,e6,hbb,hbz⟩:=f4
 have hbx:u.heap[bb]?=some (.cells FB 111 (0,0)):=hE 13 _ rfl rfl bb (by rw [argsOf_store rfl,e6]; rfl)
 clear hF hU hE c2 p1
 rw [hFB] at hbx
 clear hbz hFB FB
 have HJ:=Lib.hid hJ
 have Hbx:=Lib.hid hbx
 have Hbb:=Lib.hid hbb
 clear hJ hbx hbb
 simp only [laid]
 have H1:=Lib.hid (HS.out.below HJ.out)
 go_wp2_with fail
 refine (rheld_any col1 u b bd N y t H1.out HIn.out).mono ?_
 rintro e u1 ⟨rfl,hb1⟩
 rw [Hhs.out]
 obtain ⟨hbox,hbB⟩:=held_box u1 145 hs Hlen.out
 have HT:Hid ((u1.alloc (.cells (hldV (List.replicate 32 false)) 145)).there u1.heap.size 0 (hs.map Value.bool).toArray.size):=show World.there _ _ _ _ from there_of_row (heap_alloc_new _ _) 0 _ (by rw [List.size_toArray,List.length_map,Hlen.out]; decide)
 go_upto_region 8 with (refine wpList_store_mid rfl 145 (.tmp 6) (.tmp 45) rfl u1.heap.size 0 (hs.map Value.bool).toArray rfl rfl HT.out (by rw [List.size_toArray]; exact Hs.out) Hoc.out ?_; generalize hW2:World.setCells _ _ _ _=W2)
 have hW2:(u1.alloc (.cells (hldV (List.replicate 32 false)) 145)).setCells u1.heap.size 0 (hs.map .bool)=W2:=hW2
 rw [hW2] at hbox hbB
 have hB2:=HJ.out.trans ((hb1.trans (hbB.mono hb1.size)).mono HJ.out.size)
 have H2:=Lib.hid (HS.out.below hB2)
 have HK2:Hid (Chg (Fl col1) wr W2):=show Chg _ _ _ from Chg.of_below hB2
 have Hbx2:=Lib.hid ((hb1.trans (hbB.mono hb1.size)).block _ (Array.getElem?_eq_some_iff.1 Hbx.out).1 |>.trans Hbx.out)
 have Hr2:=Lib.hid ((hB2.block _ (Array.getElem?_eq_some_iff.1 Hrow.out).1).trans Hrow.out)
 have Hbo:=Lib.hid hbox
 clear hbox hbB hW2 hb1 hB2 HT
 cases hgt:g.2 with
 |true =>
  rw [hgt] at f5
  have Hrd:Hid (t.read k a=({ t with use:=t.use+1,bufs:=useB t.bufs a.pos (t.use+1) }:St).answer k g.1.data 0):=show _=_ by unfold St.read; rw [Hg.out,hgt,if_pos rfl]
  have c9:W2.cell? ⟨b,9,none⟩=some (.int .i64 t.use):=H2.out.cell 9
  have f9:=H2.out.frozen 9
  have hw:IntKind.i64.wrap (t.use+1)=t.use+1:=by have:=Hu.out; rw [IntKind.wrap_i64]; omega
  clear hgt
  go_wp2_with fail
  have hS4:=(Same1.refl (b:=b) (w:=W2)).setCell 9 (.int .i64 (t.use+1))
  have H4:=Lib.hid (H2.out.used hS4 (n:=t.use+1) (heap_setCell_same _ _ 9 _ _ _ H2.out.row))
  have HK4:=Lib.hid (HK2.out.two (hS4.chg Hfb.out))
  have hbb:bb≠b:=by have:=Hbb.out; have:=HS.out.bl; omega
  have Hbx4:=Lib.hid ((hS4.block bb hbb).trans Hbx2.out)
  have p1:(W2.setCell ⟨b,9,none⟩ (.int .i64 (t.use+1))).cell? ⟨ba,1,none⟩=some (.int .i64 a.pos):=cell_of_row _ _ 1 _ _ _ ((hS4.block ba Hne.out).trans Hr2.out)
  have Hbb2:=Lib.hid hbb
  clear hS4 c9 f9 hw hbb
  generalize W2.setCell ⟨b,9,none⟩ (.int .i64 (t.use+1))=W4 at H4 HK4 Hbx4 p1 ⊢
  have c2:W4.cell? ⟨b,2,none⟩=some y.bufs:=H4.out.cell 2
  have c9:W4.cell? ⟨b,9,none⟩=some (.int .i64 (t.use+1)):=H4.out.cell 9
  refine wp_region_tail (n:=16) 1000 [] [] mixed [(54,fun v _=>v=(.pointer (some ⟨b,0,none⟩))),(55,fun v _=>v=(.pointer (some ⟨b,0,none⟩))),(56,fun v _=>v=(.pointer (some ⟨b,0,none⟩))),(57,fun v _=>v=(.pointer (some ⟨b,2,none⟩))),(58,fun v _=>v=y.bufs),(59,fun v _=>v=(.pointer (some ⟨ba,0,none⟩))),(60,fun v _=>v=(.pointer (some ⟨ba,0,none⟩))),(61,fun v _=>v=(.pointer (some ⟨ba,1,none⟩))),(62,fun v _=>v=(.int .i64 a.pos)),(63,fun v _=>v=(.pointer (some ⟨b,0,none⟩))),(64,fun v _=>v=(.pointer (some ⟨b,0,none⟩))),(65,fun v _=>v=(.pointer (some ⟨b,9,none⟩))),(66,fun v _=>v=(.int .i64 (t.use+1))),(67,(fun v u=>u.ownsRow W4.heap.size 111 4 v (useB t.bufs a.pos (t.use+1)).length (flatB (useB t.bufs a.pos (t.use+1))))),(68,fun v _=>v=(.pointer (some ⟨b,0,none⟩))),(69,fun v _=>v=(.pointer (some ⟨b,2,none⟩)))] (fun u=>Below W4.heap.size W4 u) (fun _ u u'=>Below u.heap.size u u') (by as_aux_lemma=>kernel_rfl) rfl rfl rfl (by as_aux_lemma=>kernel_rfl) rfl (by decide) (by as_aux_lemma=>kernel_rfl) (by as_aux_lemma=>kernel_rfl) (Below.refl _ _).drew ?st10 ?sm10 ?steps10 ?fin10
  case st10=>exact fun i hi=>by repeat' first | exact trivial | exact fun v u u' h hr=>own_below h hr | exact fun v u u' h _=>h | refine ⟨?_,?_⟩
  case sm10=>repeat' first | exact trivial | exact .inr (fun v u u' h hr=>own_below h hr) | exact .inr (fun v u u' h _=>h) | refine ⟨?_,?_⟩
  case steps10 =>
   refine ⟨?_,?_,?_,?_,?_,?_,?_,?_,?_,?_,?_,?_,?_,?a10,?_,?_,trivial⟩
   case a10 =>
    intro ρ u hp hJ hr
    have r1:ρ _=y.bufs:=hr.1
    have r2:ρ _=.int .i64 a.pos:=hr.2.1
    have r3:ρ _=.int .i64 (t.use+1):=hr.2.2.1
    clear hr
    refine gives_enter (f:=120) (args:=#[y.bufs,.int .i64 a.pos,.int .i64 (t.use+1)]) (w':=u) ?_ ((ruse_any (Im u col1) t.bufs y.bufs a.pos (t.use+1) u (H4.out.below hJ).bufs Hln.out).mono ?_)
    ·have hpf:=hp.func 120
     go_simp
    rintro e u' ⟨v2,rfl,ho2,hb2⟩
    exact ⟨_,rfl,own_lo ho2 hJ.size,hJ.trans (hb2.mono hJ.size),hb2⟩
   all_goals
    intro ρ u hp hJ hr
    have r1:ρ _=_:=hr.1
    clear hr
    have d1:=cell_b hJ c2
    have d2:=cell_b hJ p1
    have d3:=cell_b hJ c9
    refine gives_value (v:=_) (w':=u) ?_ ⟨rfl,hJ,Below.refl _ _⟩
    go_simp
  case fin10 =>
   intro f ρ u hF hJ hU hp hρ
   have f69:f 69=.pointer (some ⟨b,2,none⟩):=(hF.2.2.2.2.2.2.2.2.2.2.2.2.2.2.2.1).resolve_left (by simp)
   have f67:u.ownsRow W4.heap.size 111 4 (f 67) (useB t.bufs a.pos (t.use+1)).length (flatB (useB t.bufs a.pos (t.use+1))):=(hF.2.2.2.2.2.2.2.2.2.2.2.2.2.1).resolve_left (by simp)
   obtain ⟨A2,n2,m2,e2,en⟩:=own_slice' f67
   rw [e2,← en] at f67
   have q1:ρ (.tmp 69)=.pointer (some ⟨b,2,none⟩):=(hρ 69).trans f69
   have q2:ρ (.tmp 67)=.slice A2 n2 m2:=(hρ 67).trans e2
   have H5:=Lib.hid (H4.out.below hJ)
   have HB5:=Lib.hid hJ
   have q3:u.cell? ⟨b,2,none⟩=some y.bufs:=H5.out.cell 2
   have q4:=H5.out.frozen 2
   have Ho2:=Lib.hid f67
   have Hen:=Lib.hid en
   clear hF hU hp hρ f69 f67 hJ en e2
   refine gives_skip (w':=u.setCell ⟨b,2,none⟩ (.slice A2 n2 m2)) (by go_simp) ?_
   simp only [laid,List.take_succ_cons,List.take_zero]
   have hS5:=(Same1.refl (b:=b) (w:=u)).setCell 2 (.slice A2 n2 m2)
   have hv5:BufsAt (S0 col1) u (.slice A2 n2 m2) (useB t.bufs a.pos (t.use+1)):=bufs_of_own (fun k hk=>H4.out.s0 k hk) (Hen.out▸Ho2.out) ((HIn.out.useB a.pos (t.use+1) (by omega)).bok (by show t.use+1≤_; have:=Hu.out; omega))
   have H6:=Lib.hid (H5.out.bufd hS5 hv5 (heap_setCell_same _ _ 2 _ _ _ H5.out.row))
   have HK6:=Lib.hid ((HK4.out.two (Chg.of_below HB5.out)).two (hS5.chg Hfb.out))
   have k1:(u.setCell ⟨b,2,none⟩ (.slice A2 n2 m2)).cell? ⟨bb,1,none⟩=some (.string g.1.data) :=
    cell_of_row _ _ 1 _ _ _ ((hS5.block bb Hbb2.out).trans ((HB5.out.block _ (Array.getElem?_eq_some_iff.1 Hbx4.out).1).trans Hbx4.out))
   clear hS5 hv5 q1 q2 q3 q4 c2 c9 p1
   generalize u.setCell ⟨b,2,none⟩ (.slice A2 n2 m2)=u3 at k1 HK6 H6 ⊢
   go_wp2_with fail
   refine (ranswer_any col1 u3 b bd N _ _ k g.1.data 0 H6.out h3).mono ?_
   rintro e w4 ⟨rfl,hS7,hst7⟩
   have Hst7:=Lib.hid hst7
   have HK7:=Lib.hid (HK6.out.two (hS7.chg Hfb.out))
   clear hst7 hS7 k1
   go_wp2_with fail
   refine HT.out _ _ rfl rfl rfl (by first | rfl | go_num) ?_
   rw [Hsv.out,Hrd.out]
   exact A5.to HC.out HR.out Hst7.out HK7.out
 |false =>
  rw [hgt] at f5
  have Hrd:Hid (t.read k a=if t.heldP a.pos then t else (t.queue false a.pos noB).1):=show _=_ by unfold St.read; rw [Hg.out,hgt]; rfl
  have hp0:¬ a.pos<0:=by have:=Hlo.out; omega
  have hp32:a.pos<32:=Hlo.out.2
  have p1:W2.cell? ⟨ba,1,none⟩=some (.int .i64 a.pos):=cell_of_row _ _ 1 _ _ _ Hr2.out
  have ch:W2.cell? ⟨u1.heap.size,a.pos.toNat,none⟩=some (.bool (t.heldP a.pos)):=by
   rw [cell_of_row _ _ _ _ _ _ Hbo.out,hldV_get Hlen.out (by have:=Hlo.out; omega),Int.toNat_of_nonneg Hlo.out.1,← Hhs.out,hlOf_at t Hlo.out.1 (by have:=Hlo.out; omega)]
  clear hgt
  cases hh:t.heldP a.pos with
  |true =>
   have Hh:=Lib.hid hh
   rw [hh] at ch
   clear hh
   go_wp2_with fail
   refine HT.out _ _ rfl rfl rfl (by first | rfl | go_num) ?_
   rw [Hsv.out,Hrd.out,Hh.out,if_pos rfl]
   exact A5.to HC.out HR.out H2.out HK2.out
  |false =>
   have Hh:=Lib.hid hh
   rw [hh] at ch
   clear hh
   go_wp2_with fail
   refine (rqueue_any col1 W2 b bd N y t false a.pos noB (.slice none 0 0) H2.out (good_oks (good_app.1 HIn.out.good).1) HIn.out.wait6 ⟨Hu.out.2.2.1,by have:=Hu.out; omega⟩ HIn.out.now ⟨Ha.out.lo,Ha.out.hi⟩ noB16 ⟨Rd.nil,fun s hs=>by cases hs⟩).mono ?_
   rintro e w4 ⟨y4,rfl,hst4,hc4,hav⟩
   have Hst4:=Lib.hid hst4
   have HK4:=Lib.hid (HK2.out.two (HS.out.chg1 hc4))
   clear hst4 hc4 hav ch p1
   go_wp2_with fail
   refine HT.out _ _ rfl rfl rfl (by first | rfl | go_num) ?_
   rw [Hsv.out,Hrd.out,Hh.out,if_neg (by decide)]
   exact A5.to HC.out HR.out Hst4.out HK4.out
end Go.Proofs.YtaeadmlgffaegaaGreatDoor
namespace Go.Proofs.YtaeadmlgffaegaaGreatDoor
open Go.RowKit Go.Sort
theorem srv_write (C:Code) (Q:Exit→Act→World→Prop) (col:Nat→Nat) (w:World) (b bd N k:Nat) (a0:Act) (wr:World) (col1:Nat→Nat) (y:Sv) (t:St) (a:Ak) (ba:Nat) (h:Srv C Q col w b bd N k a0 wr col1 y t a ba) (hk1:¬ a.kind=1) (hdd:t.dead=false) (hk2:a.kind=2):C.wp Tryz.prog Q a0 wr:=by
 obtain ⟨hC,h3,z1,z2,z3,z4,hst,hch,hrec,hIn,hu,ho,ep,hto⟩:=h
 obtain ⟨f,rfl⟩:=frame_srv a0 z1 z2 z3 z4
 have HT:=Lib.hid hto
 have HS:=Lib.hid hst
 have HC:=Lib.hid hch
 have HR:=Lib.hid hrec
 have HIn:=Lib.hid hIn
 have Hu:=Lib.hid hu
 have hz:=zero_buf
 obtain ⟨j0,hj0,hy0,hy1,hy2⟩:=info_parts intInfo
 have hk3:(k:Int)<3:=by omega
 have hk0:¬ (k:Int)<0:=by omega
 have cA:wr.cell? ⟨b,11+k,none⟩=some (.pointer (some ⟨ba,0,none⟩)):=(hst.cellA h3).trans (congrArg some ep)
 obtain ⟨lv,hrow,hfa,how⟩:=hst.askc h3 ho ep
 have Hne:=Lib.hid (hst.ask_ne hfa)
 have Ha:=Lib.hid (hIn.ask k a ho)
 have Ho:=Lib.hid ho
 have Ep:=Lib.hid ep
 have Hrow:=Lib.hid hrow
 have How:=Lib.hid how
 have k0:wr.cell? ⟨ba,0,none⟩=some (.int .i64 a.kind):=cell_of_row _ _ 0 _ _ _ hrow
 have p1:wr.cell? ⟨ba,1,none⟩=some (.int .i64 a.pos):=cell_of_row _ _ 1 _ _ _ hrow
 have c2:wr.cell? ⟨b,2,none⟩=some y.bufs:=hst.cell 2
 have hgg:∃ g,getB t.bufs a.pos=g:=⟨_,rfl⟩
 obtain ⟨g,hg⟩:=hgg
 have Hg:=Lib.hid hg
 have Hfb:Hid (Fl col1 b):=show _∧_ from ⟨by rw [hst.cb]; decide,by rw [hst.cb]; decide⟩
 have Hln:Hid (t.bufs.length≤65536):=show _≤_ by have:=hIn.len8; omega
 have Hlo:Hid (0≤a.pos∧a.pos<32):=show _∧_ by have:=Ha.out.lo; have:=Ha.out.hi; omega
 obtain ⟨hs,hhs⟩:∃ l,hlOf t=l:=⟨_,rfl⟩
 have hlen:hs.length=32:=hhs▸hlOf_len t
 have Hhs:=Lib.hid hhs
 have Hlen:=Lib.hid hlen
 have hC:=Option.some.inj (Eq.symm hC)
 subst hC
 clear z1 z2 z3 z4 hst hch hrec hIn hu hto hhs hlen ho ep hrow how hfa hg
 have hk1b:(a.kind == 1)=false:=by simp only [beq_eq_false_iff_ne]; exact hk1
 have c20:wr.cell? ⟨b,20,none⟩=some (.bool t.dead):=HS.out.cell 20
 have Hdd:=Lib.hid hdd
 rw [hdd] at c20
 clear hdd
 have Hsv:Hid (t.serve1 k=t.write k a):=show _=_ from serve1_write Ho.out hk2
 rw [hk2] at k0
 clear hk2 hk1 hk1b
 go_wp2_with fail
 clear cA k0 c20
 obtain ⟨FB,hFB⟩:∃ F:Array Value,F=#[.int .i64 g.1.pos,.string g.1.data,.bool g.1.dirty,.int .i64 g.1.used]:=⟨_,rfl⟩
 refine wp_region_ev mixed [(103,fun v _=>v=(.pointer (some ⟨b,0,none⟩))),(104,fun v _=>v=(.pointer (some ⟨b,0,none⟩))),(105,fun v _=>v=(.pointer (some ⟨b,2,none⟩))),(106,fun v _=>v=y.bufs),(107,fun v _=>v=(.pointer (some ⟨ba,0,none⟩))),(108,fun v _=>v=(.pointer (some ⟨ba,0,none⟩))),(109,fun v _=>v=(.pointer (some ⟨ba,1,none⟩))),(110,fun v _=>v=(.int .i64 a.pos)),(111,fun v _=>v=(.tuple #[.agg #[.int .i64 g.1.pos,.string g.1.data,.bool g.1.dirty,.int .i64 g.1.used],.bool g.2])),(102,fun v _=>v=(.tuple #[.agg #[.int .i64 g.1.pos,.string g.1.data,.bool g.1.dirty,.int .i64 g.1.used],.bool g.2])),(112,fun v _=>v=(.agg #[.int .i64 g.1.pos,.string g.1.data,.bool g.1.dirty,.int .i64 g.1.used])),(113,fun v _=>v=(.bool g.2)),(7,BxF 111 FB wr.heap.size),(8,fun v _=>v=(.bool g.2))] (fun u=>Below wr.heap.size wr u) (BR 111 FB wr.heap.size) (BxE 111 FB 13) (by as_aux_lemma=>kernel_rfl) rfl (by decide) (Below.refl _ _).drew ?st103 (fun k vs u u' h hr=>h.step hr) ?steps103 ?fin103
 case st103=>repeat' first | exact trivial | exact fun v u u' h hr=>h.step hr | exact fun v u u' h _=>h | refine ⟨?_,?_⟩
 case steps103 =>
  refine ⟨?_,?_,?_,?_,?_,?_,?_,?_,?a103,?_,?_,?_,?b103,?c103,?_,trivial⟩
  case a103 =>
   intro ρ u hp hJ hr
   have r1:ρ _=y.bufs:=hr.1
   have r2:ρ _=.int .i64 a.pos:=hr.2.1
   clear hr
   refine gives_enter (f:=81) (args:=#[y.bufs,.int .i64 a.pos]) (w':=u) ?_ ((rget_st HS.out HIn.out _ Hg.out u hJ).mono ?_)
   ·have hpf:=hp.func 81
    go_simp
   rintro e u' ⟨rfl,hb⟩
   exact ⟨_,rfl,rfl,hJ.trans (hb.mono hJ.size),BR.below hb,fun h=>absurd h (by decide)⟩
  case b103 =>
   intro ρ u hp hJ hr
   clear hr
   refine gives_value (v:=.pointer (some ⟨u.heap.size,0,none⟩)) (w':=u.alloc (.cells #[.int .i64 0,.string ⟨#[]⟩,.bool false,.int .i64 0] 111)) ?_ ⟨⟨_,rfl,hJ.size,⟨_,by rw [hFB]; rfl,heap_alloc_new _ _⟩⟩,hJ.trans (((Below.refl _ _).alloc (Nat.le_refl _) _).mono hJ.size),BR.below ((Below.refl _ _).alloc (Nat.le_refl _) _),fun h=>absurd h (by decide)⟩
   go_simp
  case c103 =>
   intro ρ u hp hJ hr
   have r1:BxF 111 FB wr.heap.size (ρ (.tmp 7)) u:=hr.1
   have r2:ρ _=.agg #[.int .i64 g.1.pos,.string g.1.data,.bool g.1.dirty,.int .i64 g.1.used]:=hr.2.1
   clear hr
   obtain ⟨bb,e1,hbb,hbx⟩:=r1
   rw [show FB.size=4 by rw [hFB]; rfl] at hbx
   obtain ⟨g1,g2,g3⟩:=bx_put4 (v0:=.int .i64 g.1.pos) (v1:=.string g.1.data) (v2:=.bool g.1.dirty) (v3:=.int .i64 g.1.used) hbb hbx _ rfl
   rw [← hFB] at g1 g2
   refine gives_skip (w':=_) ?_ ⟨trivial,hJ.trans g3,g1,BxE.at e1 rfl g2⟩
   obtain ⟨z0,z1,z2,z3,hz⟩:=bx4 hbx
   have z0:u.cell? ⟨bb,0,none⟩=some _:=cell_of_row _ _ 0 _ _ _ hz
   have z1:u.cell? ⟨bb,1,none⟩=some _:=cell_of_row _ _ 1 _ _ _ hz
   have z2:u.cell? ⟨bb,2,none⟩=some _:=cell_of_row _ _ 2 _ _ _ hz
   have z3:u.cell? ⟨bb,3,none⟩=some _:=cell_of_row _ _ 3 _ _ _ hz
   have f0:∀ j,u.frozen? ⟨bb,j,none⟩=false:=fun j=>frozen_of_row _ _ j _ _ hz
   clear g1 g2 g3 hz hbx
   go_simp
  all_goals
   intro ρ u hp hJ hr
   have r1:ρ _=_:=hr.1
   clear hr
   have d2:=cell_b hJ c2
   have d1:=cell_b hJ p1
   refine gives_value (v:=_) (w':=u) ?_ ⟨rfl,hJ,BR.refl _,fun h=>absurd h (by decide)⟩
   go_simp
 intro f u hF hJ hU hE
 have f4:BxF 111 FB wr.heap.size (f 7) u:=hF.2.2.2.2.2.2.2.2.2.2.2.2.1
 have f5:f 8=.bool g.2:=hF.2.2.2.2.2.2.2.2.2.2.2.2.2.1
 obtain ⟨bb,e6,hbb,hbz⟩:=f4
 have hbx:u.heap[bb]?=some (.cells FB 111 (0,0)):=hE 13 _ rfl rfl bb (by rw [argsOf_store rfl,e6]; rfl)
 clear hF hU hE c2 p1
 rw [hFB] at hbx
 clear hbz hFB FB
 have HJ:=Lib.hid hJ
 have Hbx:=Lib.hid hbx
 have Hbb:=Lib.hid hbb
 clear hJ hbx hbb
 simp only [laid]
 have H1:=Lib.hid (HS.out.below HJ.out)
 have z2:u.cell? ⟨bb,2,none⟩=some (.bool g.1.dirty):=cell_of_row _ _ 2 _ _ _ Hbx.out
 have c2:u.cell? ⟨b,2,none⟩=some y.bufs:=H1.out.cell 2
 have Hst:Hid (St.still t.bufs a.pos=(g.2 && g.1.dirty)):=show _=_ by unfold St.still; rw [Hg.out]
 go_upto_region 18 with fail
 simp only [Act.put,List.setIfInBounds_toArray,List.set_cons_succ,List.set_cons_zero]
 rw [e6,f5]
 go_cut [8,128] from 15 to 221 (fun _ v wx=>v=.bool (!(g.2 && g.1.dirty) && decide ((6:Int)≤(dirtyB t.bufs:Int)))∧Hid (Below u.heap.size u wx))
 case first =>
  clear f5
  cases hg2:g.2 with
  |true =>
   have Hg2:=Lib.hid hg2
   cases hgd:g.1.dirty with
   |true =>
    have Hgd:=Lib.hid hgd
    rw [hgd] at z2
    clear hg2 hgd
    go_wp2_with fail
    go_meet
    case rel=>exact ⟨by simp [Hg2.out,Hgd.out],Below.refl _ _⟩
   |false =>
    have Hgd:=Lib.hid hgd
    rw [hgd] at z2
    clear hg2 hgd
    go_wp2_with (refine (rdirty_any _ t.bufs y.bufs _ H1.out.bufs Hln.out).mono ?_; rintro e u' ⟨rfl,hb1⟩)
    go_meet
    case rel=>exact ⟨by simp [Hg2.out,Hgd.out],hb1⟩
  |false =>
   have Hg2:=Lib.hid hg2
   clear hg2 z2
   go_wp2_with (refine (rdirty_any _ t.bufs y.bufs _ H1.out.bufs Hln.out).mono ?_; rintro e u' ⟨rfl,hb1⟩)
   go_meet
   case rel=>exact ⟨by simp [Hg2.out],hb1⟩
 case rest =>
  obtain ⟨hv,HB2⟩:=hcut
  subst hv
  have H2:=Lib.hid (H1.out.below HB2.out)
  have HBw:Hid (Below wr.heap.size wr wc):=show Below _ _ _ from HJ.out.trans (HB2.out.mono HJ.out.size)
  have Hr2:=Lib.hid ((HBw.out.block _ (Array.getElem?_eq_some_iff.1 Hrow.out).1).trans Hrow.out)
  clear z2 c2 Hbx Hbb
  cases hfull:(!(g.2 && g.1.dirty) && decide ((6:Int)≤(dirtyB t.bufs:Int))) with
  |true =>
   have Hwr:Hid (t.write k a=t):=show _=_ from write_full Hdd.out (by rw [Hst.out,← hfull]; congr 1; exact decide_eq_decide.2 (by omega))
   clear hfull
   go_wp2_with fail
   refine HT.out _ _ rfl rfl rfl (by first | rfl | go_num) ?_
   rw [Hsv.out,Hwr.out]
   exact A5.to HC.out HR.out H2.out (Chg.of_below HBw.out)
  |false =>
   have Hwf:Hid ((!St.still t.bufs a.pos && decide (6≤dirtyB t.bufs))=false):=show _=_ by rw [Hst.out,← hfull]; congr 1; exact decide_eq_decide.2 (by omega)
   clear hfull
   have Hdl:Hid ((∃ e,atB t.bufs a.pos=some (e,true))∨dirtyB t.bufs<6):=show _∨_ by
    have h:=Hwf.out
    cases hs:St.still t.bufs a.pos with
    |true=>exact .inl (HIn.out.still_at.1 hs)
    |false=>rw [hs] at h; right; simpa using h
   have c9:wc.cell? ⟨b,9,none⟩=some (.int .i64 t.use):=H2.out.cell 9
   have f9:=H2.out.frozen 9
   have hw:IntKind.i64.wrap (t.use+1)=t.use+1:=by have:=Hu.out; rw [IntKind.wrap_i64]; omega
   go_wp2_with fail
   have hS4:=(Same1.refl (b:=b) (w:=wc)).setCell 9 (.int .i64 (t.use+1))
   have H4:=Lib.hid (H2.out.used hS4 (n:=t.use+1) (heap_setCell_same _ _ 9 _ _ _ H2.out.row))
   have HK4:=Lib.hid ((Chg.of_below HBw.out).two (hS4.chg Hfb.out))
   have hr4:=(hS4.block ba Hne.out).trans Hr2.out
   have HI4:=Lib.hid HIn.out.used1
   clear hS4 c9 f9 hw
   generalize wc.setCell ⟨b,9,none⟩ (.int .i64 (t.use+1))=W4 at H4 HK4 hr4 ⊢
   have c2:W4.cell? ⟨b,2,none⟩=some y.bufs:=H4.out.cell 2
   have c9:W4.cell? ⟨b,9,none⟩=some (.int .i64 (t.use+1)):=H4.out.cell 9
   have p1:W4.cell? ⟨ba,1,none⟩=some (.int .i64 a.pos):=cell_of_row _ _ 1 _ _ _ hr4
   have p2:W4.cell? ⟨ba,2,none⟩=some (.string a.data):=cell_of_row _ _ 2 _ _ _ hr4
   obtain ⟨o,ho⟩:∃ o,putB t.bufs ⟨a.pos,a.data,true,t.use+1⟩ t.heldP=o:=⟨_,rfl⟩
   have Hpo:=Lib.hid ho
   clear ho hr4
   refine wp_region_ev mixed [(137,fun v _=>v=(.pointer (some ⟨b,0,none⟩))),(138,fun v _=>v=(.pointer (some ⟨b,0,none⟩))),(139,fun v _=>v=(.pointer (some ⟨b,2,none⟩))),(140,fun v _=>v=y.bufs),(141,fun v _=>v=(.pointer (some ⟨ba,0,none⟩))),(142,fun v _=>v=(.pointer (some ⟨ba,0,none⟩))),(143,fun v _=>v=(.pointer (some ⟨ba,1,none⟩))),(144,fun v _=>v=(.int .i64 a.pos)),(145,fun v _=>v=(.pointer (some ⟨ba,0,none⟩))),(146,fun v _=>v=(.pointer (some ⟨ba,0,none⟩))),(147,fun v _=>v=(.pointer (some ⟨ba,2,none⟩))),(148,fun v _=>v=(.string a.data)),(149,fun v _=>v=(.pointer (some ⟨b,0,none⟩))),(150,fun v _=>v=(.pointer (some ⟨b,0,none⟩))),(151,fun v _=>v=(.pointer (some ⟨b,9,none⟩))),(152,fun v _=>v=(.int .i64 (t.use+1))),(153,fun v _=>v=(.agg #[.int .i64 a.pos,.string a.data,.bool true,.int .i64 (t.use+1)])),(154,fun v _=>v=(.pointer (some ⟨b,0,none⟩))),(155,fun v _=>v=(.agg (hldV hs))),(156,(fun v u=>∃ v1,v=.tuple #[v1,.int .i64 (pE o)]∧(∀ m,o=some m→u.ownsRow W4.heap.size 111 4 v1 m.length (flatB m)))),(136,(fun v u=>∃ v1,v=.tuple #[v1,.int .i64 (pE o)]∧(∀ m,o=some m→u.ownsRow W4.heap.size 111 4 v1 m.length (flatB m)))),(157,(fun v u=>(∀ m,o=some m→u.ownsRow W4.heap.size 111 4 v m.length (flatB m)))),(158,fun v _=>v=(.int .i64 (pE o))),(9,(fun v u=>(∀ m,o=some m→u.ownsRow W4.heap.size 111 4 v m.length (flatB m)))),(10,fun v _=>v=(.int .i64 (pE o)))] (fun u=>Below W4.heap.size W4 u) (fun u u'=>Below u.heap.size u u') (fun _ _ _=>True) (by as_aux_lemma=>kernel_rfl) rfl (by decide) (Below.refl _ _).drew ?st20 (fun _ _ _ _ _ _=>trivial) ?steps20 ?fin20
   case st20=>repeat' first | exact trivial | exact fun v u u' h hr m hm=>own_below (h m hm) hr | (rintro v u u' ⟨v1,e,h⟩ hr; exact ⟨v1,e,fun m hm=>own_below (h m hm) hr⟩) | exact fun v u u' h _=>h | refine ⟨?_,?_⟩
   case steps20 =>
    refine ⟨?_,?_,?_,?_,?_,?_,?_,?_,?_,?_,?_,?_,?_,?_,?_,?_,?_,?_,?a20,?b20,?c20,?d20,?e20,?g20,?_,trivial⟩
    case a20 =>
     intro ρ u hp hJ hr
     have r1:ρ _=.pointer (some ⟨b,0,none⟩):=hr.1
     clear hr
     refine gives_enter (f:=80) (args:=#[.pointer (some ⟨b,0,none⟩)]) (w':=u) ?_ ((rheld_any col1 u b bd N y _ (H4.out.below hJ) HI4.out).mono ?_)
     ·have hpf:=hp.func 80
      go_simp
     rintro e u' ⟨rfl,hb⟩
     exact ⟨_,rfl,show Value.agg (hldV (hlOf t))=_ by rw [Hhs.out],hJ.trans (hb.mono hJ.size),hb,trivial⟩
    case b20 =>
     intro ρ u hp hJ hr
     have r1:ρ _=y.bufs:=hr.1
     have r2:ρ _=(.agg #[.int .i64 a.pos,.string a.data,.bool true,.int .i64 (t.use+1)]):=hr.2.1
     have r3:ρ _=.agg (hldV hs):=hr.2.2.1
     clear hr
     refine gives_enter (f:=90) (args:=#[y.bufs,(.agg #[.int .i64 a.pos,.string a.data,.bool true,.int .i64 (t.use+1)]),.agg (hldV hs)]) (w':=u) ?_ ((show Calls _ _ #[y.bufs,(.agg #[.int .i64 a.pos,.string a.data,.bool true,.int .i64 (t.use+1)]),.agg (hldV hs)] u (RetPutB o u) from Hhs.out▸rput_st H4.out HI4.out ⟨a.pos,a.data,true,t.use+1⟩ Hpo.out u hJ).mono ?_)
     ·have hpf:=hp.func 90
      go_simp
     rintro e u' ⟨v2,rfl,ho2,hb2⟩
     exact ⟨_,rfl,⟨v2,rfl,fun m hm=>own_lo (ho2 m hm) hJ.size⟩,hJ.trans (hb2.mono hJ.size),hb2,trivial⟩
    case c20 =>
     intro ρ u hp hJ hr
     obtain ⟨v1,r1,h1⟩:=hr.1
     refine gives_value (v:=.tuple #[v1,.int .i64 (pE o)]) (w':=u) ?_ ⟨⟨v1,rfl,h1⟩,hJ,Below.refl _ _,trivial⟩
     clear hr h1
     go_simp
    case d20 =>
     intro ρ u hp hJ hr
     obtain ⟨v1,r1,h1⟩:=hr.1
     refine gives_value (v:=v1) (w':=u) ?_ ⟨h1,hJ,Below.refl _ _,trivial⟩
     clear hr h1
     go_simp
    case e20 =>
     intro ρ u hp hJ hr
     obtain ⟨v1,r1,h1⟩:=hr.1
     refine gives_value (v:=.int .i64 (pE o)) (w':=u) ?_ ⟨rfl,hJ,Below.refl _ _,trivial⟩
     clear hr h1
     go_simp
    case g20 =>
     intro ρ u hp hJ hr
     refine gives_value (v:=ρ (.tmp 157)) (w':=u) ?_ ⟨hr.1,hJ,Below.refl _ _,trivial⟩
     clear hr
     go_simp
    all_goals
     intro ρ u hp hJ hr
     have r1:ρ _=_:=hr.1
     try have r2:ρ _=_:=hr.2.1
     try have r3:ρ _=_:=hr.2.2.1
     clear hr
     have d1:=cell_b hJ c2
     have d2:=cell_b hJ p1
     have d3:=cell_b hJ p2
     have d4:=cell_b hJ c9
     have d5:=hp.const (.bool true)
     refine gives_value (v:=_) (w':=u) ?_ ⟨rfl,hJ,Below.refl _ _,trivial⟩
     go_simp
   case fin20 =>
    intro f u hF hJ hU hE
    have f10:f 10=.int .i64 (pE o):=hF.2.2.2.2.2.2.2.2.2.2.2.2.2.2.2.2.2.2.2.2.2.2.2.2.1
    have f9:(∀ m,o=some m→u.ownsRow W4.heap.size 111 4 (f 9) m.length (flatB m)):=hF.2.2.2.2.2.2.2.2.2.2.2.2.2.2.2.2.2.2.2.2.2.2.2.1
    have HJ4:=Lib.hid hJ
    have H5:=Lib.hid (H4.out.below hJ)
    have HK5:=Lib.hid (HK4.out.two (Chg.of_below hJ))
    clear hF hU hE hJ c2 c9 p1 p2
    simp only [laid]
    cases o with
    |none =>
     have Hwr:=Lib.hid (write_none (c:=k) Hdd.out Hwf.out Hpo.out)
     have f10:f 10=.int .i64 7:=f10
     clear f9
     go_wp2_with fail
     refine HT.out _ _ rfl rfl rfl (by first | rfl | go_num) ?_
     rw [Hsv.out,Hwr.out]
     exact A5.to HC.out HR.out H5.out HK5.out
    |some m =>
     have Hwr:=Lib.hid (write_some (c:=k) Hdd.out Hwf.out Hpo.out)
     have f10:f 10=.int .i64 0:=f10
     have ho2:=f9 m rfl
     obtain ⟨A2,n2,m2,e2,en⟩:=own_slice' ho2
     rw [e2,← en] at ho2
     have Ho2:=Lib.hid ho2
     have Hen:=Lib.hid en
     have q3:u.cell? ⟨b,2,none⟩=some y.bufs:=H5.out.cell 2
     have q4:=H5.out.frozen 2
     clear f9 ho2 en
     go_wp2_with fail
     have hI5:=HIn.out.putB Hpo.out ⟨Ha.out.lo,Ha.out.hi⟩ (by have:=Ha.out.size; simp only; omega) (show t.use≤t.use+1 by omega) (by have:=HIn.out.use0; simp only; omega) (fun _=>Hdl.out) (.inl rfl)
     have hS5:=(Same1.refl (b:=b) (w:=u)).setCell 2 (.slice A2 n2 m2)
     have hv5:BufsAt (S0 col1) u (.slice A2 n2 m2) m:=bufs_of_own (fun k hk=>H4.out.s0 k hk) (Hen.out▸Ho2.out) (hI5.bok (by show t.use+1≤_; have:=Hu.out; omega))
     have H6:=Lib.hid (H5.out.bufd hS5 hv5 (heap_setCell_same _ _ 2 _ _ _ H5.out.row))
     have HK6:=Lib.hid (HK5.out.two (hS5.chg Hfb.out))
     clear hS5 hv5 hI5 q3 q4
     generalize u.setCell ⟨b,2,none⟩ (.slice A2 n2 m2)=u3 at HK6 H6 ⊢
     try go_wp2_with fail
     refine (ranswer_any col1 u3 b bd N _ _ k noB 0 H6.out h3).mono ?_
     rintro e w4 ⟨rfl,hS7,hst7⟩
     have Hst7:=Lib.hid hst7
     have HK7:=Lib.hid (HK6.out.two (hS7.chg Hfb.out))
     clear hst7 hS7
     go_wp2_with fail
     refine HT.out _ _ rfl rfl rfl (by first | rfl | go_num) ?_
     rw [Hsv.out,Hwr.out]
     exact A5.to HC.out HR.out Hst7.out HK7.out
end Go.Proofs.YtaeadmlgffaegaaGreatDoor
