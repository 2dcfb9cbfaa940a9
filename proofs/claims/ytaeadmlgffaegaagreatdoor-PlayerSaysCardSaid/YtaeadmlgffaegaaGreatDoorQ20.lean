/- read: at hand, or asked of the disk. -/
import Derived.Test.YtaeadmlgffaegaaGreatDoorQ19
import Derived.Lib.Overlaps
import Derived.Laws.CopyRow
import Derived.Laws.Externs
set_option linter.unusedSimpArgs false
set_option linter.unusedVariables false
set_option maxRecDepth 100000
set_option maxHeartbeats 8000000
namespace Go.Proofs.YtaeadmlgffaegaaGreatDoor
open Go.RowKit Go.Sort
theorem StAt.askc {T:Tys} {col:Nat→Nat} {w:World} {b bd N c:Nat} {x:Sv} {s:St} {a:Ak} {ba:Nat} (h:StAt T col w b bd N x s) (hc:c<3) (ha:s.askAt c=some a) (hv:x.av c=.pointer (some ⟨ba,0,none⟩)) :
  ∃ lv,w.heap[ba]?=some (.cells #[.int .i64 a.kind,.int .i64 a.pos,.string a.data,lv] T.A (0,0))∧Fa col c ba∧Ow (Fa col c) w 3 1 lv a.left.length (a.left.map (.int .i64)):=by
 have:=h.ask c hc
 rw [ha] at this
 obtain ⟨ba',lv,h1,h2,h3,h4⟩:=this
 rw [hv] at h1
 cases h1
 exact ⟨lv,h3,h2,h4⟩
theorem get_st {T:Tys} {col:Nat→Nat} {w:World} {b bd N:Nat} {x:Sv} {s:St} (h:StAt T col w b bd N x s) (hI:Inv s) (p:Int) (w':World) (hb:Below w.heap.size w w') :
  Calls Tryz.prog 59 #[x.bufs,.int .i64 p] w' (Ret (.tuple #[bfV (getB s.bufs p).1,.bool (getB s.bufs p).2]) w'):=get_any _ _ _ p _ (h.bufs.below hb) hI.rises (by have:=hI.len8; omega)
theorem Inv.bok {s:St} (h:Inv s) (hu:s.use≤900000001):∀ b ∈ s.bufs,BfOk b:=fun b hb=>by
 have h1:=h.inb b hb
 have h2:=h.used b hb
 have h3:=h.size b hb
 exact ⟨by unfold i64; omega,by unfold i64; omega,by unfold maxLen; omega⟩
theorem StAt.bufd {T:Tys} {col:Nat→Nat} {w w':World} {b bd N:Nat} {x:Sv} {s:St} (h:StAt T col w b bd N x s) (hb:Same1 b w w') {v:Value} {l:List Bf} (hv:BufsAt (S0 col) w v l) (hrow:w'.heap[b]?=some (.cells (({ x with bufs:=v }:Sv).row { s with bufs:=l } bd) T.S (0,0))) :
  StAt T col w' b bd N { x with bufs:=v } { s with bufs:=l }:=by
 refine h.turn1 hb hrow rfl rfl rfl rfl (hv.lt.more (fun k hk=>⟨hk.2,hk.1⟩)) h.wait h.asks (fun c hc=>?_) h.done h.errs
 have:=h.ask c hc
 match c,hc with | 0,_=>exact this | 1,_=>exact this | 2,_=>exact this
theorem StAt.ask_ne {T:Tys} {col:Nat→Nat} {w:World} {b bd N c ba:Nat} {x:Sv} {s:St} (h:StAt T col w b bd N x s) (hf:Fa col c ba):ba≠b:=fun e=>by
 have h1:col ba=5+c:=hf
 rw [e,h.cb] at h1
 omega
theorem read_any (col:Nat→Nat) (w:World) (b bd N c:Nat) (x:Sv) (s:St) (a:Ak) (ba:Nat) (h:StAt Ts col w b bd N x s) (hI:Inv s) (hu:s.use≤900000000∧s.tag≤900000000) (hc:c<3) (ha:s.askAt c=some a) (hv:x.av c=.pointer (some ⟨ba,0,none⟩)) :
  Calls Tryz.prog 94 #[.pointer (some ⟨b,0,none⟩),.int .i64 (c:Int),.pointer (some ⟨ba,0,none⟩)] w (Ret2 Ts col w b bd N x (s.read c a) (.tuple #[])):=by
 obtain ⟨lv,hrow,hfa,_⟩:=h.askc hc ha hv
 have Hne:=Lib.hid (h.ask_ne hfa)
 have Hbl:=Lib.hid h.bl
 have Hs0:=Lib.hid h.s0
 clear hfa
 have H:=Lib.hid h
 have HI:=Lib.hid hI
 have Ha:=Lib.hid (hI.ask c a ha)
 have c2:w.cell? ⟨b,2,none⟩=some x.bufs:=h.cell 2
 have p1:w.cell? ⟨ba,1,none⟩=some (.int .i64 a.pos):=cell_of_row _ _ 1 _ _ _ hrow
 have Hrow:=Lib.hid hrow
 clear h hI ha hrow hv
 go_enter Tryz.func94,Tryz.ntmps94
 go_wp2_with fail
 have hz:=zero_buf
 obtain ⟨FB,hFB⟩:∃ F:Array Value,F=#[.int .i64 (getB s.bufs a.pos).1.pos,.string (getB s.bufs a.pos).1.data,.bool (getB s.bufs a.pos).1.dirty,.int .i64 (getB s.bufs a.pos).1.used]:=⟨_,rfl⟩
 refine wp_region_ev mixed [(9,fun v _=>v=(.pointer (some ⟨b,0,none⟩))),(10,fun v _=>v=(.pointer (some ⟨b,0,none⟩))),(11,fun v _=>v=(.pointer (some ⟨b,2,none⟩))),(12,fun v _=>v=x.bufs),(13,fun v _=>v=(.pointer (some ⟨ba,0,none⟩))),(14,fun v _=>v=(.pointer (some ⟨ba,0,none⟩))),(15,fun v _=>v=(.pointer (some ⟨ba,1,none⟩))),(16,fun v _=>v=(.int .i64 a.pos)),(17,fun v _=>v=(.tuple #[.agg #[.int .i64 (getB s.bufs a.pos).1.pos,.string (getB s.bufs a.pos).1.data,.bool (getB s.bufs a.pos).1.dirty,.int .i64 (getB s.bufs a.pos).1.used],.bool (getB s.bufs a.pos).2])),(8,fun v _=>v=(.tuple #[.agg #[.int .i64 (getB s.bufs a.pos).1.pos,.string (getB s.bufs a.pos).1.data,.bool (getB s.bufs a.pos).1.dirty,.int .i64 (getB s.bufs a.pos).1.used],.bool (getB s.bufs a.pos).2])),(18,fun v _=>v=(.agg #[.int .i64 (getB s.bufs a.pos).1.pos,.string (getB s.bufs a.pos).1.data,.bool (getB s.bufs a.pos).1.dirty,.int .i64 (getB s.bufs a.pos).1.used])),(19,fun v _=>v=(.bool (getB s.bufs a.pos).2)),(6,BxF 111 FB w.heap.size),(7,fun v _=>v=(.bool (getB s.bufs a.pos).2))] (fun u=>Below w.heap.size w u) (BR 111 FB w.heap.size) (BxE 111 FB 13) (by kernel_rfl) rfl (by decide) (Below.refl _ _).drew ?st (fun k vs u u' h hr=>h.step hr) ?steps ?fin
 case st=>exact ⟨fun v u u' h _=>h,fun v u u' h _=>h,fun v u u' h _=>h,fun v u u' h _=>h,fun v u u' h _=>h,fun v u u' h _=>h,fun v u u' h _=>h,fun v u u' h _=>h,fun v u u' h _=>h,fun v u u' h _=>h,fun v u u' h _=>h,fun v u u' h _=>h,fun v u u' h hr=>h.step hr,fun v u u' h _=>h,trivial⟩
 case steps =>
  refine ⟨?_,?_,?_,?_,?_,?_,?_,?_,?_,?_,?_,?_,?_,?_,?_,trivial⟩
  all_goals
   intro ρ u hp hJ hr
   try
    have r1:ρ _=_:=hr.1
    clear hr
    have c2:=cell_b hJ c2
    have p1:=cell_b hJ p1
    refine gives_value (v:=_) (w':=u) ?_ ⟨rfl,hJ,BR.refl _,fun h=>absurd h (by decide)⟩
    go_simp
    done
  ·have r1:ρ (.tmp 12)=x.bufs:=hr.1
   have r2:ρ (.tmp 16)=(.int .i64 a.pos):=hr.2.1
   clear hr
   refine gives_enter (f:=59) (args:=#[x.bufs,.int .i64 a.pos]) (w':=u) ?_ ((get_st H.out HI.out a.pos u hJ).mono ?_)
   ·have hpf:=hp.func 59
    go_simp
   rintro e u' ⟨rfl,hb⟩
   exact ⟨_,rfl,rfl,hJ.trans (hb.mono hJ.size),BR.below hb,fun h=>absurd h (by decide)⟩
  ·clear hr
   refine gives_value (v:=.pointer (some ⟨u.heap.size,0,none⟩)) (w':=u.alloc (.cells #[.int .i64 0,.string ⟨#[]⟩,.bool false,.int .i64 0] 111)) ?_ ⟨⟨_,rfl,hJ.size,⟨_,by rw [hFB]; rfl,heap_alloc_new _ _⟩⟩,hJ.trans (((Below.refl _ _).alloc (Nat.le_refl _) _).mono hJ.size),BR.below ((Below.refl _ _).alloc (Nat.le_refl _) _),fun h=>absurd h (by decide)⟩
   go_simp
  ·have r1:BxF 111 FB w.heap.size (ρ (.tmp 6)) u:=hr.1
   have r2:ρ (.tmp 18)=(.agg #[.int .i64 (getB s.bufs a.pos).1.pos,.string (getB s.bufs a.pos).1.data,.bool (getB s.bufs a.pos).1.dirty,.int .i64 (getB s.bufs a.pos).1.used]):=hr.2.1
   clear hr
   obtain ⟨bb,e1,hbb,hbx⟩:=r1
   rw [show FB.size=4 by rw [hFB]; rfl] at hbx
   obtain ⟨g1,g2,g3⟩:=bx_put4 (v0:=.int .i64 (getB s.bufs a.pos).1.pos) (v1:=.string (getB s.bufs a.pos).1.data) (v2:=.bool (getB s.bufs a.pos).1.dirty) (v3:=.int .i64 (getB s.bufs a.pos).1.used) hbb hbx _ rfl
   rw [← hFB] at g1 g2
   refine gives_skip (w':=_) ?_ ⟨trivial,hJ.trans g3,g1,BxE.at e1 rfl g2⟩
   obtain ⟨z0,z1,z2,z3,hz⟩:=bx4 hbx
   have z0:u.cell? ⟨bb,0,none⟩=some _:=cell_of_row _ _ 0 _ _ _ hz
   have z1:u.cell? ⟨bb,1,none⟩=some _:=cell_of_row _ _ 1 _ _ _ hz
   have z2:u.cell? ⟨bb,2,none⟩=some _:=cell_of_row _ _ 2 _ _ _ hz
   have z3:u.cell? ⟨bb,3,none⟩=some _:=cell_of_row _ _ 3 _ _ _ hz
   have f0:∀ j,u.frozen? ⟨bb,j,none⟩=false:=fun j=>frozen_of_row _ _ j _ _ hz
   clear g1 g2 g3 hz hbx
   go_simp
 intro f u hF hJ hU hE
 have f6:BxF 111 FB w.heap.size (f 6) u:=hF.2.2.2.2.2.2.2.2.2.2.2.2.1
 have f7:f 7=(.bool (getB s.bufs a.pos).2):=hF.2.2.2.2.2.2.2.2.2.2.2.2.2.1
 obtain ⟨bb,e6,hbb,hbz⟩:=f6
 have hbx:u.heap[bb]?=some (.cells FB 111 (0,0)):=hE 13 _ rfl rfl bb (by rw [argsOf_store rfl,e6]; rfl)
 clear hF hU hE c2 p1
 rw [hFB] at hbx
 clear hbz hFB FB
 have HJ:=Lib.hid hJ
 have Hbx:=Lib.hid hbx
 have Hbb:=Lib.hid hbb
 clear hJ hbx hbb
 simp only [laid]
 have H1:=Lib.hid (H.out.below HJ.out)
 have H1d:=Lib.hid (H1.out.below (Below.refl _ _).drew)
 have Hr1:Hid (u.heap[ba]?=_):=show _=_ from (HJ.out.block _ (Array.getElem?_eq_some_iff.1 Hrow.out).1).trans Hrow.out
 have Hln:Hid (s.bufs.length≤65536):=show _≤_ by have:=HI.out.len8; omega
 cases hg:(getB s.bufs a.pos).2 with
 |true =>
  rw [hg] at f7
  have Hg:=Lib.hid hg
  have Hsr:Hid (s.read c a=({ s with use:=s.use+1,bufs:=useB s.bufs a.pos (s.use+1) }:St).answer c (getB s.bufs a.pos).1.data 0):=show _=_ by unfold St.read; rw [hg,if_pos rfl]
  have Hus:Hid (0≤s.use∧s.use≤1000000000):=show _∧_ from ⟨HI.out.use0,by omega⟩
  have Hub:=Lib.hid hu
  clear hg hu
  have c2:u.cell? ⟨b,2,none⟩=some x.bufs:=H1.out.cell 2
  have p1:u.cell? ⟨ba,1,none⟩=some (.int .i64 a.pos):=cell_of_row _ _ 1 _ _ _ Hr1.out
  go_wp2_with fail
  go_region_law
   (first
    |(go_simp
      go_at_call 69
      refine (used_any col u.drew b bd N x s H1d.out Hus.out).mono ?_
      rintro e u1 ⟨rfl,hS1,hst1⟩
      have q2:u1.cell? ⟨b,2,none⟩=some x.bufs:=hst1.cell 2
      have q1:u1.cell? ⟨ba,1,none⟩=some (.int .i64 a.pos):=cell_of_row _ _ 1 _ _ _ ((hS1.block ba Hne.out).trans Hr1.out)
      have HS1:=Lib.hid hS1
      have Hst1:=Lib.hid hst1
      have Hbu:=Lib.hid hst1.bufs
      clear hS1 hst1)
    |(go_simp
      go_at_call 129
      refine (use_any (Im u1 col) s.bufs x.bufs a.pos (s.use+1) u1 Hbu.out HI.out.rises Hln.out).mono ?_
      rintro e u2 ⟨v2,rfl,ho2,hb2⟩
      obtain ⟨A2,n2,m2,e2,en⟩:=own_slice' ho2
      subst e2
      subst en
      have Ho2:=Lib.hid ho2
      have HB2:=Lib.hid hb2
      have Hst2:=Lib.hid (Hst1.out.below hb2)
      have f2:=Hst2.out.frozen 2
      have q3:u2.cell? ⟨b,2,none⟩=some x.bufs:=cell_b hb2 q2
      clear ho2 hb2)
    |fail)
  all_goals
   have hS3:=(Same1.refl (b:=b) (w:=u2)).setCell 2 (.slice A2 (useB s.bufs a.pos (s.use+1)).length m2)
   have hv3:BufsAt (S0 col) u2 (.slice A2 (useB s.bufs a.pos (s.use+1)).length m2) (useB s.bufs a.pos (s.use+1)):=bufs_of_own (fun k hk=>Hst1.out.s0 k hk) Ho2.out ((HI.out.useB a.pos (s.use+1) (by omega)).bok (by show s.use+1≤_; have:=Hub.out; omega))
   have Hst3:=Lib.hid (Hst2.out.bufd hS3 hv3 (heap_setCell_same _ _ 2 _ _ _ Hst2.out.row))
   have hbb:bb≠b:=by have:=Hbb.out; have:=Hbl.out; omega
   have k1:((u2.setCell ⟨b,2,none⟩ (.slice A2 (useB s.bufs a.pos (s.use+1)).length m2)).cell? ⟨bb,1,none⟩)=some (.string (getB s.bufs a.pos).1.data):=by
    have h1:=(HS1.out.block bb hbb).trans Hbx.out
    have h2:=(HB2.out.block _ (Array.getElem?_eq_some_iff.1 h1).1).trans h1
    exact cell_of_row _ _ 1 _ _ _ ((hS3.block bb hbb).trans h2)
   have HC:Hid (Chg (fun k=>k=b) w (u2.setCell ⟨b,2,none⟩ (.slice A2 (useB s.bufs a.pos (s.use+1)).length m2))):=show Chg _ _ _ from
    ((Chg.of_below (HJ.out.trans (((Below.refl _ _).drew).mono HJ.out.size))).trans ((HS1.out.chg (F:=fun k=>k=b) rfl).mono (fun k hk=>.inl hk))).trans (((Chg.of_below HB2.out).trans ((hS3.chg (F:=fun k=>k=b) rfl).mono (fun k hk=>.inl hk))).mono (fun k hk=>.inl hk))
   clear hS3 hv3
   generalize World.setCell _ _ _=u3 at k1 HC Hst3 ⊢
   go_wp2_with fail
   refine (answer_any col u3 b bd N _ _ c (getB s.bufs a.pos).1.data 0 Hst3.out hc).mono ?_
   rintro e w4 ⟨rfl,hS4,hst4⟩
   have HS4:=Lib.hid hS4
   have Hst4:=Lib.hid hst4
   clear hS4 hst4
   go_wp2_with fail
   go_end0
   rw [Hsr.out]
   exact ⟨_,rfl,Hst4.out,HC.out.trans ((HS4.out.chg (F:=fun k=>k=b) rfl).mono (fun k hk=>.inl hk)),Avs.ans .bufs Hst3.out.asks hc⟩
 |false =>
  rw [hg] at f7
  have Hg:=Lib.hid hg
  have Hsr:Hid (s.read c a=if s.heldP a.pos then s else (s.queue false a.pos noB).1):=show _=_ by unfold St.read; rw [hg]; rfl
  have Hub:=Lib.hid hu
  clear hg hu
  have c2:u.cell? ⟨b,2,none⟩=some x.bufs:=H1.out.cell 2
  have p1:u.cell? ⟨ba,1,none⟩=some (.int .i64 a.pos):=cell_of_row _ _ 1 _ _ _ Hr1.out
  go_wp2_with fail
  refine (held_any col u b bd N x s a.pos H1.out (fun r hr=>(good_oks HI.out.good r (List.mem_append.2 (.inl hr))).span) (fun r hr=>(good_oks HI.out.good r (List.mem_append.2 (.inr hr))).span) HI.out.dv.two ⟨Ha.out.lo,Ha.out.hi⟩).mono ?_
  rintro e u' ⟨rfl,hb1⟩
  have HB1:=Lib.hid hb1
  have Hst1:=Lib.hid (H1.out.below hb1)
  have p1:u'.cell? ⟨ba,1,none⟩=some (.int .i64 a.pos):=cell_b hb1 p1
  clear hb1 c2
  cases hh:s.heldP a.pos with
  |true =>
   have Hh:=Lib.hid hh
   go_wp2_with fail
   go_end0
   rw [Hsr.out,Hh.out,if_pos rfl]
   exact ⟨_,rfl,Hst1.out,Chg.of_below (HJ.out.trans (HB1.out.mono HJ.out.size)),.refl⟩
  |false =>
   have Hh:=Lib.hid hh
   go_wp2_with fail
   refine (queue_any col u' b bd N x s false a.pos noB Hst1.out (good_oks (good_app.1 HI.out.good).1) HI.out.wait6 ⟨HI.out.tag0,by have:=Hub.out; omega⟩ HI.out.now ⟨Ha.out.lo,Ha.out.hi⟩ noB16).mono ?_
   rintro e w4 ⟨y,rfl,hst4,hc4,hav⟩
   have Hav:=Lib.hid hav
   have Hst4:=Lib.hid hst4
   have Hc4:=Lib.hid hc4
   clear hst4 hc4 hav
   go_wp2_with fail
   go_end0
   rw [Hsr.out,Hh.out,if_neg (by decide)]
   exact ⟨_,rfl,Hst4.out,(Chg.of_below (HJ.out.trans (HB1.out.mono HJ.out.size))).trans (Hc4.out.mono (fun k hk=>.inl hk)),Hav.out⟩
end Go.Proofs.YtaeadmlgffaegaaGreatDoor
namespace Go.Proofs.YtaeadmlgffaegaaGreatDoor
open Go.RowKit
abbrev zeroBv:Value:=.agg #[.int .i64 0,.string ⟨#[]⟩,.bool false,.int .i64 0]
theorem zero_bufv:∀ w,(zeroValue 111).run Tryz.prog w=.ok zeroBv w:=fun _=>by kernel_rfl
theorem bdelete_any (base g n cap i:Nat) (xs:List Value) (w:World) (hown:w.ownsRow base 111 4 (.slice (some ⟨g,0,none⟩) n cap) n xs) (h1:∀ u ∈ xs,u.oneCell'=true) (hi:i<n) (hn:n≤65536) :
  Calls Tryz.prog 114 #[.slice (some ⟨g,0,none⟩) n cap,.int .i64 i,.int .i64 ((i:Int)+1)] w fun E w' =>
   ∃ v,E=.returned v∧w'.ownsRow base 111 4 v (n - 1) (xs.take (i * 4) ++ xs.drop ((i+1) * 4))∧w.grownBy w' (some g):=by
 obtain ⟨i0,hi0,hz0,hz1,hz2⟩:=info_parts bufInfo
 have hcap:n≤cap∧cap≤maxLen:=by
  rcases hown.2 with ⟨hv,_⟩ | ⟨_,_,_,hv,_,_,h3,h4,_⟩
  ·cases hv
  ·cases hv; exact ⟨h3,h4⟩
 obtain ⟨hc1,hc2⟩:=hcap
 unfold maxLen at hc2
 have hin:(i:Int)<(n:Int):=by omega
 have hne:((i:Int) == (i:Int)+1)=false:=by simp; omega
 have hlen:=hown.1
 have hrd:=Rd.of_own (S:=fun _=>True) w (fun _ _=>trivial) hown
 obtain ⟨X,hX,hR⟩:∃ X:Option Addr,(if cap=i+1 then some (⟨g,0,none⟩:Addr) else some ⟨g,(i+1) * 4,none⟩)=X∧Hid (Rd (fun _=>True) w.drew 4 (.slice X (n - (i+1)) (cap - (i+1))) (n - (i+1)) (xs.drop ((i+1) * 4))):=by
  refine ⟨_,rfl,?_⟩
  show Rd _ _ _ _ _ _
  refine ⟨_,_,rfl,by omega,by simp only [maxLen]; omega,by rw [List.length_drop,hlen]; omega,fun hpos=>?_⟩
  rw [if_neg (by omega)]
  obtain ⟨b,off,e,_,_,hcell⟩:=hrd.at_ (by omega) (by omega)
  cases e
  refine ⟨g,(i+1) * 4,rfl,trivial,fun j u hu=>?_⟩
  rw [List.getElem?_drop] at hu
  have:=hcell _ _ hu
  simpa using this
 have hT:=Lib.hid (own_take w (k:=i) (by omega) (by omega) hown)
 have hic:i≤cap:=by omega
 have hbase:base≤w.heap.size:=by have:=hown.lt g rfl; omega
 have hgl:g<w.heap.size:=(hown.lt g rfl).2
 have hbg:base≤g:=(hown.lt g rfl).1
 clear hrd hown
 have hp0:(0:Int)≤(i:Int)+1:=by omega
 have hp1:(i:Int)+1≤(n:Int):=by omega
 have hp2:((i:Int)+1).toNat=i+1:=by omega
 go_enter Tryz.func114,Tryz.ntmps114
 go_wp2_with fail
 go_region_law (refine step_append_rd_fits (S:=fun _=>True) _ rfl (.tmp 22) (.tmp 25) _ rfl base 111 i0 4 Tryz.underlying74 hi0 hz1 g i cap (xs.take (i * 4)) rfl hT.out (.slice X (n - (i+1)) (cap - (i+1))) (n - (i+1)) (xs.drop ((i+1) * 4)) rfl hR.out (fun u hu=>h1 u (List.mem_of_mem_drop hu)) (by omega) ?_; intro w1 hown1 hg1)
 have hm:i+(n - (i+1))=n - 1:=by omega
 obtain ⟨cur,hcell,hsz,htk⟩:∃ cur,w1.heap[g]?=some (.cells cur 111 (0,0))∧cur.size=cap * 4∧cur.toList.take ((i+(n - (i+1))) * 4)=xs.take (i * 4) ++ xs.drop ((i+1) * 4):=by
  rcases hown1.2 with ⟨hv,_⟩ | ⟨_,_,cur,hv,_,h2,_,_,h5,h6⟩
  ·cases hv
  ·cases hv; exact ⟨cur,h2,h5,h6⟩
 obtain ⟨cur',hrun,hsz',htk'⟩:=run_clear_row (P:=Tryz.prog) w1 74 111 0 zeroBv 4 Tryz.underlying74 zero_bufv rfl
  (fun n u hu=>one_zeros (by decide) n u hu) g ((i+(n - (i+1))) * 4) (n - (i+(n - (i+1)))) (cap - (i+(n - (i+1)))) _ cur hcell (by rw [hsz]; omega)
 have Hown:=Lib.hid hown1
 have Hcell:=Lib.hid hcell
 have Hs:=Lib.hid hsz
 have Hs':=Lib.hid hsz'
 have Ht:=Lib.hid htk
 have Ht':=Lib.hid htk'
 have Hm:=Lib.hid hm
 clear hown1 hcell hsz hsz' htk htk' hm hlen hX hR hT
 go_wp2_with fail
 go_ret
 refine ⟨_,rfl,?_,?_⟩
 ·have ht:=Ht'.out.trans Ht.out
  have ht2:=Ht.out
  rw [Hm.out] at ht ht2 ⊢
  refine ⟨by rw [← ht2,List.length_take,Array.length_toList,Hs.out]; omega,.inr ⟨g,cap,cur',rfl,hbg,setRow_heap _ _ _ _ _ _ Hcell.out,by omega,by simp only [maxLen]; omega,by rw [Hs'.out,Hs.out],ht⟩⟩
 ·exact ⟨hg1.os,hg1.tape,hg1.output,by simpa using hg1.size,fun k hk hkg=>by rw [setRow_other _ _ _ _ (fun h=>hkg (by rw [h]))]; exact hg1.block k (by simpa using hk) hkg⟩
end Go.Proofs.YtaeadmlgffaegaaGreatDoor
namespace Go.Proofs.YtaeadmlgffaegaaGreatDoor
open Go.RowKit
section
variable {P:Program}
theorem run_copy_wide (w:World) (dT sT ty elem:TypeId) (size g o dLen dCap:Nat) (a:Addr) (sLen sCap:Nat) (cur:Array Value) (t:TypeId) (cs:List Value)
  (hu:P.underlying dT=some (.slice elem)) (hs:(P.info? elem).map (·.size)=some size) (hg:w.heap[g]?=some (.cells cur t (0,0))) (hn:cs.length=Nat.min sLen dLen * size)
  (hsrc:∀ j v,cs[j]?=some v→w.cell? (a.add j)=some v) (hfit:o+cs.length≤cur.size) (h1:∀ v ∈ cs,v.oneCell'=true) :
  (Builtin.copy_ #[dT,sT] ty #[.slice (some ⟨g,o,none⟩) dLen dCap,.slice (some a) sLen sCap]).run P w =
   .ok (goInt (Nat.min sLen dLen)) (w.setRow g (cur.toList.take o ++ cs ++ cur.toList.drop (o+cs.length)).toArray):=by
 have hl:=run_loadCells_list (P:=P) w a cs hsrc
 have hst:=run_storeCells_at P g o t cs 0 cur w hg (by simpa using hfit) h1
 cases hq:P.info? elem with
 |none=>simp [hq] at hs
 |some i =>
  have hi:i.size=size:=by simpa [hq] using hs
  simp [Builtin.copy_,run_underlying hu,Builtin.lenOf,Builtin.firstCells,sizeOf,typeInfo,hq,hi,← hn,hl,hst]
end
theorem grown_setRow {w0 w:World} {g:Nat} {cs:Array Value} {r:Option Nat} (h:w0.grownBy w r) (hg:some g=r∨w0.heap.size≤g):w0.grownBy (w.setRow g cs) r :=
 ⟨h.os,h.tape,h.output,by simpa [World.setRow] using h.size,fun k hk hr=>by
  rw [setRow_other _ _ _ _ (fun e=>by
   subst e
   rcases hg with hg | hg
   ·exact hr hg
   ·omega)]
  exact h.block k hk hr⟩
theorem grown_drew {w0 w:World} {r:Option Nat} (h:w0.grownBy w r):w0.grownBy w.drew r:=⟨h.os,h.tape,h.output,h.size,h.block⟩
theorem grown_alloc {w0 w:World} {r:Option Nat} (h:w0.grownBy w r) (o:Obj):w0.grownBy (w.alloc o) r :=
 ⟨h.os,h.tape,h.output,Nat.le_trans h.size (by simp),fun k hk hr=>by
  rw [Below.heap_alloc _ _ _ (Nat.lt_of_lt_of_le hk h.size)]; exact h.block k hk hr⟩
theorem binsert_any (base:Nat) (v:Value) (n i vb:Nat) (xs ys:List Value) (w:World) (hown:w.ownsRow base 111 4 v n xs) (h1:∀ u ∈ xs,u.oneCell'=true)
  (hy:w.heap[vb]?=some (.cells ys.toArray 111 (0,0))) (hyl:ys.length=4) (hy1:∀ u ∈ ys,u.oneCell'=true) (hvb:v.ownBlock≠some vb) (hi:i≤n) (hn:n≤65536) (hbase:base≤w.heap.size) :
  Calls Tryz.prog 115 #[v,.int .i64 i,.slice (some ⟨vb,0,none⟩) 1 1] w fun E w' =>
   ∃ v',E=.returned v'∧w'.ownsRow base 111 4 v' (n+1) (xs.take (i * 4) ++ ys ++ xs.drop (i * 4))∧w.grownBy w' v.ownBlock:=by
 obtain ⟨i0,hi0,hz0,hz1,hz2⟩:=info_parts bufInfo
 obtain ⟨R,hR⟩:∃ x,xs.take (i * 4) ++ ys ++ xs.drop (i * 4)=x:=⟨_,rfl⟩
 rw [hR]
 have HR:=Lib.hid hR
 clear hR
 obtain ⟨r,hr⟩:∃ x,v.ownBlock=x:=⟨_,rfl⟩
 rw [hr]
 have hr0:=Lib.hid hr
 clear hr
 have hlen:=hown.1
 have hvbl:vb<w.heap.size:=by
  rcases Nat.lt_or_ge vb w.heap.size with h | h
  ·exact h
  ·rw [Array.getElem?_eq_none h] at hy; cases hy
 have hyc:∀ (w':World),w'.heap[vb]?=w.heap[vb]?→∀ j u,ys[j]?=some u→w'.cell? ⟨vb,j,none⟩=some u:=fun w' hw j u hu=>by
  rw [cell_of_row _ _ _ _ _ _ (hw.trans hy)]; simpa using hu
 have hyr:Rd (fun _=>True) w 4 (.slice (some ⟨vb,0,none⟩) 1 1) 1 ys:=⟨_,_,rfl,by omega,by simp [maxLen],by omega,fun _=>⟨vb,0,rfl,trivial,fun j u hu=>by simpa using hyc w rfl j u hu⟩⟩
 by_cases hin:i=n
 ·subst hin
  have hv:∃ A cap,v=.slice A i cap∧i≤cap∧cap≤9223372036854775807:=by
   rcases hown.2 with ⟨h,h0⟩ | ⟨g,cap,cur,h,_,_,h3,h4,_⟩
   ·exact ⟨none,0,by rw [h,h0],by omega,by omega⟩
   ·unfold maxLen at h4; exact ⟨_,cap,h,h3,by omega⟩
  obtain ⟨A,cap,rfl,hc1,hc2⟩:=hv
  have Hown:=Lib.hid hown
  have Hyr:=Lib.hid hyr
  have Hxs:Hid (R=xs ++ ys):=show _=_ by rw [← HR.out,List.take_of_length_le (by omega),List.drop_eq_nil_of_le (by omega),List.append_nil]
  clear hown hyr hyc hlen
  go_enter Tryz.func115,Tryz.ntmps115
  go_wp2_with (at_builtin; refine wpList_append_rd (S:=fun _=>True) _ rfl (.tmp 23) (.tmp 24) _ rfl base 111 i0 _ 4 40 Tryz.underlying74 hi0 hz0 hz1 hz2 rfl (by omega) (.slice A i cap) i xs rfl Hown.out (.slice (some ⟨vb,0,none⟩) 1 1) 1 ys rfl Hyr.out hy1 (by simp only [maxLen]; omega) (by omega) hbase ?_; intro v1 w1 hown1 hg1 hat1; rw [hr0.out] at hg1; clear hat1)
  all_goals
   go_ret
   exact ⟨v1,rfl,by rw [Hxs.out]; exact hown1,hg1⟩
 ·have hlt:i<n:=by omega
  obtain ⟨g,cap,rfl,hbg,hgl,hnc,hcm⟩:=own_pos hown (by omega)
  obtain ⟨cur,hrow,_,_,_,hcs,htk⟩:=ownB_row hown (by omega)
  have hgv:g≠vb:=fun e=>hvb (by rw [e]; rfl)
  have hcel:∀ (w':World),w'.heap[g]?=w.heap[g]?→∀ j u,xs[j]?=some u→w'.cell? ⟨g,j,none⟩=some u:=fun w' hw j u hu=>by
   have hj:j<n * 4:=by have:=(List.getElem?_eq_some_iff.1 hu).1; omega
   rw [cell_of_row _ _ _ _ _ _ (hw.trans hrow),← Array.getElem?_toList,← hu,← htk,List.getElem?_take,if_pos hj]
  have hw1:(i:Int)≤(n:Int):=by omega
  have hz3:((i:Int) == (n:Int))=false:=by simp; omega
  by_cases hroom:n+1≤cap
  ·have hov:∀ lb cb,(callFunc 141 #[.slice (some ⟨vb,0,none⟩) 1 1,.slice (some ⟨g,(i+1) * 4,none⟩) lb cb]).run Tryz.prog w=.ok (.value (.bool false)) w:=fun lb cb=>by
    rw [run_callFunc_extern Tryz.func141 (by kernel_rfl) (by kernel_rfl) (by kernel_rfl) (e:=Extern.SlicesOverlaps.overlaps #[74,74] #[4]) (by kernel_rfl),
     Lib.run_overlaps_apart w 74 4 111 Tryz.underlying74 4 Tryz.sizeOf111 ⟨vb,0,none⟩ ⟨g,(i+1) * 4,none⟩ 1 1 lb cb (fun e=>hgv e.symm) 111 111 ys.toArray.size cur.size (by simp [World.shape?,hy]) (by simp [World.shape?,hrow]) (by omega) (frozen_of_row _ _ _ _ _ hy) (frozen_of_row _ _ _ _ _ hy)]
    rfl
   obtain ⟨w1,hcp1,hrow1,hg1⟩:∃ w1,(∀ ty dc sc,(Builtin.copy_ #[74,74] ty #[.slice (some ⟨g,(i+1) * 4,none⟩) (n - i) dc,.slice (some ⟨g,i * 4,none⟩) (n+1 - i) sc]).run Tryz.prog w.drew=.ok (goInt ((n - i:Nat):Int)) w1) ∧
     w1.heap[g]?=some (.cells (cur.toList.take ((i+1) * 4) ++ xs.drop (i * 4) ++ cur.toList.drop ((i+1) * 4+(xs.drop (i * 4)).length)).toArray 111 (0,0))∧w.grownBy w1 (some g):=by
    have hdl:(xs.drop (i * 4)).length=(n - i) * 4:=by rw [List.length_drop,hlen]; omega
    have hmin:Nat.min (n+1 - i) (n - i)=n - i:=by simp only [Nat.min_def]; split <;> omega
    refine ⟨w.drew.setRow g _,fun ty dc sc=>?_,setRow_heap w.drew g cur _ _ _ hrow,grown_setRow (grown_drew (World.grownBy.refl w _)) (.inl rfl)⟩
    have:=run_copy_wide (P:=Tryz.prog) w.drew 74 74 ty 111 4 g ((i+1) * 4) (n - i) dc ⟨g,i * 4,none⟩ (n+1 - i) sc cur _ (xs.drop (i * 4)) Tryz.underlying74 (by rw [hi0]; simp [hz1]) hrow
     (by rw [hdl,hmin]) (fun j u hu=>by rw [Go.WideShapes.add_plain]; exact hcel w.drew rfl _ u (by rwa [List.getElem?_drop] at hu)) (by rw [hdl,hcs]; omega) (fun u hu=>h1 u (List.mem_of_mem_drop hu))
    rw [hmin] at this
    exact this
   obtain ⟨w2,hcp2,hrow2,hg2⟩:∃ w2,(∀ ty dc,(Builtin.copy_ #[74,74] ty #[.slice (some ⟨g,i * 4,none⟩) (n+1 - i) dc,.slice (some ⟨vb,0,none⟩) 1 1]).run Tryz.prog w1=.ok (goInt 1) w2) ∧
     w2.heap[g]?=some (.cells (xs.take (i * 4) ++ ys ++ xs.drop (i * 4) ++ cur.toList.drop ((n+1) * 4)).toArray 111 (0,0))∧w.grownBy w2 (some g):=by
    have hmin:Nat.min 1 (n+1 - i)=1:=by simp only [Nat.min_def]; split <;> omega
    have hdl:(xs.drop (i * 4)).length=(n - i) * 4:=by rw [List.length_drop,hlen]; omega
    have hyw:w1.heap[vb]?=w.heap[vb]?:=hg1.block vb hvbl (by simp; exact fun e=>hgv e.symm)
    have hcurl:cur.toList.length=cap * 4:=by rw [Array.length_toList,hcs]
    have eArr:((cur.toList.take ((i+1) * 4) ++ xs.drop (i * 4) ++ cur.toList.drop ((i+1) * 4+(xs.drop (i * 4)).length)).toArray.toList.take (i * 4) ++ ys ++ (cur.toList.take ((i+1) * 4) ++ xs.drop (i * 4) ++ cur.toList.drop ((i+1) * 4+(xs.drop (i * 4)).length)).toArray.toList.drop (i * 4+ys.length)).toArray =
      (xs.take (i * 4) ++ ys ++ xs.drop (i * 4) ++ cur.toList.drop ((n+1) * 4)).toArray:=by
     rw [List.toList_toArray,hyl,hdl]
     have ht:cur.toList.take (i * 4)=xs.take (i * 4):=by rw [← htk,List.take_take]; congr 1; omega
     rw [List.append_assoc (cur.toList.take ((i+1) * 4)),List.take_append_of_le_length (by rw [List.length_take,hcurl]; omega),List.take_take,Nat.min_eq_left (by omega),ht,
      List.drop_append,List.length_take,hcurl,Nat.min_eq_left (by omega),List.drop_eq_nil_of_le (by rw [List.length_take,hcurl]; omega),show i * 4+4 - (i+1) * 4=0 by omega,List.drop_zero,List.nil_append,
      show (i+1) * 4+(n - i) * 4=(n+1) * 4 by omega]
     simp only [List.append_assoc]
    refine ⟨w1.setRow g _,fun ty dc=>?_,setRow_heap w1 g _ _ _ _ hrow1,grown_setRow hg1 (.inl rfl)⟩
    have h3:=run_copy_wide (P:=Tryz.prog) w1 74 74 ty 111 4 g (i * 4) (n+1 - i) dc ⟨vb,0,none⟩ 1 1 _ _ ys Tryz.underlying74 (by rw [hi0]; simp [hz1]) hrow1
     (by rw [hmin,hyl]) (fun j u hu=>by rw [Go.WideShapes.add_plain]; simpa using hyc w1 hyw j u hu) (by
      rw [List.size_toArray]; simp only [List.length_append,List.length_take,List.length_drop,hcurl,hyl]; omega) hy1
    rw [hmin,eArr] at h3
    exact h3
   have Hfin:Hid (w2.ownsRow base 111 4 (.slice (some ⟨g,0,none⟩) (n+1) cap) (n+1) R):=by
    rw [← HR.out]
    refine ⟨by simp only [List.length_append,List.length_take,List.length_drop,hlen,hyl]; omega,.inr ⟨g,cap,_,rfl,hbg,hrow2,hroom,by simp only [maxLen]; omega,?_,?_⟩⟩
    ·rw [List.size_toArray]; simp only [List.length_append,List.length_take,List.length_drop,hlen,hyl,Array.length_toList,hcs]; omega
    ·simp only []
     rw [List.take_append_of_le_length (by simp only [List.length_append,List.length_take,List.length_drop,hlen,hyl]; omega),List.take_of_length_le (by simp only [List.length_append,List.length_take,List.length_drop,hlen,hyl]; omega)]
   have Hg2:Hid (w.grownBy w2 r):=by rw [← hr0.out]; exact hg2
   have Hcp1:=Lib.hid hcp1
   have Hcp2:=Lib.hid hcp2
   clear hcel hyc hyr hown hrow hrow1 hrow2 hg1 hg2 htk hcs hlen h1 hy hy1 hyl hcp1 hcp2
   have hw2:IntKind.i64.wrap ((i:Int)+1)=(i:Int)+1:=by rw [IntKind.wrap_i64]; omega
   have hb1:(0:Int)≤(i:Int)+1:=by omega
   have hb2:¬ (cap=i+1):=by omega
   have hb3:(i:Int)≤(n:Int)+1:=by omega
   have hb4:¬ (cap=i):=by omega
   have htn:((i:Int)+1).toNat=i+1:=by omega
   have hz5:decide ((cap:Int)<(n:Int)+1)=false:=by simp; omega
   go_enter Tryz.func115,Tryz.ntmps115
   go_wp2_with (simp only [hov])
   have hcp1:=Hcp1.out
   have hcp2:=Hcp2.out
   go_region
   go_wp2
   go_ret
   exact ⟨_,rfl,Hfin.out,Hg2.out⟩
  ·obtain rfl:cap=n:=by omega
   obtain ⟨N,hN⟩:∃ x,w.heap.size=x:=⟨_,rfl⟩
   have hcurl:cur.toList.length=cap * 4:=by rw [Array.length_toList,hcs]
   obtain ⟨w1,G,row,hap,hrow1,hG1,hG2,hrs,hrt,hg1,hsz1⟩:∃ w1 G,∃ row:Array Value,(∀ ty,(Builtin.append_ #[74,3] ty #[.slice (some ⟨g,0,none⟩) i cap,.int .i64 ((cap:Int)+1 - (i:Int))]).run Tryz.prog w=.ok (.slice (some ⟨N,0,none⟩) (cap+1) G) w1) ∧
     w1.heap[N]?=some (.cells row 111 (0,0))∧cap+1≤G∧G≤9223372036854775807∧row.size=G * 4∧row.toList.take (i * 4)=xs.take (i * 4)∧w.grownBy w1 none∧w1.heap.size=N+1:=by
    have hold:(Builtin.firstCells i0.size i (.slice (some ⟨g,0,none⟩) i cap)).run Tryz.prog w.drew=.ok (xs.take (i * 4)).toArray w.drew:=by
     rw [hz1]
     exact run_firstCells_some w.drew 4 i ⟨g,0,none⟩ i cap (xs.take (i * 4)) (by rw [List.length_take,hlen]; omega) (fun j u hj=>by
      rw [Go.WideShapes.add_plain]
      rw [List.getElem?_take] at hj
      split at hj
      ·simpa using hcel w.drew rfl j u hj
      ·cases hj)
    have hG:=grownCap_ge w (i+(cap+1 - i)) cap 111
    have hG':=grownCap_le_maxLen w (i+(cap+1 - i)) cap 111 (by unfold maxLen; omega)
    have e1:i+(cap+1 - i)=cap+1:=by omega
    have h:=fun ty=>Lib.run_append_grow_zeros (P:=Tryz.prog) w 74 3 ty 111 i0 _ .i64 .i64 Tryz.underlying74 Tryz.underlying3 hi0 hz0 (some ⟨g,0,none⟩) i cap (xs.take (i * 4)) hold (cap+1 - i) (by omega) (by rw [hz1]; omega) (by omega) (by omega) (by rw [hz2]; omega) (by rw [hz2,e1]; exact growslice_fits (by omega) (by omega))
    have e2:(((cap+1 - i:Nat)):Int)=(cap:Int)+1 - (i:Int):=by omega
    rw [e2] at h
    have hs:((xs.take (i * 4)).toArray ++ Builtin.zeroCells (Value.agg #[.int .i64 0,.string ⟨#[]⟩,.bool false,.int .i64 0]).cells (cap+1 - i) ++ Builtin.zeroCells (Value.agg #[.int .i64 0,.string ⟨#[]⟩,.bool false,.int .i64 0]).cells (grownCap w (i+(cap+1 - i)) cap 111 - (i+(cap+1 - i)))).size=grownCap w (i+(cap+1 - i)) cap 111 * 4:=by
     simp only [Array.size_append,size_zeroCells,List.size_toArray,List.length_take,hlen,Value.cells,List.length_cons,List.length_nil]
     omega
    have ht:((xs.take (i * 4)).toArray ++ Builtin.zeroCells (Value.agg #[.int .i64 0,.string ⟨#[]⟩,.bool false,.int .i64 0]).cells (cap+1 - i) ++ Builtin.zeroCells (Value.agg #[.int .i64 0,.string ⟨#[]⟩,.bool false,.int .i64 0]).cells (grownCap w (i+(cap+1 - i)) cap 111 - (i+(cap+1 - i)))).toList.take (i * 4)=xs.take (i * 4):=by
     rw [Array.toList_append,Array.toList_append,List.toList_toArray,List.append_assoc,List.take_append_of_le_length (by rw [List.length_take,hlen]; omega),List.take_take,Nat.min_self]
    generalize (xs.take (i * 4)).toArray ++ Builtin.zeroCells (Value.agg #[.int .i64 0,.string ⟨#[]⟩,.bool false,.int .i64 0]).cells (cap+1 - i) ++ Builtin.zeroCells (Value.agg #[.int .i64 0,.string ⟨#[]⟩,.bool false,.int .i64 0]).cells (grownCap w (i+(cap+1 - i)) cap 111 - (i+(cap+1 - i)))=ROW at h hs ht
    refine ⟨w.drew.alloc (.cells ROW 111),grownCap w (i+(cap+1 - i)) cap 111,ROW,fun ty=>?_,?_,by omega,by unfold maxLen at hG'; omega,hs,ht,grown_alloc (grown_drew (World.grownBy.refl w _)) _,by simp [hN]⟩
    ·rw [h ty,hN,e1]
    ·rw [← hN]; exact heap_alloc_new w.drew _
   have hgN:g≠N:=by omega
   have hvN:vb≠N:=by omega
   obtain ⟨w2,hcp1,hrow2,hg2⟩:∃ w2,(∀ ty dc,(Builtin.copy_ #[74,74] ty #[.slice (some ⟨N,i * 4,none⟩) (cap+1 - i) dc,.slice (some ⟨vb,0,none⟩) 1 1]).run Tryz.prog w1=.ok (goInt 1) w2) ∧
     w2.heap[N]?=some (.cells (xs.take (i * 4) ++ ys ++ row.toList.drop (i * 4+4)).toArray 111 (0,0))∧w.grownBy w2 none:=by
    have hmin:Nat.min 1 (cap+1 - i)=1:=by simp only [Nat.min_def]; split <;> omega
    have hyw:w1.heap[vb]?=w.heap[vb]?:=hg1.block vb hvbl (by simp)
    refine ⟨w1.setRow N _,fun ty dc=>?_,setRow_heap w1 N _ _ _ _ hrow1,grown_setRow hg1 (.inr (by omega))⟩
    have h3:=run_copy_wide (P:=Tryz.prog) w1 74 74 ty 111 4 N (i * 4) (cap+1 - i) dc ⟨vb,0,none⟩ 1 1 row _ ys Tryz.underlying74 (by rw [hi0]; simp [hz1]) hrow1
     (by rw [hmin,hyl]) (fun j u hu=>by rw [Go.WideShapes.add_plain]; simpa using hyc w1 hyw j u hu) (by rw [hrs,hyl]; omega) hy1
    rw [hmin,hrt,hyl] at h3
    exact h3
   obtain ⟨w3,hcp2,hrow3,hg3⟩:∃ w3,(∀ ty dc sc,(Builtin.copy_ #[74,74] ty #[.slice (some ⟨N,(i+1) * 4,none⟩) (cap - i) dc,.slice (some ⟨g,i * 4,none⟩) (cap - i) sc]).run Tryz.prog w2.drew=.ok (goInt ((cap - i:Nat):Int)) w3) ∧
     w3.heap[N]?=some (.cells (xs.take (i * 4) ++ ys ++ xs.drop (i * 4) ++ row.toList.drop ((cap+1) * 4)).toArray 111 (0,0))∧w.grownBy w3 none:=by
    have hdl:(xs.drop (i * 4)).length=(cap - i) * 4:=by rw [List.length_drop,hlen]; omega
    have hgw:w2.drew.heap[g]?=w.heap[g]?:=hg2.block g hgl (by simp)
    have eArr:((xs.take (i * 4) ++ ys ++ row.toList.drop (i * 4+4)).toArray.toList.take ((i+1) * 4) ++ xs.drop (i * 4) ++ (xs.take (i * 4) ++ ys ++ row.toList.drop (i * 4+4)).toArray.toList.drop ((i+1) * 4+(xs.drop (i * 4)).length)).toArray =
      (xs.take (i * 4) ++ ys ++ xs.drop (i * 4) ++ row.toList.drop ((cap+1) * 4)).toArray:=by
     have hhl:(xs.take (i * 4) ++ ys).length=(i+1) * 4:=by rw [List.length_append,List.length_take,hlen,hyl]; omega
     rw [List.toList_toArray,hdl,List.take_append_of_le_length (by omega),List.take_of_length_le (by omega),List.drop_append,hhl,(List.drop_eq_nil_of_le (by omega):(xs.take (i * 4) ++ ys).drop ((i+1) * 4+(cap - i) * 4)=[]),List.nil_append,List.drop_drop]
     congr 3; omega
    refine ⟨w2.drew.setRow N _,fun ty dc sc=>?_,setRow_heap w2.drew N _ _ _ _ hrow2,grown_setRow (grown_drew hg2) (.inr (by omega))⟩
    have h3:=run_copy_wide (P:=Tryz.prog) w2.drew 74 74 ty 111 4 N ((i+1) * 4) (cap - i) dc ⟨g,i * 4,none⟩ (cap - i) sc _ _ (xs.drop (i * 4)) Tryz.underlying74 (by rw [hi0]; simp [hz1]) hrow2
     (by rw [hdl]; congr 1; simp only [Nat.min_def]; split <;> omega) (fun j u hu=>by rw [Go.WideShapes.add_plain]; exact hcel w2.drew hgw _ u (by rwa [List.getElem?_drop] at hu)) (by
      rw [List.size_toArray]; simp only [List.length_append,List.length_take,List.length_drop,Array.length_toList,hrs,hyl,hlen]; omega) (fun u hu=>h1 u (List.mem_of_mem_drop hu))
    rw [eArr,show Nat.min (cap - i) (cap - i)=cap - i from Nat.min_self _] at h3
    exact h3
   have Hfin:Hid (w3.ownsRow base 111 4 (.slice (some ⟨N,0,none⟩) (cap+1) G) (cap+1) R):=by
    rw [← HR.out]
    refine ⟨by simp only [List.length_append,List.length_take,List.length_drop,hlen,hyl]; omega,.inr ⟨N,G,_,rfl,by omega,hrow3,hG1,by simp only [maxLen]; omega,?_,?_⟩⟩
    ·rw [List.size_toArray]; simp only [List.length_append,List.length_take,List.length_drop,hlen,hyl,Array.length_toList,hrs]; omega
    ·simp only []
     rw [List.take_append_of_le_length (by simp only [List.length_append,List.length_take,List.length_drop,hlen,hyl]; omega),List.take_of_length_le (by simp only [List.length_append,List.length_take,List.length_drop,hlen,hyl]; omega)]
   have Hg3:Hid (w.grownBy w3 r):=⟨hg3.os,hg3.tape,hg3.output,hg3.size,fun k hk _=>hg3.block k hk (by simp)⟩
   clear hcel hyc hyr hown hrow hrow1 hrow2 hrow3 hg1 hg2 hg3 htk hcs hlen h1 hy hy1 hyl hrs hrt hcurl
   have hw2:IntKind.i64.wrap ((i:Int)+1)=(i:Int)+1:=by rw [IntKind.wrap_i64]; omega
   have hw3:IntKind.i64.wrap ((cap:Int)+1 - (i:Int))=(cap:Int)+1 - (i:Int):=by rw [IntKind.wrap_i64]; omega
   have hb1:(0:Int)≤(i:Int)+1:=by omega
   have hb2:¬ (cap=i):=by omega
   have hb3:(i:Int)≤(cap:Int)+1:=by omega
   have hb4:¬ (G=i):=by omega
   have hb5:¬ (G=i+1):=by omega
   have htn:((i:Int)+1).toNat=i+1:=by omega
   have hz5:(cap:Int)<(cap:Int)+1:=by omega
   go_enter Tryz.func115,Tryz.ntmps115
   go_wp2_with (at_builtin; refine Lib.wpList_append_run _ rfl _ _ _ _ rfl _ _ rfl rfl _ _ (hap _) ?_)
   go_region
   go_wp2
   go_ret
   exact ⟨_,rfl,Hfin.out,Hg3.out⟩
end Go.Proofs.YtaeadmlgffaegaaGreatDoor
