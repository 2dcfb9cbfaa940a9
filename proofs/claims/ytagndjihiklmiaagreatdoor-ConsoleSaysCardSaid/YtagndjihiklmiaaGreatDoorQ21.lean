/- write: a sector is put to what is at hand. -/
import Derived.Test.YtagndjihiklmiaaGreatDoorQ20
set_option linter.unusedSimpArgs false
set_option linter.unusedVariables false
set_option maxRecDepth 100000
set_option maxHeartbeats 8000000
namespace Go.Proofs.YtagndjihiklmiaaGreatDoor
open Go.RowKit Go.Sort
theorem write_some {s:St} {c:Nat} {a:Ak} {m:List Bf} (hd:s.dead=false) (hf:(!St.still s.bufs a.pos && decide (6≤dirtyB s.bufs))=false) (hp:putB s.bufs ⟨a.pos,a.data,true,s.use+1⟩ s.heldP=some m) :
  s.write c a=({ s with use:=s.use+1,bufs:=m }:St).answer c noB 0:=by
 unfold St.write;rw [if_neg (by rw [hd]; decide),if_neg (by rw [hf]; decide),hp]
theorem write_none {s:St} {c:Nat} {a:Ak} (hd:s.dead=false) (hf:(!St.still s.bufs a.pos && decide (6≤dirtyB s.bufs))=false) (hp:putB s.bufs ⟨a.pos,a.data,true,s.use+1⟩ s.heldP=none) :
  s.write c a={ s with use:=s.use+1 }:=by
 unfold St.write;rw [if_neg (by rw [hd]; decide),if_neg (by rw [hf]; decide),hp]
theorem write_full {s:St} {c:Nat} {a:Ak} (hd:s.dead=false) (hf:(!St.still s.bufs a.pos && decide (6≤dirtyB s.bufs))=true):s.write c a=s:=by
 unfold St.write;rw [if_neg (by rw [hd]; decide),if_pos hf]
theorem write_any (col:Nat→Nat) (w:World) (b bd N c:Nat) (x:Sv) (s:St) (a:Ak) (ba:Nat) (h:StAt Ts col w b bd N x s) (hI:Inv s) (hu:s.use≤900000000∧s.tag≤900000000) (hc:c<3) (ha:s.askAt c=some a) (hv:x.av c=.pointer (some ⟨ba,0,none⟩)) :
  Calls Tryz.prog 116 #[.pointer (some ⟨b,0,none⟩),.int .i64 (c:Int),.pointer (some ⟨ba,0,none⟩)] w (Ret2 Ts col w b bd N x (s.write c a) (.tuple #[])):=by
 obtain ⟨lv,hrow,hfa,_⟩:=h.askc hc ha hv;have Hne:=Lib.hid (h.ask_ne hfa);have Hbl:=Lib.hid h.bl;have Hs0:=Lib.hid h.s0;clear hfa;have H:=Lib.hid h;have HI:=Lib.hid hI;have Ha:=Lib.hid (hI.ask c a ha);have c20:w.cell? ⟨b,20,none⟩=some (.bool s.dead):=h.cell 20;have c2:w.cell? ⟨b,2,none⟩=some x.bufs:=h.cell 2;have p1:w.cell? ⟨ba,1,none⟩=some (.int .i64 a.pos):=cell_of_row _ _ 1 _ _ _ hrow;have Hrow:=Lib.hid hrow;have Hub:=Lib.hid hu;clear h hI ha hrow hv hu;have hz:=zero_buf;go_enter Tryz.func116,Tryz.ntmps116
 cases hdd:s.dead with
 |true =>
  have Hsr:Hid (s.write c a=s.answer c noB 9):=show _=_ by unfold St.write; rw [hdd,if_pos rfl]
  rw [hdd] at c20;clear hdd;go_wp2_with fail;refine (answer_any col w b bd N _ _ c noB 9 H.out hc).mono ?_;rintro e w4 ⟨rfl,hS4,hst4⟩;have HS4:=Lib.hid hS4;have Hst4:=Lib.hid hst4;clear hS4 hst4;go_wp2_with fail;go_end0;rw [Hsr.out];exact ⟨_,rfl,Hst4.out,HS4.out.chg (F:=fun k=>k=b) rfl,Avs.ans .refl H.out.asks hc⟩
 |false =>
  rw [hdd] at c20;have Hdd:=Lib.hid hdd;clear hdd;go_wp2_with fail
  obtain ⟨FB,hFB⟩:∃ F:Array Value,F=#[.int .i64 (getB s.bufs a.pos).1.pos,.string (getB s.bufs a.pos).1.data,.bool (getB s.bufs a.pos).1.dirty,.int .i64 (getB s.bufs a.pos).1.used]:=⟨_,rfl⟩
  refine wp_region_ev mixed [(18,fun v _=>v=(.pointer (some ⟨b,0,none⟩))),(19,fun v _=>v=(.pointer (some ⟨b,0,none⟩))),(20,fun v _=>v=(.pointer (some ⟨b,2,none⟩))),(21,fun v _=>v=x.bufs),(22,fun v _=>v=(.pointer (some ⟨ba,0,none⟩))),(23,fun v _=>v=(.pointer (some ⟨ba,0,none⟩))),(24,fun v _=>v=(.pointer (some ⟨ba,1,none⟩))),(25,fun v _=>v=(.int .i64 a.pos)),(26,fun v _=>v=(.tuple #[.agg #[.int .i64 (getB s.bufs a.pos).1.pos,.string (getB s.bufs a.pos).1.data,.bool (getB s.bufs a.pos).1.dirty,.int .i64 (getB s.bufs a.pos).1.used],.bool (getB s.bufs a.pos).2])),(17,fun v _=>v=(.tuple #[.agg #[.int .i64 (getB s.bufs a.pos).1.pos,.string (getB s.bufs a.pos).1.data,.bool (getB s.bufs a.pos).1.dirty,.int .i64 (getB s.bufs a.pos).1.used],.bool (getB s.bufs a.pos).2])),(27,fun v _=>v=(.agg #[.int .i64 (getB s.bufs a.pos).1.pos,.string (getB s.bufs a.pos).1.data,.bool (getB s.bufs a.pos).1.dirty,.int .i64 (getB s.bufs a.pos).1.used])),(28,fun v _=>v=(.bool (getB s.bufs a.pos).2)),(6,BxF 107 FB w.heap.size),(7,fun v _=>v=(.bool (getB s.bufs a.pos).2))] (fun u=>Below w.heap.size w u) (BR 107 FB w.heap.size) (BxE 107 FB 13) (by kernel_rfl) rfl (by decide) (Below.refl _ _).drew ?st (fun k vs u u' h hr=>h.step hr) ?steps ?fin;case st=>exact ⟨fun v u u' h _=>h,fun v u u' h _=>h,fun v u u' h _=>h,fun v u u' h _=>h,fun v u u' h _=>h,fun v u u' h _=>h,fun v u u' h _=>h,fun v u u' h _=>h,fun v u u' h _=>h,fun v u u' h _=>h,fun v u u' h _=>h,fun v u u' h _=>h,fun v u u' h hr=>h.step hr,fun v u u' h _=>h,trivial⟩
  case steps =>
   refine ⟨?_,?_,?_,?_,?_,?_,?_,?_,?_,?_,?_,?_,?_,?_,?_,trivial⟩
   all_goals
    intro ρ u hp hJ hr
    try
     have r1:ρ _=_:=hr.1;clear hr;have c2:=cell_b hJ c2;have p1:=cell_b hJ p1;refine gives_value (v:=_) (w':=u) ?_ ⟨rfl,hJ,BR.refl _,fun h=>absurd h (by decide)⟩;go_simp
     done
   ·have r1:ρ (.tmp 21)=x.bufs:=hr.1
    have r2:ρ (.tmp 25)=(.int .i64 a.pos):=hr.2.1;clear hr;refine gives_enter (f:=83) (args:=#[x.bufs,.int .i64 a.pos]) (w':=u) ?_ ((get_st H.out HI.out a.pos u hJ).mono ?_)
    ·have hpf:=hp.func 83
     go_simp
    rintro e u' ⟨rfl,hb⟩;exact ⟨_,rfl,rfl,hJ.trans (hb.mono hJ.size),BR.below hb,fun h=>absurd h (by decide)⟩
   ·clear hr
    refine gives_value (v:=.pointer (some ⟨u.heap.size,0,none⟩)) (w':=u.alloc (.cells #[.int .i64 0,.string ⟨#[]⟩,.bool false,.int .i64 0] 107)) ?_ ⟨⟨_,rfl,hJ.size,⟨_,by rw [hFB]; rfl,heap_alloc_new _ _⟩⟩,hJ.trans (((Below.refl _ _).alloc (Nat.le_refl _) _).mono hJ.size),BR.below ((Below.refl _ _).alloc (Nat.le_refl _) _),fun h=>absurd h (by decide)⟩;go_simp
   ·obtain ⟨bb,y0,y1,y2,y3,e1,z0,z1,z2,z3,f0,g1,g2,g3⟩:=bx_store hr.1 hFB
    have r2:ρ (.tmp 27)=(.agg #[.int .i64 (getB s.bufs a.pos).1.pos,.string (getB s.bufs a.pos).1.data,.bool (getB s.bufs a.pos).1.dirty,.int .i64 (getB s.bufs a.pos).1.used]):=hr.2.1;clear hr;refine gives_skip (w':=_) ?_ ⟨trivial,hJ.trans g3,g1,BxE.at e1 rfl g2⟩;clear g1 g2 g3;go_simp
  intro f u hF hJ hU hE;have f6:BxF 107 FB w.heap.size (f 6) u:=hF.2.2.2.2.2.2.2.2.2.2.2.2.1;have f7:f 7=(.bool (getB s.bufs a.pos).2):=hF.2.2.2.2.2.2.2.2.2.2.2.2.2.1;obtain ⟨bb,e6,hbb,hbz⟩:=f6;have hbx:u.heap[bb]?=some (.cells FB 107 (0,0)):=hE 13 _ rfl rfl bb (by rw [argsOf_store rfl,e6]; rfl);clear hF hU hE c2 p1;rw [hFB] at hbx;clear hbz hFB FB;have HJ:=Lib.hid hJ;have Hbx:=Lib.hid hbx;have Hbb:=Lib.hid hbb;clear hJ hbx hbb;simp only [laid];have H1:=Lib.hid (H.out.below HJ.out);have Hr1:Hid (u.heap[ba]?=_):=show _=_ from (HJ.out.block _ (Array.getElem?_eq_some_iff.1 Hrow.out).1).trans Hrow.out;have Hln:Hid (s.bufs.length≤65536):=show _≤_ by have:=HI.out.len8; omega
  have Hus:Hid (0≤s.use∧s.use≤1000000000):=show _∧_ from ⟨HI.out.use0,by have:=Hub.out; omega⟩;have Hin:Hid (InB s.bufs):=HI.out.inb;clear c20;have z2:u.cell? ⟨bb,2,none⟩=some (.bool (getB s.bufs a.pos).1.dirty):=cell_of_row _ _ 2 _ _ _ Hbx.out;have Hz2:=Lib.hid z2;have Hst:Hid (St.still s.bufs a.pos=((getB s.bufs a.pos).2 && (getB s.bufs a.pos).1.dirty)):=show _=_ from rfl
  have key:((getB s.bufs a.pos).2=true∧(getB s.bufs a.pos).1.dirty=true∧St.still s.bufs a.pos=true)∨((getB s.bufs a.pos).2=true∧(getB s.bufs a.pos).1.dirty=false∧St.still s.bufs a.pos=false)∨((getB s.bufs a.pos).2=false∧(getB s.bufs a.pos).1.dirty=(getB s.bufs a.pos).1.dirty∧St.still s.bufs a.pos=false):=by
   rw [Hst.out]
   cases (getB s.bufs a.pos).2 <;> cases (getB s.bufs a.pos).1.dirty <;> simp
  rcases key with ⟨hg,hd,hs⟩ | ⟨hg,hd,hs⟩ | ⟨hg,hd,hs⟩
  all_goals
   rw [hg] at f7;rw [hd] at z2;have Hst0:=Lib.hid hs;clear hg hd hs;go_wp2_with fail
   first
    |(refine (stdirty_any col u b bd N x s H1.out HI.out.len8).mono ?_
      rintro e U ⟨rfl,hb1⟩;have HB1:=Lib.hid hb1;have H2:=Lib.hid (H1.out.below hb1);clear hb1;rcases Nat.lt_or_ge (dirtyB s.bufs) 6 with h6 | h6;rotate_left
      ·have hn6:decide ((6:Int)≤(dirtyB s.bufs:Int))=true:=by rw [decide_eq_true_iff]; omega
       have Hwr3:=Lib.hid (write_full (s:=s) (c:=c) (a:=a) Hdd.out (by rw [Hst0.out,show decide (6≤dirtyB s.bufs)=true by rw [decide_eq_true_iff]; omega]; rfl));clear h6;go_wp2_with fail;go_end0;rw [Hwr3.out];exact ⟨_,rfl,H2.out,Chg.of_below (HJ.out.trans (HB1.out.mono HJ.out.size)),.refl⟩
      have hn6:decide ((6:Int)≤(dirtyB s.bufs:Int))=false:=by rw [decide_eq_false_iff_not]; omega
      have Hdl:Hid ((∃ e,atB s.bufs a.pos=some (e,true))∨dirtyB s.bufs<6):=show _∨_ from .inr h6;have Hwr2:Hid ((!St.still s.bufs a.pos && decide (6≤dirtyB s.bufs))=false):=show _=_ by rw [Hst0.out,show decide (6≤dirtyB s.bufs)=false by rw [decide_eq_false_iff_not]; omega]; rfl
      clear h6
      go_wp2_with fail)
    |(have Hdl:Hid ((∃ e,atB s.bufs a.pos=some (e,true))∨dirtyB s.bufs<6):=show _∨_ from .inl (HI.out.still_at.1 Hst0.out)
      have Hwr2:Hid ((!St.still s.bufs a.pos && decide (6≤dirtyB s.bufs))=false):=show _=_ by rw [Hst0.out]; rfl
      obtain ⟨U,hU⟩:∃ U,u=U:=⟨_,rfl⟩
      have HB1:Hid (Below u.heap.size u U):=show Below _ _ _ from hU▸Below.refl _ _;have H2:=Lib.hid (H1.out.below HB1.out);rw [hU]
      clear hU)
   have H5d:=Lib.hid (H2.out.below (Below.refl _ _).drew);have Hr5:Hid (U.heap[ba]?=_):=show _=_ from (HB1.out.block _ (Array.getElem?_eq_some_iff.1 Hr1.out).1).trans Hr1.out;have HB5:Hid (Below w.heap.size w U):=show Below _ _ _ from HJ.out.trans (HB1.out.mono HJ.out.size)
   have K0:U.drew.cell? ⟨b,2,none⟩=some x.bufs∧U.drew.cell? ⟨ba,1,none⟩=some (.int .i64 a.pos)∧U.drew.cell? ⟨ba,2,none⟩=some (.string a.data):=⟨H5d.out.cell 2,cell_of_row _ _ 1 _ _ _ Hr5.out,cell_of_row _ _ 2 _ _ _ Hr5.out⟩
   cases hp:putB s.bufs ⟨a.pos,a.data,true,s.use+1⟩ s.heldP with
   |some m =>
    have Hwr3:=Lib.hid (write_some (c:=c) Hdd.out Hwr2.out hp);have Hp:=Lib.hid hp;clear hp
    go_region_held3 (fun q=>q.cell? ⟨b,2,none⟩=some x.bufs∧q.cell? ⟨ba,1,none⟩=some (.int .i64 a.pos)∧q.cell? ⟨ba,2,none⟩=some (.string a.data))
     (first | exact K2 | exact K1 | exact K0)
     (first
      |((with_reducible refine (used_any col U.drew b bd N x s H5d.out Hus.out).mono ?_); rintro e u1 ⟨rfl,hS1,hst1⟩; have K1:u1.cell? ⟨b,2,none⟩=some x.bufs∧u1.cell? ⟨ba,1,none⟩=some (.int .i64 a.pos)∧u1.cell? ⟨ba,2,none⟩=some (.string a.data):=⟨hst1.cell 2,cell_of_row _ _ 1 _ _ _ ((hS1.block ba Hne.out).trans Hr5.out),cell_of_row _ _ 2 _ _ _ ((hS1.block ba Hne.out).trans Hr5.out)⟩; have HS1:=Lib.hid hS1; have Hst1:=Lib.hid hst1; have Hbu:Hid (BufsAt (Im u1 col) u1 x.bufs s.bufs):=hst1.bufs; have Hby:Hid (HeldBy u1 82 #[.pointer (some ⟨b,0,none⟩)] #[] s.heldP):=(held_by col u1 b bd N x { s with use:=s.use+1 } hst1 (good_oks HI.out.good) HI.out.dv.two); clear hS1 hst1)
      |((with_reducible refine (put_some (Im u1 col) s.bufs m x.bufs ⟨a.pos,a.data,true,s.use+1⟩ 82 #[.pointer (some ⟨b,0,none⟩)] #[] s.heldP u1 Hbu.out HI.out.rises Hin.out Hby.out Hln.out Hp.out).mono ?_); rintro e u2 ⟨v2,rfl,ho2,hb2⟩; have K2:u2.cell? ⟨b,2,none⟩=some x.bufs∧u2.cell? ⟨ba,1,none⟩=some (.int .i64 a.pos)∧u2.cell? ⟨ba,2,none⟩=some (.string a.data):=⟨cell_b hb2 K1.1,cell_b hb2 K1.2.1,cell_b hb2 K1.2.2⟩; obtain ⟨A2,n2,m2,e2,en⟩:=own_slice' ho2; subst e2; subst en; have Ho2:=Lib.hid ho2; have HB2:=Lib.hid hb2; have Hst2:=Lib.hid (Hst1.out.below hb2); have q2:=K2.1; have f2:=Hst2.out.frozen 2; clear ho2 hb2)
      |fail)
    all_goals
     clear K0 K1 K2;try go_wp2_with fail
     have hS3:=(Same1.refl (b:=b) (w:=u2)).setCell 2 (.slice A2 m.length m2);have hI3:=HI.out.putB Hp.out ⟨Ha.out.lo,Ha.out.hi⟩ (by have:=Ha.out.size; simp only; omega) (show s.use≤s.use+1 by omega) (by have:=HI.out.use0; simp only; omega) (fun _=>Hdl.out) (.inl rfl);have hv3:BufsAt (S0 col) u2 (.slice A2 m.length m2) m:=bufs_of_own (fun k hk=>Hst1.out.s0 k hk) Ho2.out (hI3.bok (by show s.use+1≤_; have:=Hub.out; omega));have Hst3:=Lib.hid (Hst2.out.bufd hS3 hv3 (heap_setCell_same _ _ 2 _ _ _ Hst2.out.row))
     have HC:Hid (Chg (fun k=>k=b) w (u2.setCell ⟨b,2,none⟩ (.slice A2 m.length m2))):=show Chg _ _ _ from
      ((Chg.of_below (HB5.out.trans (((Below.refl _ _).drew).mono HB5.out.size))).trans ((HS1.out.chg (F:=fun k=>k=b) rfl).mono (fun k hk=>.inl hk))).trans (((Chg.of_below HB2.out).trans ((hS3.chg (F:=fun k=>k=b) rfl).mono (fun k hk=>.inl hk))).mono (fun k hk=>.inl hk))
     clear hS3 hv3 hI3 q2 f2;generalize World.setCell _ _ _=u3 at HC Hst3 ⊢;refine (answer_any col u3 b bd N _ _ c noB 0 Hst3.out hc).mono ?_;rintro e w4 ⟨rfl,hS4,hst4⟩;have HS4:=Lib.hid hS4;have Hst4:=Lib.hid hst4;clear hS4 hst4;go_wp2_with fail;go_end0;rw [Hwr3.out];exact ⟨_,rfl,Hst4.out,HC.out.trans ((HS4.out.chg (F:=fun k=>k=b) rfl).mono (fun k hk=>.inl hk)),Avs.ans .bufs Hst3.out.asks hc⟩
   |none =>
    have Hwr3:=Lib.hid (write_none (c:=c) Hdd.out Hwr2.out hp);have Hp:=Lib.hid hp;clear hp
    go_region_held3 (fun q=>q.cell? ⟨b,2,none⟩=some x.bufs∧q.cell? ⟨ba,1,none⟩=some (.int .i64 a.pos)∧q.cell? ⟨ba,2,none⟩=some (.string a.data))
     (first | exact K2 | exact K1 | exact K0)
     (first
      |((with_reducible refine (used_any col U.drew b bd N x s H5d.out Hus.out).mono ?_); rintro e u1 ⟨rfl,hS1,hst1⟩; have K1:u1.cell? ⟨b,2,none⟩=some x.bufs∧u1.cell? ⟨ba,1,none⟩=some (.int .i64 a.pos)∧u1.cell? ⟨ba,2,none⟩=some (.string a.data):=⟨hst1.cell 2,cell_of_row _ _ 1 _ _ _ ((hS1.block ba Hne.out).trans Hr5.out),cell_of_row _ _ 2 _ _ _ ((hS1.block ba Hne.out).trans Hr5.out)⟩; have HS1:=Lib.hid hS1; have Hst1:=Lib.hid hst1; have Hbu:Hid (BufsAt (Im u1 col) u1 x.bufs s.bufs):=hst1.bufs; have Hby:Hid (HeldBy u1 82 #[.pointer (some ⟨b,0,none⟩)] #[] s.heldP):=(held_by col u1 b bd N x { s with use:=s.use+1 } hst1 (good_oks HI.out.good) HI.out.dv.two); clear hS1 hst1)
      |((with_reducible refine (put_none (Im u1 col) s.bufs x.bufs ⟨a.pos,a.data,true,s.use+1⟩ 82 #[.pointer (some ⟨b,0,none⟩)] #[] s.heldP u1 Hbu.out HI.out.rises Hin.out Hby.out Hln.out Hp.out).mono ?_); rintro e u2 ⟨rfl,hb2⟩; have K2:u2.cell? ⟨b,2,none⟩=some x.bufs∧u2.cell? ⟨ba,1,none⟩=some (.int .i64 a.pos)∧u2.cell? ⟨ba,2,none⟩=some (.string a.data):=⟨cell_b hb2 K1.1,cell_b hb2 K1.2.1,cell_b hb2 K1.2.2⟩; have HB2:=Lib.hid hb2; have Hst2:=Lib.hid (Hst1.out.below hb2); clear hb2)
      |fail)
    all_goals
     clear K0 K1 K2;try go_wp2_with fail
     go_end0;rw [Hwr3.out];exact ⟨_,rfl,Hst2.out,((Chg.of_below (HB5.out.trans (((Below.refl _ _).drew).mono HB5.out.size))).trans ((HS1.out.chg (F:=fun k=>k=b) rfl).mono (fun k hk=>.inl hk))).trans (Chg.of_below HB2.out),.refl⟩
end Go.Proofs.YtagndjihiklmiaaGreatDoor
namespace Go.Proofs.YtagndjihiklmiaaGreatDoor
open Go.RowKit Go.Sort
theorem sync1_any (S:Nat→Prop) (w:World) (b B:Nat) (T:TypeId) (vb:Value) (l:List Bf) (p:Int) (h2:w.cell? ⟨b,2,none⟩=some vb) (h:BufsAt S w vb l) (hr:Rises l) (hn:l.length≤65536) (hB:w.heap[B]?=some (.cells #[.pointer (some ⟨b,0,none⟩)] T (0,0))) :
  Calls Tryz.prog 159 #[.int .i64 p,.pointer (some ⟨B,0,none⟩)] w (Ret (.bool (!St.still l p)) w):=by
 have H:=Lib.hid h;have HR:=Lib.hid hr;have HN:=Lib.hid hn;have k0:w.cell? ⟨B,0,none⟩=some (.pointer (some ⟨b,0,none⟩)):=cell_of_row _ _ 0 _ _ _ hB;have hz:=zero_buf;have Hst:Hid (St.still l p=((getB l p).2 && (getB l p).1.dirty)):=show _=_ from rfl;clear h hr hn hB;go_enter Tryz.func159,Tryz.ntmps159;go_wp2_with fail;refine (get_any _ _ _ p _ H.out HR.out HN.out).mono ?_;rintro e u1 ⟨rfl,hb1⟩;have HB1:=Lib.hid hb1;clear hb1 h2 k0
 cases hf:(getB l p).2 with
 |true =>
  cases hd:(getB l p).1.dirty with
  |true =>
   have Hv:Hid (St.still l p=true):=show _=_ by rw [Hst.out,hf,hd]; rfl
   clear hf;go_wp2_with fail;go_ret;rw [Hv.out];exact ⟨rfl,HB1.out.alloc HB1.out.size _⟩
  |false =>
   have Hv:Hid (St.still l p=false):=show _=_ by rw [Hst.out,hf,hd]; rfl
   clear hf;go_wp2_with fail;go_ret;rw [Hv.out];exact ⟨rfl,HB1.out.alloc HB1.out.size _⟩
 |false =>
  have Hv:Hid (St.still l p=false):=show _=_ by rw [Hst.out,hf]; rfl
  go_wp2_with fail;go_ret;rw [Hv.out];exact ⟨rfl,HB1.out.alloc HB1.out.size _⟩
end Go.Proofs.YtagndjihiklmiaaGreatDoor
namespace Go.Proofs.YtagndjihiklmiaaGreatDoor
open Go.RowKit Go.Sort
def gone1 (l:List Bf) (p:Int):Bool:=!St.still l p
def RetFirst (g:Int→Bool) (l:List Int) (w:World):Ending→World→Prop:=fun e w'=>∃ n:Int,e=.returned (.int .i64 n)∧((n = -1∧l.any g=false)∨∃ (k:Nat) (p:Int),n=k∧l[k]?=some p∧(l.take k).any g=false∧g p=true)∧Below w.heap.size w w'
theorem index_left (SB:Nat→Prop) (w:World) (b B:Nat) (T:TypeId) (vb:Value) (L:List Bf) (S:Nat→Prop) (l:List Int) (v:Value) (h2:w.cell? ⟨b,2,none⟩=some vb) (h:BufsAt SB w vb L) (hr:Rises L) (hn:L.length≤65536) (hB:w.heap[B]?=some (.cells #[.pointer (some ⟨b,0,none⟩)] T (0,0))) (hl:Rd S w 1 v l.length (l.map (.int .i64))) (h60:l.length≤60000) :
  Calls Tryz.prog 188 #[v,.func (.func 159) #[] #[.pointer (some ⟨B,0,none⟩)]] w (RetFirst (gone1 L) l w):=by
 obtain ⟨A,cap,rfl,g1,g2⟩:=hl.form;unfold maxLen at g2;have Hl:=Lib.hid hl;have HB:=Lib.hid hB;have H:=Lib.hid h;have HR:=Lib.hid hr;have HN:=Lib.hid hn;have H2:=Lib.hid h2;have hlt0:B<w.heap.size:=(Array.getElem?_eq_some_iff.1 hB).1;clear h hB hl hr hn h2;go_enter Tryz.func188,Tryz.ntmps188;go_wp2;go_loopw [8] (fun i wr=>∃ k:Nat,k≤l.length∧i=.int .i64 k∧Below w.heap.size w wr∧Hid ((l.take k).any (gone1 L)=false)) (fun i _=>l.length - (intOf i).toNat)
 case atStart=>exact ⟨0,by omega,rfl,Below.refl _ _,rfl⟩
 case round =>
  obtain ⟨k,hk,rfl,hw,hall⟩:=hrel;by_cases hlt:k<l.length
  ·obtain ⟨bl,off,rfl,_,hb,hc⟩:=(Hl.out.below hw).at_ (by omega) (by omega)
   have hx:l[k]?=some l[k]:=List.getElem?_eq_getElem hlt;have k0:=hc k (.int .i64 l[k]) (by rw [List.getElem?_map,hx]; rfl);clear hc;have Hx:=Lib.hid hx;clear hx;generalize l[k]=p at *;have Hw:=Lib.hid hw;go_wp2_with fail;refine (sync1_any SB wr b B T vb L p (cell_b Hw.out H2.out) (H.out.below Hw.out) HR.out HN.out ((Hw.out.block _ (by assumption)).trans HB.out)).mono ?_;rintro e w1 ⟨rfl,hb1⟩;have hw1:=hw.trans (hb1.mono hw.size);clear k0 hb1
   cases hs:St.still L p with
   |true =>
    have Hm:Hid (gone1 L p=false):=show _=_ by unfold gone1; rw [hs]; rfl
    clear hs;go_wp2_with fail;go_roundw
    case rel=>exact ⟨k+1,by omega,by go_num,hw1,by show _=false; rw [any_take_succ _ _ _ _ Hx.out,hall.out,Hm.out]; rfl⟩
    case measure=>simp [intOf]; omega
   |false =>
    have Hm:Hid (gone1 L p=true):=show _=_ by unfold gone1; rw [hs]; rfl
    clear hs;go_wp2_with fail;go_ret;exact ⟨k,rfl,.inr ⟨k,p,rfl,Hx.out,hall.out,Hm.out⟩,hw1⟩
  ·go_wp2
   go_ret;exact ⟨-1,rfl,.inl ⟨rfl,any_end _ _ _ (by omega) hall.out⟩,hw⟩
end Go.Proofs.YtagndjihiklmiaaGreatDoor
namespace Go.Proofs.YtagndjihiklmiaaGreatDoor
open Go.RowKit Go.Sort
def stay (L:List Bf) (l:List Int):List Int:=l.filter (St.still L)
theorem stay_all {L:List Bf} {l:List Int} (h:l.any (gone1 L)=false):stay L l=l:=by
 unfold stay;rw [List.filter_eq_self];intro p hp;have:=List.any_eq_false.1 h p hp;unfold gone1 at this
 simpa using this
theorem stay_succ {L:List Bf} {l:List Int} {q:Nat} {p:Int} (h:l[q]?=some p):stay L (l.take (q+1))=stay L (l.take q) ++ (if St.still L p then [p] else []):=by
 unfold stay;rw [List.take_add_one,h,List.filter_append];simp [List.filter_cons]
def RetLeft (F:Nat→Prop) (L:List Bf) (l:List Int) (w:World):Ending→World→Prop:=fun e w'=>∃ v',e=.returned v'∧Ow F w' 3 1 v' (stay L l).length ((stay L l).map (.int .i64))∧Chg F w w'
theorem delete_left (SB F:Nat→Prop) (w:World) (b B:Nat) (T:TypeId) (vb:Value) (L:List Bf) (l:List Int) (v:Value) (h2:w.cell? ⟨b,2,none⟩=some vb) (h:BufsAt SB w vb L) (hr:Rises L) (hn:L.length≤65536) (hB:w.heap[B]?=some (.cells #[.pointer (some ⟨b,0,none⟩)] T (0,0)))
  (hown:Ow F w 3 1 v l.length (l.map (.int .i64))) (hSB:∀ k,SB k→¬ F k) (hbF:¬ F b) (hBF:¬ F B) (h60:l.length≤60000) :
  Calls Tryz.prog 158 #[v,.func (.func 159) #[] #[.pointer (some ⟨B,0,none⟩)]] w (RetLeft F L l w):=by
 obtain ⟨A,cap,rfl,g1,g2⟩:=hown.form;unfold maxLen at g2;have Hown:=Lib.hid hown;have HB:=Lib.hid hB;have H:=Lib.hid h;have HR:=Lib.hid hr;have HN:=Lib.hid hn;have H2:=Lib.hid h2;have HSB:=Lib.hid hSB;have HbF:=Lib.hid hbF;have HBF:=Lib.hid hBF;clear hown h hB hr hn h2 hSB hbF hBF;go_enter Tryz.func158,Tryz.ntmps158;go_wp2_with fail;refine (index_left SB w b B T vb L F l _ H2.out H.out HR.out HN.out HB.out Hown.out.rd h60).mono ?_;rintro e w1 ⟨n,rfl,hn,hb1⟩
 rcases hn with ⟨rfl,hany⟩ | ⟨k,p0,rfl,hx,hall,hg⟩
 ·have Hany:=Lib.hid hany
  have HB1:=Lib.hid hb1;clear hany hb1;go_wp2_with fail;go_ret;refine ⟨_,rfl,?_,Chg.of_below HB1.out⟩;rw [stay_all Hany.out];exact Hown.out.keep (fun k _ hk=>HB1.out.block k hk)
 ·have hkl:k<l.length:=(List.getElem?_eq_some_iff.1 hx).1
  have hk1:((k:Int) == -1)=false:=by simp only [beq_eq_false_iff_ne]; omega
  obtain ⟨g,cur,eA,hgF,hcell,hsz,htk⟩:∃ g cur,A=some ⟨g,0,none⟩∧F g∧w1.heap[g]?=some (.cells cur 3 (0,0))∧cur.size=cap∧cur.toList.take l.length=l.map (.int .i64):=by
   rcases Hown.out.1.2 with ⟨hv,h0⟩ | ⟨g,cap',cur,hv,_,h2,_,_,h5,h6⟩
   ·omega
   ·cases hv
    exact ⟨g,cur,rfl,Hown.out.2 g rfl,(hb1.block _ (Array.getElem?_eq_some_iff.1 h2).1).trans h2,by simpa using h5,by simpa using h6⟩
  subst eA;have Hx:=Lib.hid hx;have Hall:=Lib.hid hall;have Hg:=Lib.hid hg;have HB1:=Lib.hid hb1;have HgF:=Lib.hid hgF;have Hcell:=Lib.hid hcell;have Hsz:=Lib.hid hsz;have Htk:=Lib.hid htk;clear hx hall hg hb1 hgF hcell hsz htk;go_wp2_with fail;go_loopw [5,6] (fun i j wr=>∃ (a q:Nat) (cu:Array Value),i=.int .i64 a∧j=.int .i64 q∧a<q∧q≤l.length∧Hid (wr.heap[g]?=some (.cells cu 3 (0,0)))∧Hid (cu.size=cap)∧Hid (cu.toList.take a=(stay L (l.take q)).map (.int .i64))∧Hid (a=(stay L (l.take q)).length)∧Hid (∀ r p,q≤r→l[r]?=some p→cu[r]?=some (.int .i64 p))∧Hid (Chg F w wr)) (fun _ j _=>l.length - (intOf j).toNat)
  case atStart =>
   have e0:stay L (l.take (k+1))=l.take k:=by
    rw [stay_succ Hx.out,stay_all Hall.out];have:=Hg.out;unfold gone1 at this;rw [if_neg (by simpa using this),List.append_nil]
   have ht:cur.toList.take l.length=l.map (.int .i64):=Htk.out;refine ⟨k,k+1,cur,rfl,by go_num,by omega,by omega,Hcell,Hsz,?_,?_,?_,Chg.of_below HB1.out⟩
   ·show _=_
    rw [e0,List.map_take,← ht,List.take_take,Nat.min_eq_left (by omega)]
   ·show _=_
    rw [e0,List.length_take,Nat.min_eq_left (by omega)]
   ·show ∀ r p,k+1≤r→l[r]?=some p→cur[r]?=some (.int .i64 p)
    intro r p _ hr;have hrl:=(List.getElem?_eq_some_iff.1 hr).1;have h1:(cur.toList.take l.length)[r]?=some (.int .i64 p):=by rw [ht,List.getElem?_map,hr]; rfl
    rw [List.getElem?_take_of_lt hrl] at h1
    simpa using h1
  case round =>
   obtain ⟨a,q,cu,rfl,rfl,haq,hq,hcu,hcs,hta,hla,hre,hch⟩:=hrel;have hcl:wr.frozen? ⟨g,a,none⟩=false:=frozen_of_row _ _ a _ _ hcu.out;have hgl:g<wr.heap.size:=(Array.getElem?_eq_some_iff.1 hcu.out).1;by_cases hlt:q<l.length
   ·have hx:l[q]?=some l[q]:=List.getElem?_eq_getElem hlt
    have k0:wr.cell? ⟨g,q,none⟩=some (.int .i64 l[q]):=by rw [cell_of_row _ _ q _ _ _ hcu.out]; exact hre.out q _ (Nat.le_refl _) hx
    have HX:=Lib.hid hx;clear hx;generalize l[q]=p at *;go_wp2_with fail;refine (sync1_any SB wr b B T vb L p ?_ ?_ HR.out HN.out ?_).mono ?_
    ·exact (World.cell?_of_block (hch.out.block b (block_lt_of_cell H2.out) HbF.out)).trans H2.out
    ·exact H.out.keep (fun k hs hk=>hch.out.block k hk (HSB.out k hs))
    ·exact (hch.out.block B (Array.getElem?_eq_some_iff.1 HB.out).1 HBF.out).trans HB.out
    rintro e w2 ⟨rfl,hb2⟩;have HB2:=Lib.hid hb2;have hcu2:=Lib.hid ((hb2.block g hgl).trans hcu.out);have hch2:=Lib.hid (hch.out.step hb2);clear k0 hb2 hcl
    cases hs:St.still L p with
    |true =>
     have Hs:=Lib.hid hs
     have ka:w2.cell? ⟨g,a,none⟩=some cu[a]!:=by
      have:a<cu.size:=by have:=hcs.out; omega
      rw [cell_of_row _ _ a _ _ _ hcu2.out]; simp [this]
     have kf:w2.frozen? ⟨g,a,none⟩=false:=frozen_of_row _ _ a _ _ hcu2.out;clear hs;go_wp2_with fail;go_roundw
     case rel =>
      refine ⟨a+1,q+1,cu.setIfInBounds a (.int .i64 p),by go_num,by go_num,by omega,by omega,heap_setCell_same _ _ a _ _ _ hcu2.out,?_,?_,?_,?_,hch2.out.setCell (.inl HgF.out) _⟩
      ·show _=_
       rw [Array.size_setIfInBounds]; exact hcs.out
      ·show _=_
       rw [stay_succ HX.out,Hs.out,if_pos rfl,List.map_append,← hta.out,Array.toList_setIfInBounds,List.take_add_one,List.getElem?_set_self (by have:=hcs.out; simp; omega),List.take_set_of_le (Nat.le_refl _)];rfl
      ·show _=_
       rw [stay_succ HX.out,Hs.out,if_pos rfl,List.length_append,← hla.out]; rfl
      ·show ∀ r p',q+1≤r→l[r]?=some p'→_
       intro r p' hr hx;rw [Array.getElem?_setIfInBounds_ne (by omega)];exact hre.out r p' (by omega) hx
     case measure=>simp [intOf]; omega
    |false =>
     have Hs:=Lib.hid hs;clear hs;go_wp2_with fail;go_roundw
     case rel =>
      refine ⟨a,q+1,cu,rfl,by go_num,by omega,by omega,hcu2,hcs,?_,?_,?_,hch2⟩
      ·show _=_
       rw [stay_succ HX.out,Hs.out,if_neg (by decide),List.append_nil]; exact hta.out
      ·show _=_
       rw [stay_succ HX.out,Hs.out,if_neg (by decide),List.append_nil]; exact hla.out
      ·show ∀ r p',q+1≤r→l[r]?=some p'→_
       intro r p' hr hx;exact hre.out r p' (by omega) hx
     case measure=>simp [intOf]; omega
   ·have hql:q=l.length:=by omega
    subst hql
    obtain ⟨cur',hrun,hsz',htk'⟩:=run_clear_row (P:=Tryz.prog) wr 103 3 0 (.int .i64 0) 1 Tryz.underlying103 int_zero rfl
     (fun n u hu=>one_zeros (by decide) n u hu) g a (l.length - a) (cap - a) _ cu hcu.out (by rw [hcs.out]; omega)
    have Hs':=Lib.hid hsz';have Ht':=Lib.hid htk';clear hsz' htk';go_wp2_with fail;go_ret;have ht:=hta.out;have hl':=hla.out;rw [List.take_length] at ht hl';refine ⟨.slice (some ⟨g,0,none⟩) a cap,rfl,⟨?_,?_⟩,?_⟩
    ·refine ⟨by simp,.inr ⟨g,cap,cur',by rw [← hl'],Nat.zero_le _,setRow_heap _ _ _ _ _ _ hcu.out,by omega,by simp only [maxLen]; omega,by rw [Hs'.out,hcs.out]; simp,?_⟩⟩
     rw [Nat.mul_one,← hl',Ht'.out,ht]
    ·intro k hk
     have hk':g=k:=by simpa [Value.ownBlock] using hk
     subst hk';exact HgF.out
    ·exact ⟨hch.out.os,hch.out.tape,hch.out.output,by simpa using hch.out.size,fun k hk hn=>by rw [setRow_other _ _ _ _ (fun h=>hn (by rw [h]; exact HgF.out))]; exact hch.out.block k hk hn⟩
end Go.Proofs.YtagndjihiklmiaaGreatDoor
