/- Dispatch: the next request goes to the disk. -/
import Derived.Test.YtagndjihiklmiaaGreatDoorQ25
set_option linter.unusedSimpArgs false
set_option linter.unusedVariables false
set_option maxRecDepth 100000
set_option maxHeartbeats 8000000
namespace Go.Proofs.YtagndjihiklmiaaGreatDoor
open Go.RowKit Go.Sort
theorem StAt.taken {T:Tys} {col:Nat→Nat} {w w':World} {b bd N:Nat} {x:Sv} {s:St} (h:StAt T col w b bd N x s) (hb:Same1 b w w') {v:Value} {l:List Rq} {t:Tn} (hv:ReqsAt (S0 col) w v l) (hrow:w'.heap[b]?=some (.cells (({ x with wait:=v }:Sv).row { s with wait:=l,turn:=t } bd) T.S (0,0))) :
  StAt T col w' b bd N { x with wait:=v } { s with wait:=l,turn:=t }:=by
 refine h.turn1 hb hrow rfl rfl rfl rfl h.bufs (S0.im hv) h.asks (fun c hc=>?_) h.done h.errs;have:=h.ask c hc
 match c,hc with | 0,_=>exact this | 1,_=>exact this | 2,_=>exact this
theorem dispatch_any (col:Nat→Nat) (w:World) (b bd N:Nat) (x:Sv) (s:St) (h:StAt Ts col w b bd N x s) (hI:Inv s) :
  Calls Tryz.prog 47 #[.pointer (some ⟨b,0,none⟩)] w (Ret5 Ts col w b bd N s.dispatch.1 (.bool s.dispatch.2)):=by
 have H:=Lib.hid h;have HI:=Lib.hid hI;have c1:w.cell? ⟨b,1,none⟩=some (.pointer (some ⟨x.bv,0,none⟩)):=h.cell 1;have c3:w.cell? ⟨b,3,none⟩=some x.wait:=h.cell 3;obtain ⟨A,cap,hwv,_,_⟩:=h.wait.form;rw [hwv] at c3;clear h hI;go_enter Tryz.func47,Tryz.ntmps47;by_cases hne:s.wait=[]
 ·have hl0:s.wait.length=0:=by rw [hne]; rfl
  have Hd:=Lib.hid (Inv.dispatch_no (s:=s) (.inl hne));rw [hl0] at c3;clear hne hl0 hwv;go_wp2_with fail;go_ret;rw [Hd.out];exact ⟨_,_,rfl,H.out,Chg.refl,.refl⟩
 have hl1:(((s.wait.length:Nat):Int) == 0)=false:=by simp only [beq_eq_false_iff_ne]; have:=List.length_pos_iff.2 hne; omega
 go_wp2_with fail;refine (drvroom_any _ _ w x.bv bd x.bt x.n s.v H.out.drv HI.out.dv.two).mono ?_;rintro e w1 ⟨rfl,hb1⟩;have HB1:=Lib.hid hb1;have H1:=Lib.hid (H.out.below hb1);clear c1 c3 hb1;by_cases h2:s.v.d.l.length<2
 ·obtain ⟨j,r,t',hx,hde⟩:=HI.out.dispatched hne h2
  have hd2:decide (s.v.d.l.length<2)=true:=by simpa using h2
  have Hne:=Lib.hid hne;have H2:=Lib.hid h2;have Hx:=Lib.hid hx;have Hde:=Lib.hid hde;have Hwv:=Lib.hid hwv;have Hb1:=HB1;clear hne h2 hx hde hwv;rw [hd2];clear hd2;go_wp2_with fail;clear hl1;have c3:w1.cell? ⟨b,3,none⟩=some x.wait:=H1.out.cell 3;have c4:w1.cell? ⟨b,4,none⟩=some (.bool s.turn.write):=H1.out.cell 4;have c5:w1.cell? ⟨b,5,none⟩=some (.int .i64 s.turn.gone):=H1.out.cell 5;have c6:w1.cell? ⟨b,6,none⟩=some (.int .i64 s.turn.starved):=H1.out.cell 6;have c7:w1.cell? ⟨b,7,none⟩=some (.int .i64 s.turn.wh):=H1.out.cell 7;have c8:w1.cell? ⟨b,8,none⟩=some (.int .i64 s.now):=H1.out.cell 8
  have Hcall:Hid (∀ u,Below w1.heap.size w1 u→Calls Tryz.prog 86 #[x.wait,.agg #[.bool s.turn.write,.int .i64 s.turn.gone,.int .i64 s.turn.starved,.int .i64 s.turn.wh],.int .i64 s.now] u (Ret (.tuple #[.int .i64 (j:Int),.agg #[.bool t'.write,.int .i64 t'.gone,.int .i64 t'.starved,.int .i64 t'.wh]]) u)):=fun u hu=>by
   have:=next_any' (Im w1 col) s.wait x.wait s.turn s.now u (H1.out.wait.below hu) (good_app.1 HI.out.good).1 Hne.out (by have:=HI.out.turn; unfold i64; omega) HI.out.now.1 HI.out.now.2;unfold nextV at this;rw [Hx.out.eq] at this;exact this
  obtain ⟨FB,hFB⟩:∃ F:Array Value,F=#[.bool t'.write,.int .i64 t'.gone,.int .i64 t'.starved,.int .i64 t'.wh]:=⟨_,rfl⟩
  refine wp_region_ev mixed [(22,fun v _=>v=(.pointer (some ⟨b,0,none⟩))),(23,fun v _=>v=(.pointer (some ⟨b,0,none⟩))),(24,fun v _=>v=(.pointer (some ⟨b,3,none⟩))),(25,fun v _=>v=x.wait),(26,fun v _=>v=(.pointer (some ⟨b,0,none⟩))),(27,fun v _=>v=(.pointer (some ⟨b,0,none⟩))),(28,fun v _=>v=(.pointer (some ⟨b,4,none⟩))),(29,fun v _=>v=(.agg #[.bool s.turn.write,.int .i64 s.turn.gone,.int .i64 s.turn.starved,.int .i64 s.turn.wh])),(30,fun v _=>v=(.pointer (some ⟨b,0,none⟩))),(31,fun v _=>v=(.pointer (some ⟨b,0,none⟩))),(32,fun v _=>v=(.pointer (some ⟨b,8,none⟩))),(33,fun v _=>v=(.int .i64 s.now)),(34,fun v _=>v=(.tuple #[.int .i64 (j:Int),.agg #[.bool t'.write,.int .i64 t'.gone,.int .i64 t'.starved,.int .i64 t'.wh]])),(21,fun v _=>v=(.tuple #[.int .i64 (j:Int),.agg #[.bool t'.write,.int .i64 t'.gone,.int .i64 t'.starved,.int .i64 t'.wh]])),(35,fun v _=>v=(.int .i64 (j:Int))),(36,fun v _=>v=(.agg #[.bool t'.write,.int .i64 t'.gone,.int .i64 t'.starved,.int .i64 t'.wh])),(4,BxF 68 FB w1.heap.size),(3,fun v _=>v=(.int .i64 (j:Int)))] (fun u=>Below w1.heap.size w1 u) (BR 68 FB w1.heap.size) (BxE 68 FB 18) (by kernel_rfl) rfl (by decide) (Below.refl _ _).drew ?st (fun k vs u u' h hr=>h.step hr) ?steps ?fin;case st=>exact ⟨fun v u u' h _=>h,fun v u u' h _=>h,fun v u u' h _=>h,fun v u u' h _=>h,fun v u u' h _=>h,fun v u u' h _=>h,fun v u u' h _=>h,fun v u u' h _=>h,fun v u u' h _=>h,fun v u u' h _=>h,fun v u u' h _=>h,fun v u u' h _=>h,fun v u u' h _=>h,fun v u u' h _=>h,fun v u u' h _=>h,fun v u u' h _=>h,fun v u u' h hr=>h.step hr,fun v u u' h _=>h,trivial⟩
  case steps =>
   refine ⟨?_,?_,?_,?_,?_,?_,?_,?_,?_,?_,?_,?_,?_,?_,?_,?_,?_,?_,?_,trivial⟩
   all_goals
    intro ρ u hp hJ hr
    try
     have r1:ρ _=_:=hr.1;clear hr;have c3:=cell_b hJ c3;have c4:=cell_b hJ c4;have c5:=cell_b hJ c5;have c6:=cell_b hJ c6;have c7:=cell_b hJ c7;have c8:=cell_b hJ c8;refine gives_value (v:=_) (w':=u) ?_ ⟨rfl,hJ,BR.refl _,fun h=>absurd h (by decide)⟩;go_simp
     done
   ·have r1:ρ (.tmp 25)=x.wait:=hr.1
    have r2:ρ (.tmp 29)=(.agg #[.bool s.turn.write,.int .i64 s.turn.gone,.int .i64 s.turn.starved,.int .i64 s.turn.wh]):=hr.2.1;have r3:ρ (.tmp 33)=(.int .i64 s.now):=hr.2.2.1;clear hr;refine gives_enter (f:=86) (args:=#[x.wait,.agg #[.bool s.turn.write,.int .i64 s.turn.gone,.int .i64 s.turn.starved,.int .i64 s.turn.wh],.int .i64 s.now]) (w':=u) ?_ ((Hcall.out u hJ).mono ?_)
    ·have hpf:=hp.func 86
     go_simp
    rintro e u' ⟨rfl,hb⟩;exact ⟨_,rfl,rfl,hJ.trans (hb.mono hJ.size),BR.below hb,fun h=>absurd h (by decide)⟩
   ·clear hr
    refine gives_value (v:=.pointer (some ⟨u.heap.size,0,none⟩)) (w':=u.alloc (.cells #[.bool false,.int .i64 0,.int .i64 0,.int .i64 0] 68)) ?_ ⟨⟨_,rfl,hJ.size,⟨_,by rw [hFB]; rfl,heap_alloc_new _ _⟩⟩,hJ.trans (((Below.refl _ _).alloc (Nat.le_refl _) _).mono hJ.size),BR.below ((Below.refl _ _).alloc (Nat.le_refl _) _),fun h=>absurd h (by decide)⟩;go_simp
   ·obtain ⟨bb,y0,y1,y2,y3,e1,z0,z1,z2,z3,f0,g1,g2,g3⟩:=bx_store hr.1 hFB
    have r2:ρ (.tmp 36)=(.agg #[.bool t'.write,.int .i64 t'.gone,.int .i64 t'.starved,.int .i64 t'.wh]):=hr.2.1;clear hr;refine gives_skip (w':=_) ?_ ⟨trivial,hJ.trans g3,g1,BxE.at e1 rfl g2⟩;clear g1 g2 g3;go_simp
  intro f u hF hJ hU hE;have f4:BxF 68 FB w1.heap.size (f 4) u:=hF.2.2.2.2.2.2.2.2.2.2.2.2.2.2.2.2.1;have f3:f 3=(.int .i64 (j:Int)):=hF.2.2.2.2.2.2.2.2.2.2.2.2.2.2.2.2.2.1;obtain ⟨bb,e4,hbb,hbz⟩:=f4;have hbx:u.heap[bb]?=some (.cells FB 68 (0,0)):=hE 18 _ rfl rfl bb (by rw [argsOf_store rfl,e4]; rfl);clear hF hU hE;rw [hFB] at hbx;clear hbz hFB FB;have HJ:=Lib.hid hJ;have Hbx:=Lib.hid hbx;have Hbb:=Lib.hid hbb;clear hJ hbx hbb;simp only [laid];clear c3 c4 c5 c6 c7 c8 Hcall;have H3:=Lib.hid (H1.out.below HJ.out);have c3:u.cell? ⟨b,3,none⟩=some x.wait:=H3.out.cell 3;rw [f3];clear f3;rw [e4];clear e4;go_wp2_with fail;refine (take_any (S0 col) s.wait x.wait j r u (H3.out.wait.more (fun k hk=>hk.2)) H3.out.s0 Hx.out.get (by have:=HI.out.wait6; omega)).mono ?_;rintro e w4 ⟨v4,rv4,rfl,hown4,hrq4,hb4⟩;obtain ⟨Ad,cd,At,ct,hrv,_,_,_,_,_,_,_⟩:=hrq4.opened;have HW4:Hid (ReqsAt (S0 col) w4 v4 (s.wait.eraseIdx j)):=hown4.at_ H3.out.s0;obtain ⟨A4,cap4,hv4,_,_⟩:=HW4.out.form;subst hv4;subst hrv;have Hrq4:=Lib.hid hrq4;have HB4:=Lib.hid hb4;have H4:=Lib.hid (H3.out.below hb4);have Hbx4:=Lib.hid ((hb4.block _ (Array.getElem?_eq_some_iff.1 Hbx.out).1).trans Hbx.out);clear hown4 hrq4 hb4 c3;go_wp2_with fail
  obtain ⟨b6,hb6⟩:∃ n,w4.heap.size=n:=⟨_,rfl⟩
  have Hc6:Hid (col b6=0):=H4.out.s0 b6 (by omega);have hbA:=(Below.refl w4.heap.size w4).alloc (Nat.le_refl _) (.cells #[Value.bool r.write,.int .i64 r.lo,.int .i64 r.many,.slice Ad r.data.length cd,.slice At r.tags.length ct,.int .i64 r.born] 117);have Hbx6:Hid ((w4.alloc (.cells #[Value.bool r.write,.int .i64 r.lo,.int .i64 r.many,.slice Ad r.data.length cd,.slice At r.tags.length ct,.int .i64 r.born] 117)).heap[b6]?=some (.cells #[Value.bool r.write,.int .i64 r.lo,.int .i64 r.many,.slice Ad r.data.length cd,.slice At r.tags.length ct,.int .i64 r.born] 117 (0,0))):=show _=_ from hb6▸heap_alloc_new w4 _;rw [hb6];have HBA:=Lib.hid hbA;clear hbA;generalize w4.alloc _=w5 at HBA Hbx6 ⊢;have H5:=Lib.hid (H4.out.below HBA.out);have Hbx5:=Lib.hid ((HBA.out.block _ (Array.getElem?_eq_some_iff.1 Hbx4.out).1).trans Hbx4.out);have HW5:Hid (ReqsAt (S0 col) w5 (.slice A4 (s.wait.eraseIdx j).length cap4) (s.wait.eraseIdx j)):=HW4.out.below HBA.out;have Hrq5:=Lib.hid (Hrq4.out.below HBA.out);have HB05:Hid (Below w.heap.size w w5):=show Below _ _ _ from Hb1.out.trans ((HJ.out.trans ((HB4.out.trans (HBA.out.mono HB4.out.size)).mono HJ.out.size)).mono Hb1.out.size);have c3:w5.cell? ⟨b,3,none⟩=some x.wait:=H5.out.cell 3;have c4:w5.cell? ⟨b,4,none⟩=some (.bool s.turn.write):=H5.out.cell 4;have c5:w5.cell? ⟨b,5,none⟩=some (.int .i64 s.turn.gone):=H5.out.cell 5;have c6:w5.cell? ⟨b,6,none⟩=some (.int .i64 s.turn.starved):=H5.out.cell 6;have c7:w5.cell? ⟨b,7,none⟩=some (.int .i64 s.turn.wh):=H5.out.cell 7;have hfr:=fun k=>H5.out.frozen k
  have d0:w5.cell? ⟨bb,0,none⟩=some (.bool t'.write):=cell_of_row _ _ 0 _ _ _ Hbx5.out;have d1:w5.cell? ⟨bb,1,none⟩=some (.int .i64 t'.gone):=cell_of_row _ _ 1 _ _ _ Hbx5.out;have d2:w5.cell? ⟨bb,2,none⟩=some (.int .i64 t'.starved):=cell_of_row _ _ 2 _ _ _ Hbx5.out;have d3:w5.cell? ⟨bb,3,none⟩=some (.int .i64 t'.wh):=cell_of_row _ _ 3 _ _ _ Hbx5.out;have hbne:bb≠b:=by have:=Hbb.out; have:=H1.out.bl; omega
  have hb6ne:b6≠b:=by have:=H4.out.bl; omega
  go_region
  have hS6:=((((((Same1.refl (b:=b) (w:=w5)).setCell 3 (.slice A4 (s.wait.eraseIdx j).length cap4)).setCell 4 (.bool t'.write)).setCell 5 (.int .i64 t'.gone)).setCell 6 (.int .i64 t'.starved)).setCell 7 (.int .i64 t'.wh)).drew;have H6:=Lib.hid (H5.out.taken hS6 HW5.out (t:=t') (heap_setCell_same _ _ 7 _ _ _ (heap_setCell_same _ _ 6 _ _ _ (heap_setCell_same _ _ 5 _ _ _ (heap_setCell_same _ _ 4 _ _ _ (heap_setCell_same _ _ 3 _ _ _ H5.out.row))))));have HS6:=Lib.hid hS6;clear hS6 c3 c4 c5 c6 c7 hfr d0 d1 d2 d3;generalize World.drew _=w6 at H6 HS6 ⊢;go_wp2_with fail;have H7:=Lib.hid (H6.out.below (Below.refl _ _).drew);have Hbx7:Hid (w6.drew.heap[b6]?=_):=show _=_ from (HS6.out.block b6 hb6ne).trans Hbx6.out
  have Hrq7:Hid (ReqAt (Im w6.drew col) w6.drew (.agg #[.bool r.write,.int .i64 r.lo,.int .i64 r.many,.slice Ad r.data.length cd,.slice At r.tags.length ct,.int .i64 r.born]) r):=show ReqAt _ _ _ _ from
   ((Hrq5.out.keep (fun k hk _=>HS6.out.block k (fun e=>by have h1:col k=0:=hk.1; rw [e,H5.out.cb] at h1; cases h1))).below (Below.refl _ _).drew).more (fun k hk=>⟨by
    have h1:=hk.2;have h2:u.heap.size≤w6.heap.size:=by rw [HS6.out.size]; exact Nat.le_trans HB4.out.size HBA.out.size
    show k<w6.heap.size
    omega,hk.1⟩)
  have Hfl:Hid (∀ k,Fd col k→k<w6.drew.heap.size):=fun k (hk:col k=4)=>H7.out.lt k (by omega)
  have Him:Hid (∀ k,Im w6.drew col k→¬ Fd col k):=StAt.imfd;have hst:s.v.d.start r=({ s.v.d with l:=s.v.d.l ++ [r] },0):=by unfold Dv.start; rw [if_neg (by have:=H2.out; omega)]
  have Hcl:Hid (Calls Tryz.prog 88 #[.pointer (some ⟨x.bv,0,none⟩),.agg #[.bool r.write,.int .i64 r.lo,.int .i64 r.many,.slice Ad r.data.length cd,.slice At r.tags.length ct,.int .i64 r.born]] w6.drew (RetDrvS TDp TPp TVp (Im w6.drew col) (Fd col) w6.drew x.bv bd x.bt x.n { s.v with d:={ s.v.d with l:=s.v.d.l ++ [r] } } .nilIface)):=show Calls _ _ _ _ _ from by
   have:=drvstart_any (Im w6.drew col) (Fd col) w6.drew x.bv bd x.bt x.n s.v r _ H7.out.drv Hrq7.out Hfl.out Him.out (fun k hk=>hk.1) HI.out.dv.two;rw [hst] at this;exact this
  clear hst
  have K0:w6.drew.cell? ⟨b,1,none⟩=some (.pointer (some ⟨x.bv,0,none⟩))∧w6.drew.cell? ⟨b6,0,none⟩=some (.bool r.write)∧w6.drew.cell? ⟨b6,1,none⟩=some (.int .i64 r.lo)∧w6.drew.cell? ⟨b6,2,none⟩=some (.int .i64 r.many)∧w6.drew.cell? ⟨b6,3,none⟩=some (.slice Ad r.data.length cd)∧w6.drew.cell? ⟨b6,4,none⟩=some (.slice At r.tags.length ct)∧w6.drew.cell? ⟨b6,5,none⟩=some (.int .i64 r.born):=⟨H7.out.cell 1,cell_of_row _ _ 0 _ _ _ Hbx7.out,cell_of_row _ _ 1 _ _ _ Hbx7.out,cell_of_row _ _ 2 _ _ _ Hbx7.out,cell_of_row _ _ 3 _ _ _ Hbx7.out,cell_of_row _ _ 4 _ _ _ Hbx7.out,cell_of_row _ _ 5 _ _ _ Hbx7.out⟩
  go_region_held3 (fun q=>q.cell? ⟨b,1,none⟩=some (.pointer (some ⟨x.bv,0,none⟩))∧q.cell? ⟨b6,0,none⟩=some (.bool r.write)∧q.cell? ⟨b6,1,none⟩=some (.int .i64 r.lo)∧q.cell? ⟨b6,2,none⟩=some (.int .i64 r.many)∧q.cell? ⟨b6,3,none⟩=some (.slice Ad r.data.length cd)∧q.cell? ⟨b6,4,none⟩=some (.slice At r.tags.length ct)∧q.cell? ⟨b6,5,none⟩=some (.int .i64 r.born))
   (first | exact K1 | exact K0)
   (first
    |((with_reducible refine Hcl.out.mono ?_); rintro e u1 ⟨rfl,hp1,hc1⟩; have HP1:=Lib.hid hp1; have HC1:=Lib.hid hc1; have K1:u1.cell? ⟨b,1,none⟩=some (.pointer (some ⟨x.bv,0,none⟩))∧u1.cell? ⟨b6,0,none⟩=some (.bool r.write)∧u1.cell? ⟨b6,1,none⟩=some (.int .i64 r.lo)∧u1.cell? ⟨b6,2,none⟩=some (.int .i64 r.many)∧u1.cell? ⟨b6,3,none⟩=some (.slice Ad r.data.length cd)∧u1.cell? ⟨b6,4,none⟩=some (.slice At r.tags.length ct)∧u1.cell? ⟨b6,5,none⟩=some (.int .i64 r.born):=⟨(World.cell?_of_block (hc1.block b H7.out.bl (fun hf=>by have h1:col b=4:=hf; rw [H7.out.cb] at h1; cases h1))).trans K0.1,(by have hbb:=(hc1.block b6 (Array.getElem?_eq_some_iff.1 Hbx7.out).1 (fun hf=>by have h1:col b6=4:=hf; rw [Hc6.out] at h1; cases h1)).trans Hbx7.out; exact ⟨cell_of_row _ _ 0 _ _ _ hbb,cell_of_row _ _ 1 _ _ _ hbb,cell_of_row _ _ 2 _ _ _ hbb,cell_of_row _ _ 3 _ _ _ hbb,cell_of_row _ _ 4 _ _ _ hbb,cell_of_row _ _ 5 _ _ _ hbb⟩)⟩; clear hp1 hc1)
    |fail)
  all_goals
   clear K0 K1;try go_wp2_with fail
   go_ret;obtain ⟨col',hst',hrec,_⟩:=H7.out.drvd HP1.out (HC1.out.mono (fun k hk=>.inl hk)) (fun k hk=>hk) (fun k hk=>.inl hk) (fun k hk hg=>hg.elim (Him.out k hk) (fun h2=>by have h3:=hk.1; omega)) H7.out.n;rw [Hde.out];have HC07:Chg (Fl col) w w6.drew:=((Chg.of_below HB05.out).two (H5.out.chg1 (HS6.out.chg (F:=fun k=>k=b) rfl))).drew;exact ⟨col',_,rfl,hst',HC07.two (HC1.out.mono Fl.of_d),Rec.refl.trans hrec HC07.size⟩
 ·have hd2:decide (s.v.d.l.length<2)=false:=by simpa using h2
  have Hd:=Lib.hid (Inv.dispatch_no (s:=s) (.inr (by omega)));rw [hd2];clear hd2 h2 hne hwv;go_wp2_with fail;go_ret;rw [Hd.out];exact ⟨_,_,rfl,H1.out,Chg.of_below HB1.out,.refl⟩
end Go.Proofs.YtagndjihiklmiaaGreatDoor
namespace Go.Proofs.YtagndjihiklmiaaGreatDoor
open Go.RowKit
theorem pressed1_any (F:Nat→Prop) (w:World) (v:Value) (o:Option Ak) (h:AskAt Ts.A F w v o) (hk:∀ a,o=some a→AkOk a) :
  Calls Tryz.prog 119 #[v] w (Ret (.bool (isKind 2 o || isKind 3 o)) w):=by
 cases o with
 |none =>
  have hv:v=.pointer none:=h;subst hv;clear h hk;go_enter Tryz.func119,Tryz.ntmps119;go_wp2_with fail;go_ret;exact ⟨rfl,Below.refl _ _⟩
 |some a =>
  obtain ⟨ba,lv,rfl,_,hrow,_⟩:=h;have k0:w.cell? ⟨ba,0,none⟩=some (.int .i64 a.kind):=cell_of_row _ _ 0 _ _ _ hrow;have hk3:=(hk a rfl).kind;clear hrow hk;rcases hk3 with e | e | e
  ·have Hv:Hid ((isKind 2 (some a) || isKind 3 (some a))=false):=show _=_ by simp [isKind,e]
   rw [e] at k0;clear e;go_enter Tryz.func119,Tryz.ntmps119;go_wp2_with fail;go_ret;rw [Hv.out];exact ⟨rfl,Below.refl _ _⟩
  ·have Hv:Hid ((isKind 2 (some a) || isKind 3 (some a))=true):=show _=_ by simp [isKind,e]
   rw [e] at k0;clear e;go_enter Tryz.func119,Tryz.ntmps119;go_wp2_with fail;go_ret;rw [Hv.out];exact ⟨rfl,Below.refl _ _⟩
  ·have Hv:Hid ((isKind 2 (some a) || isKind 3 (some a))=true):=show _=_ by simp [isKind,e]
   rw [e] at k0;clear e;go_enter Tryz.func119,Tryz.ntmps119;go_wp2_with fail;go_ret;rw [Hv.out];exact ⟨rfl,Below.refl _ _⟩
end Go.Proofs.YtagndjihiklmiaaGreatDoor
namespace Go.Proofs.YtagndjihiklmiaaGreatDoor
open Go.RowKit
structure AsksAt (F:Nat→Nat→Prop) (w:World) (b off:Nat) (vs:List Value) (l:List (Option Ak)):Prop where
 len:vs.length=l.length
 cell:∀ (j:Nat) v,vs[j]?=some v→w.cell? ⟨b,off+j,none⟩=some v
 ask:∀ (j:Nat) v o,vs[j]?=some v→l[j]?=some o→AskAt Ts.A (F j) w v o
 ok:∀ a,some a ∈ l→AkOk a
theorem AskAt.below' {TA:TypeId} {F:Nat→Prop} {w w':World} {v:Value} {o:Option Ak} (h:AskAt TA F w v o) (hb:Below w.heap.size w w'):AskAt TA F w' v o:=h.keep (fun k _ hk=>hb.block k hk)
theorem indexp_any (F:Nat→Nat→Prop) (w:World) (b off cap:Nat) (vs:List Value) (l:List (Option Ak)) (h:AsksAt F w b off vs l) (h1:l.length≤cap) (h2:cap≤60000) :
  Calls Tryz.prog 161 #[.slice (some ⟨b,off,none⟩) l.length cap,.func (.func 119) #[] #[]] w (RetIdxB (fun n=>idxTells n (l.any (fun o=>isKind 2 o || isKind 3 o))) w):=by
 have Hl:=Lib.hid h;clear h;go_enter Tryz.func161,Tryz.ntmps161;go_wp2;go_loopw [8] (fun i wr=>∃ k:Nat,k≤l.length∧i=.int .i64 k∧Below w.heap.size w wr∧Hid ((l.take k).any (fun o=>isKind 2 o || isKind 3 o)=false)) (fun i _=>l.length - (intOf i).toNat)
 case atStart=>exact ⟨0,by omega,rfl,Below.refl _ _,rfl⟩
 case round =>
  obtain ⟨k,hk,rfl,hw,hall⟩:=hrel;by_cases hlt:k<l.length
  ·have hx:l[k]?=some l[k]:=List.getElem?_eq_getElem hlt
   have hvl:k<vs.length:=by rw [Hl.out.len]; exact hlt
   have hv:vs[k]?=some vs[k]:=List.getElem?_eq_getElem hvl;have k0:=cell_b hw (Hl.out.cell k _ hv);have Hat:=Lib.hid ((Hl.out.ask k _ _ hv hx).below' hw);have Hok:Hid (∀ a,l[k]=some a→AkOk a):=fun a e=>Hl.out.ok a (e▸List.getElem_mem hlt)
   have Hx:=Lib.hid hx;clear hx hv;generalize l[k]=o at *;generalize vs[k]=vk at *;go_wp2_with fail;refine (pressed1_any (F k) wr vk o Hat.out Hok.out).mono ?_;rintro e w1 ⟨rfl,hb1⟩;have hw1:=hw.trans (hb1.mono hw.size);clear k0 hb1
   cases hs:(isKind 2 o || isKind 3 o) with
   |false =>
    have Hm:=Lib.hid hs;clear hs;go_wp2_with fail;go_roundw
    case rel=>exact ⟨k+1,by omega,by go_num,hw1,by show _=false; rw [any_take_succ _ _ _ _ Hx.out,hall.out,Hm.out]; rfl⟩
    case measure=>simp [intOf]; omega
   |true =>
    have Hm:=Lib.hid hs;clear hs;go_wp2_with fail;go_ret;refine ⟨k,rfl,?_,hw1⟩;rw [any_yes _ _ _ _ Hx.out Hm.out];simp [idxTells]
  ·go_wp2
   go_ret;refine ⟨-1,rfl,?_,hw⟩;rw [any_end _ _ _ (by omega) hall.out];simp [idxTells]
theorem containsp_any (F:Nat→Nat→Prop) (w:World) (b off cap:Nat) (vs:List Value) (l:List (Option Ak)) (h:AsksAt F w b off vs l) (h1:l.length≤cap) (h2:cap≤60000) :
  Calls Tryz.prog 118 #[.slice (some ⟨b,off,none⟩) l.length cap,.func (.func 119) #[] #[]] w (Ret (.bool (l.any (fun o=>isKind 2 o || isKind 3 o))) w):=by
 go_enter Tryz.func118,Tryz.ntmps118;go_wp2_with fail;refine (indexp_any F w b off cap vs l h h1 h2).mono ?_;rintro e w1 ⟨n,rfl,hn,hb1⟩;go_wp2_with fail;go_ret;refine ⟨?_,hb1⟩
 cases hb:(l.any (fun o=>isKind 2 o || isKind 3 o)) with
 |true=>rw [hb] at hn; have:=hn.2 rfl; simp [this]
 |false=>rw [hb] at hn; have:¬ 0≤n:=fun h=>by cases hn.1 h
         simp; omega
end Go.Proofs.YtagndjihiklmiaaGreatDoor
namespace Go.Proofs.YtagndjihiklmiaaGreatDoor
open Go.RowKit
theorem asks_row {col:Nat→Nat} {w:World} {b bd N:Nat} {x:Sv} {s:St} (h:StAt Ts col w b bd N x s) (hI:Inv s):AsksAt (Fa col) w b 11 [x.a0,x.a1,x.a2] s.asks:=by
 have h3:=h.asks;refine ⟨by rw [h3]; rfl,fun j v hv=>?_,fun j v o hv ho=>?_,fun a ha=>?_⟩
 ·match j,hv with
  |0,hv=>cases hv; exact h.cell 11
  |1,hv=>cases hv; exact h.cell 12
  |2,hv=>cases hv; exact h.cell 13
 ·have e:s.askAt j=o:=by unfold St.askAt; rw [List.getD_eq_getElem?_getD,ho]; rfl
  match j,hv with
  |0,hv=>cases hv; exact e▸h.ask 0 (by omega)
  |1,hv=>cases hv; exact e▸h.ask 1 (by omega)
  |2,hv=>cases hv; exact e▸h.ask 2 (by omega)
 ·obtain ⟨j,hj⟩:=List.mem_iff_getElem?.1 ha
  exact hI.ask j a (by unfold St.askAt; rw [List.getD_eq_getElem?_getD,hj]; rfl)
theorem pressed_any (col:Nat→Nat) (w:World) (b bd N:Nat) (x:Sv) (s:St) (h:StAt Ts col w b bd N x s) (hI:Inv s) :
  Calls Tryz.prog 80 #[.pointer (some ⟨b,0,none⟩)] w (Ret (.bool s.pressed) w):=by
 have H:=Lib.hid h;have HI:=Lib.hid hI;have hA:=asks_row h hI;have h3:=h.asks;have Hp:Hid (s.pressed=(decide (3≤dirtyB s.bufs) || s.asks.any (fun o=>isKind 2 o || isKind 3 o))):=show _=_ from rfl;have Hrow:=Lib.hid h.row;have HA:=Lib.hid hA;have H3:=Lib.hid h3;clear h hI hA h3;go_enter Tryz.func80,Tryz.ntmps80;go_wp2_with fail;refine (stdirty_any col w b bd N x s H.out HI.out.len8).mono ?_;rintro e w1 ⟨rfl,hb1⟩;have HB1:=Lib.hid hb1;clear hb1;rcases Nat.lt_or_ge (dirtyB s.bufs) 3 with h6 | h6
 ·have hn6:decide ((3:Int)≤(dirtyB s.bufs:Int))=false:=by rw [decide_eq_false_iff_not]; omega
  have Hd:Hid (decide (3≤dirtyB s.bufs)=false):=show _=_ by rw [decide_eq_false_iff_not]; omega
  clear h6;go_wp2_with fail;have hA1:AsksAt (Fa col) w1 b 11 [x.a0,x.a1,x.a2] s.asks:=asks_row (H.out.below HB1.out) HI.out;have hc:=containsp_any (Fa col) w1 b 11 3 _ _ hA1 (by rw [H3.out]; omega) (by omega);rw [H3.out] at hc;refine hc.mono ?_;rintro e w2 ⟨rfl,hb2⟩;have HB2:=Lib.hid hb2;clear hb2 hc hA1;go_wp2_with fail;go_ret;rw [Hp.out,Hd.out];exact ⟨by simp,HB1.out.trans (HB2.out.mono HB1.out.size)⟩
 ·have hn6:decide ((3:Int)≤(dirtyB s.bufs:Int))=true:=by rw [decide_eq_true_iff]; omega
  have Hd:Hid (decide (3≤dirtyB s.bufs)=true):=show _=_ by rw [decide_eq_true_iff]; omega
  clear h6;go_wp2_with fail;go_ret;rw [Hp.out,Hd.out];exact ⟨by simp,HB1.out⟩
end Go.Proofs.YtagndjihiklmiaaGreatDoor
namespace Go.Proofs.YtagndjihiklmiaaGreatDoor
open Go.RowKit Go.Sort
theorem clean_st (col:Nat→Nat) (w:World) (b bd N:Nat) (x:Sv) (s:St) (h:StAt Ts col w b bd N x s) (hI:Inv s) (hu:s.use≤900000000∧s.tag≤900000000) :
  Calls Tryz.prog 46 #[.pointer (some ⟨b,0,none⟩)] w (Ret2 Ts col w b bd N x s.clean.1 (.bool s.clean.2)):=by
 have H:=Lib.hid h;have HI:=Lib.hid hI;have Hub:=Lib.hid hu;have c11:w.cell? ⟨b,20,none⟩=some (.bool s.dead):=h.cell 20;have c2:w.cell? ⟨b,2,none⟩=some x.bufs:=h.cell 2;have Hc:Hid (s.clean=if s.dead || !s.pressed then (s,false) else if pickB s.bufs s.heldP<0 then (s,false) else s.queue true (pickB s.bufs s.heldP) (getB s.bufs (pickB s.bufs s.heldP)).1.data):=show _=_ from rfl;have Hby:Hid (HeldBy w 82 #[.pointer (some ⟨b,0,none⟩)] #[] s.heldP):=held_by col w b bd N x s h (good_oks hI.good) hI.dv.two;have Hin:Hid (InB s.bufs):=hI.inb;have Hln:Hid (s.bufs.length≤65536):=show _≤_ by have:=hI.len8; omega
 have hz:=zero_buf;clear h hI hu;go_enter Tryz.func46,Tryz.ntmps46
 cases hd:s.dead with
 |true =>
  have Hd:=Lib.hid hd;rw [hd] at c11;clear hd;go_wp2_with fail;go_ret;rw [Hc.out,Hd.out];exact ⟨_,rfl,H.out,Chg.refl,.refl⟩
 |false =>
  have Hd:=Lib.hid hd;rw [hd] at c11;clear hd;go_wp2_with fail;refine (pressed_any col w b bd N x s H.out HI.out).mono ?_;rintro e w1 ⟨rfl,hb1⟩;have HB1:=Lib.hid hb1;have H1:=Lib.hid (H.out.below hb1);have c2':=cell_b hb1 c2;clear hb1 c11 c2
  cases hp:s.pressed with
  |false =>
   have Hp:=Lib.hid hp;clear hp;go_wp2_with fail;go_ret;rw [Hc.out,Hd.out,Hp.out];exact ⟨_,rfl,H1.out,Chg.of_below HB1.out,.refl⟩
  |true =>
   have Hp:=Lib.hid hp;clear hp;go_wp2_with fail;refine (pick_any (Im w1 col) s.bufs x.bufs 82 #[.pointer (some ⟨b,0,none⟩)] #[] s.heldP w1 H1.out.bufs Hin.out (Hby.out.step HB1.out) Hln.out).mono ?_;rintro e w2 ⟨rfl,hb2⟩;have HB2:=Lib.hid hb2;have H2:=Lib.hid (H1.out.below hb2);have c3:=cell_b hb2 c2';clear hb2 c2';by_cases hn:pickB s.bufs s.heldP<0
   ·have hnd:decide (pickB s.bufs s.heldP<0)=true:=by simpa using hn
    have Hn:=Lib.hid hn;clear hn;go_wp2_with fail;go_ret;rw [Hc.out,Hd.out,Hp.out,if_neg (by decide),if_pos Hn.out];exact ⟨_,rfl,H2.out,Chg.of_below (HB1.out.trans (HB2.out.mono HB1.out.size)),.refl⟩
   ·have hnd:decide (pickB s.bufs s.heldP<0)=false:=by simpa using hn
    obtain ⟨y,hy,hpos,hg,_⟩:=pick_some HI.out.rises hn;have Hpr:Hid (0≤pickB s.bufs s.heldP∧pickB s.bufs s.heldP≤31):=show _∧_ from hpos▸HI.out.inb y hy;have Hsz:Hid ((getB s.bufs (pickB s.bufs s.heldP)).1.data.size≤16):=show _≤_ by rw [hg]; exact HI.out.size y hy
    have Hn:=Lib.hid hn;clear hn hy hpos hg;go_wp2_with fail;refine (get_st H2.out HI.out _ w2 (Below.refl _ _)).mono ?_;rintro e w3 ⟨rfl,hb3⟩;have HB3:=Lib.hid hb3;clear hb3 c3;go_wp2_with fail;refine (queue_any col _ b bd N x s true (pickB s.bufs s.heldP) (getB s.bufs (pickB s.bufs s.heldP)).1.data ((H2.out.below HB3.out).below ((Below.refl _ _).alloc (Nat.le_refl _) _)) (good_oks (good_app.1 HI.out.good).1) HI.out.wait6 ⟨HI.out.tag0,by have:=Hub.out; omega⟩ HI.out.now Hpr.out Hsz.out).mono ?_;rintro e w4 ⟨y4,rfl,hst4,hc4,hav⟩;have Hav:=Lib.hid hav;have Hst4:=Lib.hid hst4;have Hc4:=Lib.hid hc4;clear hst4 hc4 hav;go_wp2_with fail;go_ret;rw [Hc.out,Hd.out,Hp.out,if_neg (by decide),if_neg (Int.not_lt.2 Hn.out)];exact ⟨_,rfl,Hst4.out,((Chg.of_below (HB1.out.trans ((HB2.out.trans (HB3.out.mono HB2.out.size)).mono HB1.out.size))).step ((Below.refl _ _).alloc (Nat.le_refl _) _)).trans (Hc4.out.mono (fun k hk=>.inl hk)),Hav.out⟩
end Go.Proofs.YtagndjihiklmiaaGreatDoor
namespace Go.Proofs.YtagndjihiklmiaaGreatDoor
open Go.RowKit Go.Sort
def RetNew (T:Tys) (F:Nat→Prop) (w:World) (bd:Nat) (d:Dv):Ending→World→Prop :=
 fun e w'=>∃ (b:Nat) (col:Nat→Nat) (y:Sv),e=.returned (.pointer (some ⟨b,0,none⟩))∧StAt T col w' b bd 0 y (St.new d)∧Below w.heap.size w w'∧(∀ k,Fl col k→F k∨w.heap.size≤k)∧w.heap.size≤b
theorem stnew_any (S F:Nat→Prop) (w:World) (bd:Nat) (d:Dv) (h:DevAt TDp TPp S F w bd d) (hF:∀ k,F k→k<w.heap.size) (hSlt:∀ k,S k→k<w.heap.size) (hSF:∀ k,S k→¬ F k) :
  Calls Tryz.prog 35 #[.pointer (some ⟨bd,0,none⟩)] w (RetNew Ts F w bd d):=by
 classical
 have H:=Lib.hid h;have HF:=Lib.hid hF;have Hlt:=Lib.hid hSlt;have HSF:=Lib.hid hSF;clear h hF hSlt hSF;go_enter Tryz.func35,Tryz.ntmps35;go_wp2_with fail;refine (drvnew_any S F w bd d H.out HF.out Hlt.out).mono ?_;rintro e w1 ⟨rfl,hp,hb1,hs1⟩
 obtain ⟨bv,hbv⟩:∃ n,w.heap.size+1=n:=⟨_,rfl⟩
 have Hbv:=Lib.hid hbv;rw [hbv] at hp ⊢;have Hp:=Lib.hid hp;have HB1:=Lib.hid hb1;have Hs1:=Lib.hid hs1
 obtain ⟨x,hx⟩:∃ x:Sv,x=⟨bv,w.heap.size,0,.slice none 0 0,.slice none 0 0,.pointer none,.pointer none,.pointer none,noB,noB,noB,0,0,0⟩:=⟨_,rfl⟩
 clear hp hb1 hs1 hbv;go_wp2_with fail;go_ret
 obtain ⟨o,ho⟩:∃ o:Obj,o=.cells (x.row (St.new d) bd) Ts.S:=⟨_,rfl⟩
 have hoe:o=.cells (x.row (St.new d) bd) Ts.S:=ho;have hA:Below w1.heap.size w1 (w1.alloc o):=(Below.refl _ _).alloc (Nat.le_refl _) _;have hnew:(w1.alloc o).heap[w1.heap.size]?=some o:=heap_alloc_new _ _;have hsz:(w1.alloc o).heap.size=w1.heap.size+1:=by simp
 have hs1:=Hs1.out;have hbv:=Hbv.out;have hwo:w1.alloc (.cells #[.pointer (some ⟨bd,0,none⟩),.pointer (some ⟨bv,0,none⟩),.slice none 0 0,.slice none 0 0,.bool false,.int .i64 0,.int .i64 0,.int .i64 0,.int .i64 0,.int .i64 0,.int .i64 0,.pointer none,.pointer none,.pointer none,.string ⟨#[]⟩,.string ⟨#[]⟩,.string ⟨#[]⟩,.int .i64 0,.int .i64 0,.int .i64 0,.bool false] 145)=w1.alloc o:=by rw [hoe,hx]; rfl
 rw [hwo];generalize w1.alloc o=w2 at hA hnew hsz;rw [hoe] at hnew
 obtain ⟨col,hcol⟩:∃ f:Nat→Nat,∀ k,f k=if k=w1.heap.size then 1 else if k=bv then 2 else if k=w.heap.size then 3 else if F k then 4 else 0:=⟨_,fun _=>rfl⟩
 have c1:col w1.heap.size=1:=by rw [hcol,if_pos rfl]
 have c2:col bv=2:=by rw [hcol,if_neg (by omega),if_pos rfl]
 have c3:col w.heap.size=3:=by rw [hcol,if_neg (by omega),if_neg (by omega),if_pos rfl]
 have c4:∀ k,F k→col k=4:=fun k hk=>by have:=HF.out k hk; rw [hcol,if_neg (by omega),if_neg (by omega),if_neg (by omega),if_pos hk]
 have c0:∀ k,S k→col k=0:=fun k hk=>by have:=Hlt.out k hk; rw [hcol,if_neg (by omega),if_neg (by omega),if_neg (by omega),if_neg (HSF.out k hk)]
 have hdrv:=Hp.out.below hA;have e1:x.bv=bv:=by rw [hx]
 have e2:x.bt=w.heap.size:=by rw [hx]
 have e3:x.n=0:=by rw [hx]
 have e4:x.bufs=.slice none 0 0:=by rw [hx]
 have e5:x.wait=.slice none 0 0:=by rw [hx]
 refine ⟨w1.heap.size,col,x,rfl,⟨hnew,?_,by rw [e3]; exact Nat.le_refl _,?_,?_,rfl,fun c hc=>?_,by rw [hx]; rfl,by rw [hx]; rfl,c1,by rw [e1]; exact c2,by rw [e2]; exact c3,fun k hk=>?_⟩,HB1.out.trans (hA.mono HB1.out.size),fun k hk=>?_,HB1.out.size⟩
 ·rw [e1,e2,e3]
  refine ⟨hdrv.row,hdrv.map,(hdrv.dev.mono c4).more (fun k hk=>⟨by have:=Hlt.out k hk; omega,c0 k hk⟩),?_,?_,?_⟩
  ·intro h1; have h2:col bv=4:=h1; rw [c2] at h2; cases h2
  ·intro h1; have h2:col w.heap.size=4:=h1; rw [c3] at h2; cases h2
  ·intro k hk
   constructor
   ·rintro rfl; have h2:=hk.2; rw [c2] at h2; cases h2
   ·rintro rfl; have h2:=hk.2; rw [c3] at h2; cases h2
 ·rw [e4]; exact BufsAt.nil
 ·rw [e5]; exact ⟨[],rfl,Rd.nil,by simp⟩
 ·match c,hc with
  |0,_=>show x.a0=_; rw [hx]
  |1,_=>show x.a1=_; rw [hx]
  |2,_=>show x.a2=_; rw [hx]
 ·rw [hcol] at hk
  split at hk
  ·omega
  ·split at hk
   ·omega
   ·split at hk
    ·omega
    ·split at hk
     ·rename_i hf; have:=HF.out k hf; omega
     ·exact absurd rfl hk
 ·have h1:col k≠0:=hk.1
  rw [hcol] at h1
  split at h1
  ·right; omega
  ·split at h1
   ·right; omega
   ·split at h1
    ·right; omega
    ·split at h1
     ·rename_i hf; exact .inl hf
     ·exact absurd rfl h1
theorem quiet_iff {s:St} (h3:s.asks.length=3):s.quiet=true↔(∀ c,c<3→s.askAt c=none)∧s.wait=[]∧s.v.d.l=[]:=by
 unfold St.quiet St.askAt;obtain ⟨v,bf,wt,tn,nw,us,tg,aks,dn,er,dd⟩:=s
 match aks,h3 with
 | [a0,a1,a2],_ =>
  simp only [List.all_cons,List.all_nil,Bool.and_true,Bool.and_eq_true,Option.isNone_iff_eq_none,List.isEmpty_iff];constructor
  ·rintro ⟨⟨⟨h0,h1,h2⟩,h4⟩,h5⟩
   refine ⟨fun c hc=>?_,h4,h5⟩
   match c,hc with
   |0,_=>exact h0
   |1,_=>exact h1
   |2,_=>exact h2
  ·rintro ⟨h1,h4,h5⟩
   exact ⟨⟨⟨h1 0 (by omega),h1 1 (by omega),h1 2 (by omega)⟩,h4⟩,h5⟩
theorem quiet_any (col:Nat→Nat) (w:World) (b bd N:Nat) (x:Sv) (s:St) (h:StAt Ts col w b bd N x s) (hI:Inv s) :
  Calls Tryz.prog 95 #[.pointer (some ⟨b,0,none⟩)] w (Ret (.bool s.quiet) w):=by
 have H:=Lib.hid h;have HI:=Lib.hid hI;clear h hI;go_enter Tryz.func95,Tryz.ntmps95;go_wp2_with fail;go_loop [4] (fun i=>∃ k:Nat,k≤3∧i=.int .i64 k∧Hid (∀ j,j<k→s.askAt j=none)) (fun i=>3 - (intOf i).toNat)
 case atStart=>exact ⟨0,by omega,rfl,fun j hj=>by omega⟩
 case round =>
  obtain ⟨k,hk,rfl,HN⟩:=hrel;by_cases h3:k<3
  ·have h3':(k:Int)<3:=by omega
   go_wp2_with fail;refine (waits_any col w b bd N x s k H.out h3).mono ?_;rintro e w1 ⟨rfl,rfl⟩
   cases ho:s.askAt k with
   |some a =>
    have HQ:Hid (s.quiet=false):=show _=_ by
     rw [Bool.eq_false_iff];intro hq;rw [((quiet_iff H.out.asks).1 hq).1 k h3] at ho
     cases ho
    clear ho;simp only [Option.isSome_some];go_wp2_with fail;go_ret;rw [HQ.out];exact ⟨rfl,Below.refl _ _⟩
   |none =>
    have Ho:=Lib.hid ho;clear ho;simp only [Option.isSome_none];go_wp2_with fail;go_round
    case rel =>
     refine ⟨k+1,by omega,by go_num,fun j hj=>?_⟩;rcases Nat.lt_or_ge j k with h | h
     ·exact HN.out j h
     ·obtain rfl:j=k:=by omega
      exact Ho.out
    case measure=>simp [intOf]; omega
  ·obtain rfl:k=3:=by omega
   have h3':((3:Nat):Int)=3:=rfl;go_wp2_with fail;refine (stqueue_any col w b bd N x s H.out HI.out.wait6).mono ?_;rintro e w1 ⟨v1,rfl,hv1,hb1⟩;obtain ⟨A1,c1,e1,_,_⟩:=hv1.form;subst e1;have HB1:=Lib.hid hb1;clear hv1 hb1;by_cases hw:s.wait=[]
   ·have hl:s.wait.length=0:=by rw [hw]; rfl
    have Hw:=Lib.hid hw;rw [hl];clear hw hl;go_wp2_with fail;refine (stbusy_any col w1 b bd N x s (H.out.below HB1.out) HI.out.dv.two).mono ?_;rintro e w2 ⟨v2,rfl,hv2,hb2⟩;obtain ⟨A2,c2,e2,_,_⟩:=hv2.form;subst e2;have HB2:=Lib.hid hb2;clear hv2 hb2;by_cases hl:s.v.d.l=[]
    ·have HQ:Hid (s.quiet=true):=show _=_ from (quiet_iff H.out.asks).2 ⟨HN.out,Hw.out,hl⟩
     have hn:s.v.d.l.length=0:=by rw [hl]; rfl
     rw [hn];clear hl hn;go_wp2_with fail;go_ret;rw [HQ.out];exact ⟨rfl,HB1.out.trans (HB2.out.mono HB1.out.size)⟩
    ·have HQ:Hid (s.quiet=false):=show _=_ by
      rw [Bool.eq_false_iff];intro hq;exact hl ((quiet_iff H.out.asks).1 hq).2.2
     have hn:(((s.v.d.l.length:Nat):Int) == 0)=false:=by simp only [beq_eq_false_iff_ne]; have:=List.length_pos_iff.2 hl; omega
     go_wp2_with fail;go_ret;rw [HQ.out];exact ⟨rfl,HB1.out.trans (HB2.out.mono HB1.out.size)⟩
   ·have HQ:Hid (s.quiet=false):=show _=_ by
     rw [Bool.eq_false_iff];intro hq;exact hw ((quiet_iff H.out.asks).1 hq).2.1
    have hn:(((s.wait.length:Nat):Int) == 0)=false:=by simp only [beq_eq_false_iff_ne]; have:=List.length_pos_iff.2 hw; omega
    go_wp2_with fail;go_ret;rw [HQ.out];exact ⟨rfl,HB1.out⟩
end Go.Proofs.YtagndjihiklmiaaGreatDoor
