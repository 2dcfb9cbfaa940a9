/- The reference's stack: serve: a client that writes. -/
import Derived.Test.YtagndjihiklmiaaGreatDoorQ31
set_option linter.unusedSimpArgs false
set_option linter.unusedVariables false
set_option maxRecDepth 100000
set_option maxHeartbeats 8000000
namespace Go.Proofs.YtagndjihiklmiaaGreatDoor
open Go.RowKit Go.Sort
theorem srv_write (C:Code) (Q:Exit→Act→World→Prop) (col:Nat→Nat) (w:World) (b bd N k:Nat) (a0:Act) (wr:World) (col1:Nat→Nat) (y:Sv) (t:St) (a:Ak) (ba:Nat) (h:Srv C Q col w b bd N k a0 wr col1 y t a ba) (hk1:¬ a.kind=1) (hdd:t.dead=false) (hk2:a.kind=2):C.wp Tryz.prog Q a0 wr:=by
 obtain ⟨hC,h3,z1,z2,z3,z4,hst,hch,hrec,hIn,hu,ho,ep,hto⟩:=h;obtain ⟨f,rfl⟩:=frame_srv a0 z1 z2 z3 z4;have HT:=Lib.hid hto;have HS:=Lib.hid hst;have HC:=Lib.hid hch;have HR:=Lib.hid hrec;have HIn:=Lib.hid hIn;have Hu:=Lib.hid hu;have hz:=zero_buf;obtain ⟨j0,hj0,hy0,hy1,hy2⟩:=info_parts intInfo;have hk3:(k:Int)<3:=by omega
 have hk0:¬ (k:Int)<0:=by omega
 have cA:wr.cell? ⟨b,11+k,none⟩=some (.pointer (some ⟨ba,0,none⟩)):=(hst.cellA h3).trans (congrArg some ep);obtain ⟨lv,hrow,hfa,how⟩:=hst.askc h3 ho ep;have Hne:=Lib.hid (hst.ask_ne hfa);have Ha:=Lib.hid (hIn.ask k a ho);have Ho:=Lib.hid ho;have Ep:=Lib.hid ep;have Hrow:=Lib.hid hrow;have How:=Lib.hid how;have k0:wr.cell? ⟨ba,0,none⟩=some (.int .i64 a.kind):=cell_of_row _ _ 0 _ _ _ hrow;have p1:wr.cell? ⟨ba,1,none⟩=some (.int .i64 a.pos):=cell_of_row _ _ 1 _ _ _ hrow;have c2:wr.cell? ⟨b,2,none⟩=some y.bufs:=hst.cell 2
 have hgg:∃ g,getB t.bufs a.pos=g:=⟨_,rfl⟩
 obtain ⟨g,hg⟩:=hgg;have Hg:=Lib.hid hg;have Hfb:Hid (Fl col1 b):=show _∧_ from ⟨by rw [hst.cb]; decide,by rw [hst.cb]; decide⟩;have Hln:Hid (t.bufs.length≤65536):=show _≤_ by have:=hIn.len8; omega
 have Hlo:Hid (0≤a.pos∧a.pos<32):=show _∧_ by have:=Ha.out.lo; have:=Ha.out.hi; omega
 obtain ⟨hs,hhs⟩:∃ l,hlOf t=l:=⟨_,rfl⟩
 have hlen:hs.length=32:=hhs▸hlOf_len t;have Hhs:=Lib.hid hhs;have Hlen:=Lib.hid hlen;have hC:=Option.some.inj (Eq.symm hC);subst hC;clear z1 z2 z3 z4 hst hch hrec hIn hu hto hhs hlen ho ep hrow how hfa hg;have hk1b:(a.kind == 1)=false:=by simp only [beq_eq_false_iff_ne]; exact hk1
 have c20:wr.cell? ⟨b,20,none⟩=some (.bool t.dead):=HS.out.cell 20;have Hdd:=Lib.hid hdd;rw [hdd] at c20;clear hdd;have Hsv:Hid (t.serve1 k=t.write k a):=show _=_ from serve1_write Ho.out hk2;rw [hk2] at k0;clear hk2 hk1 hk1b;go_wp2_with fail;clear cA k0 c20
 obtain ⟨FB,hFB⟩:∃ F:Array Value,F=#[.int .i64 g.1.pos,.string g.1.data,.bool g.1.dirty,.int .i64 g.1.used]:=⟨_,rfl⟩
 refine wp_region_ev mixed [(103,fun v _=>v=(.pointer (some ⟨b,0,none⟩))),(104,fun v _=>v=(.pointer (some ⟨b,0,none⟩))),(105,fun v _=>v=(.pointer (some ⟨b,2,none⟩))),(106,fun v _=>v=y.bufs),(107,fun v _=>v=(.pointer (some ⟨ba,0,none⟩))),(108,fun v _=>v=(.pointer (some ⟨ba,0,none⟩))),(109,fun v _=>v=(.pointer (some ⟨ba,1,none⟩))),(110,fun v _=>v=(.int .i64 a.pos)),(111,fun v _=>v=(.tuple #[.agg #[.int .i64 g.1.pos,.string g.1.data,.bool g.1.dirty,.int .i64 g.1.used],.bool g.2])),(102,fun v _=>v=(.tuple #[.agg #[.int .i64 g.1.pos,.string g.1.data,.bool g.1.dirty,.int .i64 g.1.used],.bool g.2])),(112,fun v _=>v=(.agg #[.int .i64 g.1.pos,.string g.1.data,.bool g.1.dirty,.int .i64 g.1.used])),(113,fun v _=>v=(.bool g.2)),(7,BxF 107 FB wr.heap.size),(8,fun v _=>v=(.bool g.2))] (fun u=>Below wr.heap.size wr u) (BR 107 FB wr.heap.size) (BxE 107 FB 13) (by as_aux_lemma=>kernel_rfl) rfl (by decide) (Below.refl _ _).drew ?st103 (fun k vs u u' h hr=>h.step hr) ?steps103 ?fin103;case st103=>repeat' first | exact trivial | exact fun v u u' h hr=>h.step hr | exact fun v u u' h _=>h | refine ⟨?_,?_⟩
 case steps103 =>
  refine ⟨?_,?_,?_,?_,?_,?_,?_,?_,?a103,?_,?_,?_,?b103,?c103,?_,trivial⟩
  case a103 =>
   intro ρ u hp hJ hr;have r1:ρ _=y.bufs:=hr.1;have r2:ρ _=.int .i64 a.pos:=hr.2.1;clear hr;refine gives_enter (f:=60) (args:=#[y.bufs,.int .i64 a.pos]) (w':=u) ?_ ((rget_st HS.out HIn.out _ Hg.out u hJ).mono ?_)
   ·have hpf:=hp.func 60
    go_simp
   rintro e u' ⟨rfl,hb⟩;exact ⟨_,rfl,rfl,hJ.trans (hb.mono hJ.size),BR.below hb,fun h=>absurd h (by decide)⟩
  case b103 =>
   intro ρ u hp hJ hr;clear hr;refine gives_value (v:=.pointer (some ⟨u.heap.size,0,none⟩)) (w':=u.alloc (.cells #[.int .i64 0,.string ⟨#[]⟩,.bool false,.int .i64 0] 107)) ?_ ⟨⟨_,rfl,hJ.size,⟨_,by rw [hFB]; rfl,heap_alloc_new _ _⟩⟩,hJ.trans (((Below.refl _ _).alloc (Nat.le_refl _) _).mono hJ.size),BR.below ((Below.refl _ _).alloc (Nat.le_refl _) _),fun h=>absurd h (by decide)⟩;go_simp
  case c103 =>
   intro ρ u hp hJ hr;obtain ⟨bb,y0,y1,y2,y3,e1,z0,z1,z2,z3,f0,g1,g2,g3⟩:=bx_store hr.1 hFB;have r2:ρ _=.agg #[.int .i64 g.1.pos,.string g.1.data,.bool g.1.dirty,.int .i64 g.1.used]:=hr.2.1;clear hr;refine gives_skip (w':=_) ?_ ⟨trivial,hJ.trans g3,g1,BxE.at e1 rfl g2⟩;clear g1 g2 g3;go_simp
  all_goals
   intro ρ u hp hJ hr;have r1:ρ _=_:=hr.1;clear hr;have d2:=cell_b hJ c2;have d1:=cell_b hJ p1;refine gives_value (v:=_) (w':=u) ?_ ⟨rfl,hJ,BR.refl _,fun h=>absurd h (by decide)⟩;go_simp
 intro f u hF hJ hU hE;have f4:BxF 107 FB wr.heap.size (f 7) u:=hF.2.2.2.2.2.2.2.2.2.2.2.2.1;have f5:f 8=.bool g.2:=hF.2.2.2.2.2.2.2.2.2.2.2.2.2.1;obtain ⟨bb,e6,hbb,hbz⟩:=f4;have hbx:u.heap[bb]?=some (.cells FB 107 (0,0)):=hE 13 _ rfl rfl bb (by rw [argsOf_store rfl,e6]; rfl);clear hF hU hE c2 p1;rw [hFB] at hbx;clear hbz hFB FB;have HJ:=Lib.hid hJ;have Hbx:=Lib.hid hbx;have Hbb:=Lib.hid hbb;clear hJ hbx hbb;simp only [laid];have H1:=Lib.hid (HS.out.below HJ.out);have z2:u.cell? ⟨bb,2,none⟩=some (.bool g.1.dirty):=cell_of_row _ _ 2 _ _ _ Hbx.out;have c2:u.cell? ⟨b,2,none⟩=some y.bufs:=H1.out.cell 2;have Hst:Hid (St.still t.bufs a.pos=(g.2 && g.1.dirty)):=show _=_ by unfold St.still; rw [Hg.out]
 go_upto_region 18 with fail
 simp only [Act.put,List.setIfInBounds_toArray,List.set_cons_succ,List.set_cons_zero];rw [e6,f5];go_cut [8,128] from 15 to 221 (fun _ v wx=>v=.bool (!(g.2 && g.1.dirty) && decide ((6:Int)≤(dirtyB t.bufs:Int)))∧Hid (Below u.heap.size u wx))
 case first =>
  clear f5
  cases hg2:g.2 with
  |true =>
   have Hg2:=Lib.hid hg2
   cases hgd:g.1.dirty with
   |true =>
    have Hgd:=Lib.hid hgd;rw [hgd] at z2;clear hg2 hgd;go_wp2_with fail;go_meet
    case rel=>exact ⟨by simp [Hg2.out,Hgd.out],Below.refl _ _⟩
   |false =>
    have Hgd:=Lib.hid hgd;rw [hgd] at z2;clear hg2 hgd;go_wp2_with (refine (rdirty_any _ t.bufs y.bufs _ H1.out.bufs Hln.out).mono ?_; rintro e u' ⟨rfl,hb1⟩);go_meet
    case rel=>exact ⟨by simp [Hg2.out,Hgd.out],hb1⟩
  |false =>
   have Hg2:=Lib.hid hg2;clear hg2 z2;go_wp2_with (refine (rdirty_any _ t.bufs y.bufs _ H1.out.bufs Hln.out).mono ?_; rintro e u' ⟨rfl,hb1⟩);go_meet
   case rel=>exact ⟨by simp [Hg2.out],hb1⟩
 case rest =>
  obtain ⟨hv,HB2⟩:=hcut;subst hv;have H2:=Lib.hid (H1.out.below HB2.out);have HBw:Hid (Below wr.heap.size wr wc):=show Below _ _ _ from HJ.out.trans (HB2.out.mono HJ.out.size);have Hr2:=Lib.hid ((HBw.out.block _ (Array.getElem?_eq_some_iff.1 Hrow.out).1).trans Hrow.out);clear z2 c2 Hbx Hbb
  cases hfull:(!(g.2 && g.1.dirty) && decide ((6:Int)≤(dirtyB t.bufs:Int))) with
  |true =>
   have Hwr:Hid (t.write k a=t):=show _=_ from write_full Hdd.out (by rw [Hst.out,← hfull]; congr 1; exact decide_eq_decide.2 (by omega));clear hfull;go_wp2_with fail;refine HT.out _ _ rfl rfl rfl (by first | rfl | go_num) ?_;rw [Hsv.out,Hwr.out];exact A5.to HC.out HR.out H2.out (Chg.of_below HBw.out)
  |false =>
   have Hwf:Hid ((!St.still t.bufs a.pos && decide (6≤dirtyB t.bufs))=false):=show _=_ by rw [Hst.out,← hfull]; congr 1; exact decide_eq_decide.2 (by omega)
   clear hfull
   have Hdl:Hid ((∃ e,atB t.bufs a.pos=some (e,true))∨dirtyB t.bufs<6):=show _∨_ by
    have h:=Hwf.out
    cases hs:St.still t.bufs a.pos with
    |true=>exact .inl (HIn.out.still_at.1 hs)
    |false=>rw [hs] at h; right; simpa using h
   have c9:wc.cell? ⟨b,9,none⟩=some (.int .i64 t.use):=H2.out.cell 9;have f9:=H2.out.frozen 9;have hw:IntKind.i64.wrap (t.use+1)=t.use+1:=by have:=Hu.out; rw [IntKind.wrap_i64]; omega
   go_wp2_with fail;have hS4:=(Same1.refl (b:=b) (w:=wc)).setCell 9 (.int .i64 (t.use+1));have H4:=Lib.hid (H2.out.used hS4 (n:=t.use+1) (heap_setCell_same _ _ 9 _ _ _ H2.out.row));have HK4:=Lib.hid ((Chg.of_below HBw.out).two (hS4.chg Hfb.out));have hr4:=(hS4.block ba Hne.out).trans Hr2.out;have HI4:=Lib.hid HIn.out.used1;clear hS4 c9 f9 hw;generalize wc.setCell ⟨b,9,none⟩ (.int .i64 (t.use+1))=W4 at H4 HK4 hr4 ⊢;have c2:W4.cell? ⟨b,2,none⟩=some y.bufs:=H4.out.cell 2;have c9:W4.cell? ⟨b,9,none⟩=some (.int .i64 (t.use+1)):=H4.out.cell 9;have p1:W4.cell? ⟨ba,1,none⟩=some (.int .i64 a.pos):=cell_of_row _ _ 1 _ _ _ hr4;have p2:W4.cell? ⟨ba,2,none⟩=some (.string a.data):=cell_of_row _ _ 2 _ _ _ hr4
   obtain ⟨o,ho⟩:∃ o,putB t.bufs ⟨a.pos,a.data,true,t.use+1⟩ t.heldP=o:=⟨_,rfl⟩
   have Hpo:=Lib.hid ho;clear ho hr4;refine wp_region_ev mixed [(137,fun v _=>v=(.pointer (some ⟨b,0,none⟩))),(138,fun v _=>v=(.pointer (some ⟨b,0,none⟩))),(139,fun v _=>v=(.pointer (some ⟨b,2,none⟩))),(140,fun v _=>v=y.bufs),(141,fun v _=>v=(.pointer (some ⟨ba,0,none⟩))),(142,fun v _=>v=(.pointer (some ⟨ba,0,none⟩))),(143,fun v _=>v=(.pointer (some ⟨ba,1,none⟩))),(144,fun v _=>v=(.int .i64 a.pos)),(145,fun v _=>v=(.pointer (some ⟨ba,0,none⟩))),(146,fun v _=>v=(.pointer (some ⟨ba,0,none⟩))),(147,fun v _=>v=(.pointer (some ⟨ba,2,none⟩))),(148,fun v _=>v=(.string a.data)),(149,fun v _=>v=(.pointer (some ⟨b,0,none⟩))),(150,fun v _=>v=(.pointer (some ⟨b,0,none⟩))),(151,fun v _=>v=(.pointer (some ⟨b,9,none⟩))),(152,fun v _=>v=(.int .i64 (t.use+1))),(153,fun v _=>v=(.agg #[.int .i64 a.pos,.string a.data,.bool true,.int .i64 (t.use+1)])),(154,fun v _=>v=(.pointer (some ⟨b,0,none⟩))),(155,fun v _=>v=(.agg (hldV hs))),(156,(fun v u=>∃ v1,v=.tuple #[v1,.int .i64 (pE o)]∧(∀ m,o=some m→u.ownsRow W4.heap.size 107 4 v1 m.length (flatB m)))),(136,(fun v u=>∃ v1,v=.tuple #[v1,.int .i64 (pE o)]∧(∀ m,o=some m→u.ownsRow W4.heap.size 107 4 v1 m.length (flatB m)))),(157,(fun v u=>(∀ m,o=some m→u.ownsRow W4.heap.size 107 4 v m.length (flatB m)))),(158,fun v _=>v=(.int .i64 (pE o))),(9,(fun v u=>(∀ m,o=some m→u.ownsRow W4.heap.size 107 4 v m.length (flatB m)))),(10,fun v _=>v=(.int .i64 (pE o)))] (fun u=>Below W4.heap.size W4 u) (fun u u'=>Below u.heap.size u u') (fun _ _ _=>True) (by as_aux_lemma=>kernel_rfl) rfl (by decide) (Below.refl _ _).drew ?st20 (fun _ _ _ _ _ _=>trivial) ?steps20 ?fin20;case st20=>repeat' first | exact trivial | exact fun v u u' h hr m hm=>own_below (h m hm) hr | (rintro v u u' ⟨v1,e,h⟩ hr; exact ⟨v1,e,fun m hm=>own_below (h m hm) hr⟩) | exact fun v u u' h _=>h | refine ⟨?_,?_⟩
   case steps20 =>
    refine ⟨?_,?_,?_,?_,?_,?_,?_,?_,?_,?_,?_,?_,?_,?_,?_,?_,?_,?_,?a20,?b20,?c20,?d20,?e20,?g20,?_,trivial⟩
    case a20 =>
     intro ρ u hp hJ hr;have r1:ρ _=.pointer (some ⟨b,0,none⟩):=hr.1;clear hr;refine gives_enter (f:=59) (args:=#[.pointer (some ⟨b,0,none⟩)]) (w':=u) ?_ ((rheld_any col1 u b bd N y _ (H4.out.below hJ) HI4.out).mono ?_)
     ·have hpf:=hp.func 59
      go_simp
     rintro e u' ⟨rfl,hb⟩;exact ⟨_,rfl,show Value.agg (hldV (hlOf t))=_ by rw [Hhs.out],hJ.trans (hb.mono hJ.size),hb,trivial⟩
    case b20 =>
     intro ρ u hp hJ hr;have r1:ρ _=y.bufs:=hr.1;have r2:ρ _=(.agg #[.int .i64 a.pos,.string a.data,.bool true,.int .i64 (t.use+1)]):=hr.2.1;have r3:ρ _=.agg (hldV hs):=hr.2.2.1;clear hr;refine gives_enter (f:=69) (args:=#[y.bufs,(.agg #[.int .i64 a.pos,.string a.data,.bool true,.int .i64 (t.use+1)]),.agg (hldV hs)]) (w':=u) ?_ ((show Calls _ _ #[y.bufs,(.agg #[.int .i64 a.pos,.string a.data,.bool true,.int .i64 (t.use+1)]),.agg (hldV hs)] u (RetPutB o u) from Hhs.out▸rput_st H4.out HI4.out ⟨a.pos,a.data,true,t.use+1⟩ Hpo.out u hJ).mono ?_)
     ·have hpf:=hp.func 69
      go_simp
     rintro e u' ⟨v2,rfl,ho2,hb2⟩;exact ⟨_,rfl,⟨v2,rfl,fun m hm=>own_lo (ho2 m hm) hJ.size⟩,hJ.trans (hb2.mono hJ.size),hb2,trivial⟩
    case c20 =>
     intro ρ u hp hJ hr;obtain ⟨v1,r1,h1⟩:=hr.1;refine gives_value (v:=.tuple #[v1,.int .i64 (pE o)]) (w':=u) ?_ ⟨⟨v1,rfl,h1⟩,hJ,Below.refl _ _,trivial⟩;clear hr h1;go_simp
    case d20 =>
     intro ρ u hp hJ hr;obtain ⟨v1,r1,h1⟩:=hr.1;refine gives_value (v:=v1) (w':=u) ?_ ⟨h1,hJ,Below.refl _ _,trivial⟩;clear hr h1;go_simp
    case e20 =>
     intro ρ u hp hJ hr;obtain ⟨v1,r1,h1⟩:=hr.1;refine gives_value (v:=.int .i64 (pE o)) (w':=u) ?_ ⟨rfl,hJ,Below.refl _ _,trivial⟩;clear hr h1;go_simp
    case g20 =>
     intro ρ u hp hJ hr;refine gives_value (v:=ρ (.tmp 157)) (w':=u) ?_ ⟨hr.1,hJ,Below.refl _ _,trivial⟩;clear hr;go_simp
    all_goals
     intro ρ u hp hJ hr;have r1:ρ _=_:=hr.1;try have r2:ρ _=_:=hr.2.1
     try have r3:ρ _=_:=hr.2.2.1
     clear hr;have d1:=cell_b hJ c2;have d2:=cell_b hJ p1;have d3:=cell_b hJ p2;have d4:=cell_b hJ c9;have d5:=hp.const (.bool true);refine gives_value (v:=_) (w':=u) ?_ ⟨rfl,hJ,Below.refl _ _,trivial⟩;go_simp
   case fin20 =>
    intro f u hF hJ hU hE;have f10:f 10=.int .i64 (pE o):=hF.2.2.2.2.2.2.2.2.2.2.2.2.2.2.2.2.2.2.2.2.2.2.2.2.1;have f9:(∀ m,o=some m→u.ownsRow W4.heap.size 107 4 (f 9) m.length (flatB m)):=hF.2.2.2.2.2.2.2.2.2.2.2.2.2.2.2.2.2.2.2.2.2.2.2.1;have HJ4:=Lib.hid hJ;have H5:=Lib.hid (H4.out.below hJ);have HK5:=Lib.hid (HK4.out.two (Chg.of_below hJ));clear hF hU hE hJ c2 c9 p1 p2;simp only [laid]
    cases o with
    |none =>
     have Hwr:=Lib.hid (write_none (c:=k) Hdd.out Hwf.out Hpo.out);have f10:f 10=.int .i64 7:=f10;clear f9;go_wp2_with fail;refine HT.out _ _ rfl rfl rfl (by first | rfl | go_num) ?_;rw [Hsv.out,Hwr.out];exact A5.to HC.out HR.out H5.out HK5.out
    |some m =>
     have Hwr:=Lib.hid (write_some (c:=k) Hdd.out Hwf.out Hpo.out);have f10:f 10=.int .i64 0:=f10;have ho2:=f9 m rfl;obtain ⟨A2,n2,m2,e2,en⟩:=own_slice' ho2;rw [e2,← en] at ho2;have Ho2:=Lib.hid ho2;have Hen:=Lib.hid en;have q3:u.cell? ⟨b,2,none⟩=some y.bufs:=H5.out.cell 2;have q4:=H5.out.frozen 2;clear f9 ho2 en;go_wp2_with fail;have hI5:=HIn.out.putB Hpo.out ⟨Ha.out.lo,Ha.out.hi⟩ (by have:=Ha.out.size; simp only; omega) (show t.use≤t.use+1 by omega) (by have:=HIn.out.use0; simp only; omega) (fun _=>Hdl.out) (.inl rfl);have hS5:=(Same1.refl (b:=b) (w:=u)).setCell 2 (.slice A2 n2 m2);have hv5:BufsAt (S0 col1) u (.slice A2 n2 m2) m:=bufs_of_own (fun k hk=>H4.out.s0 k hk) (Hen.out▸Ho2.out) (hI5.bok (by show t.use+1≤_; have:=Hu.out; omega));have H6:=Lib.hid (H5.out.bufd hS5 hv5 (heap_setCell_same _ _ 2 _ _ _ H5.out.row));have HK6:=Lib.hid (HK5.out.two (hS5.chg Hfb.out));clear hS5 hv5 hI5 q3 q4;generalize u.setCell ⟨b,2,none⟩ (.slice A2 n2 m2)=u3 at HK6 H6 ⊢;try go_wp2_with fail
     refine (ranswer_any col1 u3 b bd N _ _ k noB 0 H6.out h3).mono ?_;rintro e w4 ⟨rfl,hS7,hst7⟩;have Hst7:=Lib.hid hst7;have HK7:=Lib.hid (HK6.out.two (hS7.chg Hfb.out));clear hst7 hS7;go_wp2_with fail;refine HT.out _ _ rfl rfl rfl (by first | rfl | go_num) ?_;rw [Hsv.out,Hwr.out];exact A5.to HC.out HR.out Hst7.out HK7.out
end Go.Proofs.YtagndjihiklmiaaGreatDoor
namespace Go.Proofs.YtagndjihiklmiaaGreatDoor
open Go.RowKit Go.Sort
theorem srv_sync (C:Code) (Q:Exit→Act→World→Prop) (col:Nat→Nat) (w:World) (b bd N k:Nat) (a0:Act) (wr:World) (col1:Nat→Nat) (y:Sv) (t:St) (a:Ak) (ba:Nat) (h:Srv C Q col w b bd N k a0 wr col1 y t a ba) (hk1:¬ a.kind=1) (hdd:t.dead=false) (hk2:¬ a.kind=2):C.wp Tryz.prog Q a0 wr:=by
 obtain ⟨hC,h3,z1,z2,z3,z4,hst,hch,hrec,hIn,hu,ho,ep,hto⟩:=h;obtain ⟨f,rfl⟩:=frame_srv a0 z1 z2 z3 z4;have HT:=Lib.hid hto;have HS:=Lib.hid hst;have HC:=Lib.hid hch;have HR:=Lib.hid hrec;have HIn:=Lib.hid hIn;have Hu:=Lib.hid hu;have hz:=zero_buf;obtain ⟨j0,hj0,hy0,hy1,hy2⟩:=info_parts intInfo;have hk3:(k:Int)<3:=by omega
 have hk0:¬ (k:Int)<0:=by omega
 have cA:wr.cell? ⟨b,11+k,none⟩=some (.pointer (some ⟨ba,0,none⟩)):=(hst.cellA h3).trans (congrArg some ep);obtain ⟨lv,hrow,hfa,how⟩:=hst.askc h3 ho ep;have Hne:=Lib.hid (hst.ask_ne hfa);have Ha:=Lib.hid (hIn.ask k a ho);have Ho:=Lib.hid ho;have Ep:=Lib.hid ep;have Hrow:=Lib.hid hrow;have How:=Lib.hid how;have k0:wr.cell? ⟨ba,0,none⟩=some (.int .i64 a.kind):=cell_of_row _ _ 0 _ _ _ hrow;have p1:wr.cell? ⟨ba,1,none⟩=some (.int .i64 a.pos):=cell_of_row _ _ 1 _ _ _ hrow;have c2:wr.cell? ⟨b,2,none⟩=some y.bufs:=hst.cell 2
 have hgg:∃ g,getB t.bufs a.pos=g:=⟨_,rfl⟩
 obtain ⟨g,hg⟩:=hgg;have Hg:=Lib.hid hg;have Hfb:Hid (Fl col1 b):=show _∧_ from ⟨by rw [hst.cb]; decide,by rw [hst.cb]; decide⟩;have Hln:Hid (t.bufs.length≤65536):=show _≤_ by have:=hIn.len8; omega
 have Hlo:Hid (0≤a.pos∧a.pos<32):=show _∧_ by have:=Ha.out.lo; have:=Ha.out.hi; omega
 obtain ⟨hs,hhs⟩:∃ l,hlOf t=l:=⟨_,rfl⟩
 have hlen:hs.length=32:=hhs▸hlOf_len t;have Hhs:=Lib.hid hhs;have Hlen:=Lib.hid hlen;have hC:=Option.some.inj (Eq.symm hC);subst hC;clear z1 z2 z3 z4 hst hch hrec hIn hu hto hhs hlen ho ep hrow how hfa hg;have hk1b:(a.kind == 1)=false:=by simp only [beq_eq_false_iff_ne]; exact hk1
 have c20:wr.cell? ⟨b,20,none⟩=some (.bool t.dead):=HS.out.cell 20;have Hdd:=Lib.hid hdd;rw [hdd] at c20;clear hdd;have hk3e:a.kind=3:=by have:=Ha.out.kind; omega
 have Hsv:Hid (t.serve1 k=t.sync k a):=show _=_ from serve1_sync Ho.out hk3e;rw [hk3e] at k0;clear hk1 hk1b hk2 hk3e;obtain ⟨Al,cl,hlv,_,_⟩:=How.out.form;subst hlv;go_wp2_with fail
 obtain ⟨wo,rfl⟩:∃ wo:World,wo=wr:=⟨_,rfl⟩
 clear c2 p1 k0 c20 cA;have Hl8:Hid (∀ m,(stay t.bufs (a.left.take m)).length≤8):=show ∀ m,_ from fun m=>Nat.le_trans (List.length_filter_le _ _) (Nat.le_trans (List.length_take_le' _ _) Ha.out.len);go_loopw [11,12,13,14] (fun l0 i _ _ wr=>∃ (m:Nat) (lv:Value),l0=lv∧m≤a.left.length∧i=.int .i64 m∧Hid (wr.ownsRow wo.heap.size 3 1 lv (stay t.bufs (a.left.take m)).length ((stay t.bufs (a.left.take m)).map (.int .i64)))∧Hid (Below wo.heap.size wo wr)) (fun _ i _ _ _=>a.left.length - (intOf i).toNat)
 case atStart=>exact ⟨0,_,rfl,by omega,rfl,World.ownsRow_nil _ _ _ _,Below.refl _ _⟩
 case round =>
  obtain ⟨m,lv,rfl,hm,rfl,HO,HBl⟩:=hrel;have HSw:=Lib.hid (HS.out.below HBl.out);have c2:wr.cell? ⟨b,2,none⟩=some y.bufs:=HSw.out.cell 2;have p1:wr.cell? ⟨ba,3,none⟩=some (.slice Al a.left.length cl):=cell_b HBl.out (cell_of_row _ _ 3 _ _ _ Hrow.out);obtain ⟨Av,cv,rfl⟩:=own_sl (own_lo HO.out (Nat.zero_le _));by_cases hlt:m<a.left.length
  ·have hlt2:(m:Int)<(a.left.length:Int):=by omega
   have HLT:=Lib.hid hlt;have hm8:(m:Int)<8:=by have:=Ha.out.len; omega
   have hm0:¬ (m:Int)<0:=by omega
   have hx:a.left[m]?=some a.left[m]:=List.getElem?_eq_getElem hlt;obtain ⟨q,off,rfl,_,_,hc⟩:=((How.out.keep (fun k _ hl=>HBl.out.block k hl)).rd).at_ (by omega) (by omega);have pl:=hc m (.int .i64 a.left[m]) (by rw [List.getElem?_map,hx]; rfl);have Hx:=Lib.hid hx;clear hc hx;generalize a.left[m]=p at pl Hx
   have hgg:∃ g,getB t.bufs p=g:=⟨_,rfl⟩
   obtain ⟨g,hg⟩:=hgg;have Hg:=Lib.hid hg;clear hg;go_wp2_with fail;have HP1:=Lib.hid p1;have HPL:=Lib.hid pl
   obtain ⟨FB,hFB⟩:∃ F:Array Value,F=#[.int .i64 g.1.pos,.string g.1.data,.bool g.1.dirty,.int .i64 g.1.used]:=⟨_,rfl⟩
   refine wp_region_ev mixed [(178,fun v _=>v=(.pointer (some ⟨b,0,none⟩))),(179,fun v _=>v=(.pointer (some ⟨b,0,none⟩))),(180,fun v _=>v=(.pointer (some ⟨b,2,none⟩))),(181,fun v _=>v=y.bufs),(182,fun v _=>v=(.pointer (some ⟨ba,0,none⟩))),(183,fun v _=>v=(.pointer (some ⟨ba,0,none⟩))),(184,fun v _=>v=(.pointer (some ⟨ba,3,none⟩))),(185,fun v _=>v=(.slice (some ⟨q,off,none⟩) a.left.length cl)),(186,fun v _=>v=(.int .i64 (m:Int))),(187,fun v _=>v=(.pointer (some ⟨q,off+m,none⟩))),(188,fun v _=>v=(.int .i64 p)),(189,fun v _=>v=(.tuple #[.agg #[.int .i64 g.1.pos,.string g.1.data,.bool g.1.dirty,.int .i64 g.1.used],.bool g.2])),(177,fun v _=>v=(.tuple #[.agg #[.int .i64 g.1.pos,.string g.1.data,.bool g.1.dirty,.int .i64 g.1.used],.bool g.2])),(190,fun v _=>v=(.agg #[.int .i64 g.1.pos,.string g.1.data,.bool g.1.dirty,.int .i64 g.1.used])),(191,fun v _=>v=(.bool g.2)),(13,BxF 107 FB wr.heap.size),(14,fun v _=>v=(.bool g.2))] (fun u=>Below wr.heap.size wr u) (BR 107 FB wr.heap.size) (BxE 107 FB 16) (by as_aux_lemma=>kernel_rfl) rfl (by decide) (Below.refl _ _).drew ?st178 (fun k vs u u' h hr=>h.step hr) ?steps178 ?fin178;case st178=>repeat' first | exact trivial | exact fun v u u' h hr=>h.step hr | exact fun v u u' h _=>h | refine ⟨?_,?_⟩
   case steps178 =>
    refine ⟨?_,?_,?_,?_,?_,?_,?_,?_,?_,?_,?_,?a178,?_,?_,?_,?b178,?c178,?_,trivial⟩
    case a178 =>
     intro ρ u hp hJ hr;have r1:ρ _=y.bufs:=hr.1;have r2:ρ _=.int .i64 p:=hr.2.1;clear hr;refine gives_enter (f:=60) (args:=#[y.bufs,.int .i64 p]) (w':=u) ?_ ((rget_st HSw.out HIn.out _ Hg.out u hJ).mono ?_)
     ·have hpf:=hp.func 60
      go_simp
     rintro e u' ⟨rfl,hb⟩;exact ⟨_,rfl,rfl,hJ.trans (hb.mono hJ.size),BR.below hb,fun h=>absurd h (by decide)⟩
    case b178 =>
     intro ρ u hp hJ hr;clear hr;refine gives_value (v:=.pointer (some ⟨u.heap.size,0,none⟩)) (w':=u.alloc (.cells #[.int .i64 0,.string ⟨#[]⟩,.bool false,.int .i64 0] 107)) ?_ ⟨⟨_,rfl,hJ.size,⟨_,by rw [hFB]; rfl,heap_alloc_new _ _⟩⟩,hJ.trans (((Below.refl _ _).alloc (Nat.le_refl _) _).mono hJ.size),BR.below ((Below.refl _ _).alloc (Nat.le_refl _) _),fun h=>absurd h (by decide)⟩;go_simp
    case c178 =>
     intro ρ u hp hJ hr;obtain ⟨bb,y0,y1,y2,y3,e1,z0,z1,z2,z3,f0,g1,g2,g3⟩:=bx_store hr.1 hFB;have r2:ρ _=.agg #[.int .i64 g.1.pos,.string g.1.data,.bool g.1.dirty,.int .i64 g.1.used]:=hr.2.1;clear hr;refine gives_skip (w':=_) ?_ ⟨trivial,hJ.trans g3,g1,BxE.at e1 rfl g2⟩;clear g1 g2 g3;go_simp
    all_goals
     intro ρ u hp hJ hr;have r1:ρ _=_:=hr.1;try have r2:ρ _=_:=hr.2.1
     clear hr;have d2:=cell_b hJ c2;have d1:=cell_b hJ p1;have d3:=cell_b hJ pl;refine gives_value (v:=_) (w':=u) ?_ ⟨rfl,hJ,BR.refl _,fun h=>absurd h (by decide)⟩;go_simp
   intro f u hF hJ hU hE;have f4:BxF 107 FB wr.heap.size (f 13) u:=hF.2.2.2.2.2.2.2.2.2.2.2.2.2.2.2.1;have f5:f 14=.bool g.2:=hF.2.2.2.2.2.2.2.2.2.2.2.2.2.2.2.2.1;obtain ⟨bb,e6,hbb,hbz⟩:=f4;have hbx:u.heap[bb]?=some (.cells FB 107 (0,0)):=hE 16 _ rfl rfl bb (by rw [argsOf_store rfl,e6]; rfl);clear hF hU hE c2 p1 pl;rw [hFB] at hbx;clear hbz hFB FB;have HJ:=Lib.hid hJ;have Hbx:=Lib.hid hbx;have Hbb:=Lib.hid hbb;clear hJ hbx hbb;simp only [laid];have z2:u.cell? ⟨bb,2,none⟩=some (.bool g.1.dirty):=cell_of_row _ _ 2 _ _ _ Hbx.out;have Hst:Hid (St.still t.bufs p=(g.2 && g.1.dirty)):=show _=_ by unfold St.still; rw [Hg.out]
   have HO1:=Lib.hid (own_below HO.out HJ.out);have HB1:=Lib.hid (HBl.out.trans (HJ.out.mono HBl.out.size))
   cases hg2:g.2 with
   |false =>
    have He:Hid (stay t.bufs (a.left.take (m+1))=stay t.bufs (a.left.take m)):=show _=_ by rw [stay_succ Hx.out,Hst.out,hg2]; simp
    rw [hg2] at f5;clear hg2;go_wp2_with fail;go_roundw
    case rel=>exact ⟨m+1,_,rfl,by have:=HLT.out; omega,by go_num,He.out▸HO1.out,HB1.out⟩
    case measure=>simp [intOf]; have:=HLT.out; omega
   |true =>
    rw [hg2] at f5
    cases hgd:g.1.dirty with
    |false =>
     have He:Hid (stay t.bufs (a.left.take (m+1))=stay t.bufs (a.left.take m)):=show _=_ by rw [stay_succ Hx.out,Hst.out,hg2,hgd]; simp
     rw [hgd] at z2;clear hg2 hgd;go_wp2_with fail;go_roundw
     case rel=>exact ⟨m+1,_,rfl,by have:=HLT.out; omega,by go_num,He.out▸HO1.out,HB1.out⟩
     case measure=>simp [intOf]; have:=HLT.out; omega
    |true =>
     have He:Hid (stay t.bufs (a.left.take (m+1))=stay t.bufs (a.left.take m) ++ [p]):=show _=_ by rw [stay_succ Hx.out,Hst.out,hg2,hgd]; simp
     rw [hgd] at z2;clear hg2 hgd;have p1:=cell_b HJ.out HP1.out;have pl:=cell_b HJ.out HPL.out;go_wp2_with (at_builtin; refine wpList_append_rd (S:=fun _=>True) _ rfl (.tmp 197) (.tmp 205) _ rfl wo.heap.size 3 j0 _ 1 8 Tryz.underlying103 hj0 hy0 hy1 hy2 rfl (by omega) _ _ _ rfl (HO1.out.alloc _) _ 1 _ rfl (rd_1 (heap_alloc_new _ _) trivial) (one_i1 p) (by simp only [maxLen]; have:=Hl8.out m; omega) (by have:=Hl8.out m; omega) (by have:=HB1.out.size; simp; omega) ?_; intro v7 w7 hown7 hg7 hat7);have hb7:=(HB1.out.alloc HB1.out.size (.cells #[.int .i64 p] 3)).grown hg7 (by have:=HB1.out.size; simp; omega) (fun k hk=>(HO.out.lt k hk).1);have HO7:=Lib.hid hown7;have HB7:=Lib.hid hb7;clear hown7 hg7 hat7 hb7;try go_wp2_with fail
     go_roundw
     case rel =>
      refine ⟨m+1,v7,rfl,by have:=HLT.out; omega,by go_num,?_,HB7.out⟩;rw [He.out,List.length_append,List.map_append];exact HO7.out
     case measure=>simp [intOf]; have:=HLT.out; omega
  ·obtain rfl:m=a.left.length:=by omega
   have hlt2:¬ (a.left.length:Int)<(a.left.length:Int):=by omega
   obtain ⟨L,hL⟩:∃ L,stay t.bufs a.left=L:=⟨_,rfl⟩
   rw [List.take_length,hL] at HO ⊢;have HL:Hid (a.left.filter (St.still t.bufs)=L):=show _=_ from hL;clear hL c2;obtain ⟨col2,h3s,hr3,hc3⟩:=HS.out.lefted h3 Ho.out Ep.out HBl.out HO.out;have H3:=Lib.hid h3s;have HR2:=Lib.hid hr3;have HK3:=Lib.hid hc3;have f3:wr.frozen? ⟨ba,3,none⟩=false:=frozen_of_row _ _ 3 _ _ ((HBl.out.block _ (Array.getElem?_eq_some_iff.1 Hrow.out).1).trans Hrow.out);clear h3s hr3 hc3;go_upto_region 32 with fail
   generalize World.setCell _ _ _=w3 at H3 HK3 ⊢;clear p1 f3;by_cases hl:L=[]
   ·have hln:L.length=0:=by rw [hl]; rfl
    have Hsr:Hid (t.sync k a=({ t with v:={ t.v with d:=t.v.d.flush } }:St).answer k noB 0):=show _=_ by unfold St.sync; rw [Hdd.out,if_neg (by decide),HL.out,if_pos hl]
    have c0:w3.cell? ⟨b,0,none⟩=some (.pointer (some ⟨bd,0,none⟩)):=H3.out.cell 0;rw [hln];clear hl hln;go_wp2_with fail;refine (rdevflush_any (Im w3 col2) (Fd col2) w3 bd t.v.d H3.out.drv.dev StAt.imfd).mono ?_;rintro e w4 ⟨rfl,hd4,hc4,_⟩;have HC4:=Lib.hid hc4;have H4:=Lib.hid (H3.out.devd hd4 hc4);clear hd4 hc4 c0;go_wp2_with fail;refine (ranswer_any col2 w4 b bd N _ _ k noB 0 H4.out h3).mono ?_;rintro e w5 ⟨rfl,hS5,hst5⟩;have HS5:=Lib.hid hS5;have Hst5:=Lib.hid hst5;clear hS5 hst5;go_wp2_with fail;refine HT.out _ _ rfl rfl rfl (by first | rfl | go_num) ?_;rw [Hsv.out,Hsr.out]
    have e5:({ { t with asks:=t.asks.set k (some { a with left:=L }) } with v:={ t.v with d:=t.v.d.flush } }:St).answer k noB 0=({ t with v:={ t.v with d:=t.v.d.flush } }:St).answer k noB 0:=by
     unfold St.answer;simp only [List.set_set]
    exact A5.to2 HC.out HR.out HR2.out (e5▸Hst5.out) (HK3.out.recol ((HC4.out.mono Fl.of_d).two (HS5.out.chg (F:=Fl col2) ⟨by rw [H3.out.cb]; decide,by rw [H3.out.cb]; decide⟩)) HR2.out.grow)
   ·have Hsr:Hid (t.sync k a={ t with asks:=t.asks.set k (some { a with left:=L }) }):=show _=_ by unfold St.sync; rw [Hdd.out,if_neg (by decide),HL.out,if_neg hl]
    have hln:(((L.length:Nat):Int) == 0)=false:=by simp only [beq_eq_false_iff_ne]; have:=List.length_pos_iff.2 hl; omega
    clear hl;go_wp2_with fail;refine HT.out _ _ rfl rfl rfl (by first | rfl | go_num) ?_;rw [Hsv.out,Hsr.out];exact A5.to2 HC.out HR.out HR2.out H3.out HK3.out
end Go.Proofs.YtagndjihiklmiaaGreatDoor
namespace Go.Proofs.YtagndjihiklmiaaGreatDoor
open Go.RowKit Go.Sort
theorem rserve_any (col:Nat→Nat) (w:World) (b bd N:Nat) (x:Sv) (s:St) (K:Int) (h:StAt Tr col w b bd N x s) (hI:Inv s) (hB:Bd K s) (h0:0≤K) (hK:K≤800000000) :
  Calls Tryz.prog 57 #[.pointer (some ⟨b,0,none⟩)] w (Ret5 Tr col w b bd N s.serve (.tuple #[])):=by
 have H:=Lib.hid h;have HI:=Lib.hid hI;have HB:=Lib.hid hB;clear h hI hB;go_enter Tryz.func57,Tryz.ntmps57;go_wp2_with fail;refine wp_loop (fun a wr=>∃ k:Nat,k≤3∧a.tmps.size=222∧a.defers=[]∧a.tmps[0]?=some (.pointer (some ⟨b,0,none⟩))∧a.tmps[2]?=some (.int .i64 (k:Int))∧Hid (A5 Tr col w b bd N (serveN s k) wr)) (fun a _=>3 - (intOf (a.tmps.getD 2 undef)).toNat) ⟨0,by omega,rfl,rfl,rfl,rfl,⟨col,x,H.out,Chg.refl,Rec.refl⟩⟩ ?_;rintro a0 wr ⟨k,hk,z1,z2,z3,z4,HA⟩;obtain ⟨col1,y,hst,hch,hrec⟩:=HA.out;by_cases h3:k<3
 ·have hIn:=HI.out.serveN k
  have hBn:=HB.out.serveN h0 k
  have hto:∀ (a':Act) (w':World),a'.tmps.size=222→a'.defers=[]→a'.tmps[0]?=some (.pointer (some ⟨b,0,none⟩))→a'.tmps[2]?=some (.int .i64 ((k+1:Nat):Int))→A5 Tr col w b bd N ((serveN s k).serve1 k) w'→(∃ k:Nat,k≤3∧a'.tmps.size=222∧a'.defers=[]∧a'.tmps[0]?=some (.pointer (some ⟨b,0,none⟩))∧a'.tmps[2]?=some (.int .i64 (k:Int))∧Hid (A5 Tr col w b bd N (serveN s k) w'))∧3 - (intOf (a'.tmps.getD 2 undef)).toNat<3 - (intOf (a0.tmps.getD 2 undef)).toNat:=by
   intro a' w' y1 y2 y3 y4 hA;refine ⟨⟨k+1,by omega,y1,y2,y3,y4,hA⟩,?_⟩;rw [show a'.tmps.getD 2 undef=.int .i64 ((k+1:Nat):Int) by rw [Array.getD_eq_getD_getElem?,y4]; rfl,show a0.tmps.getD 2 undef=.int .i64 (k:Int) by rw [Array.getD_eq_getD_getElem?,z4]; rfl];simp only [intOf];omega
  obtain ⟨p,ep,hn,hq⟩:=hst.ptr k h3
  cases ho:(serveN s k).askAt k with
  |none =>
   obtain rfl:=hn ho;have cA:wr.cell? ⟨b,11+k,none⟩=some (.pointer none):=(hst.cellA h3).trans (congrArg some ep);have He:Hid ((serveN s k).serve1 k=serveN s k):=show _=_ from serve1_none ho;have HS:=Lib.hid hst;have HC:=Lib.hid hch;have HR:=Lib.hid hrec;have HT:=Lib.hid hto;have hk3:(k:Int)<3:=by omega
   have hk0:¬ (k:Int)<0:=by omega
   obtain ⟨f,rfl⟩:=frame_srv a0 z1 z2 z3 z4;clear ho hn hq ep hst hch hrec hto z1 z2 z3 z4;go_wp2_with fail;refine ⟨⟨k+1,by omega,by omega,?_⟩,by simp [intOf]; omega⟩;show Hid (A5 Tr col w b bd N ((serveN s k).serve1 k) wr);rw [He.out];exact ⟨col1,y,HS.out,HC.out,HR.out⟩
  |some a =>
   obtain ⟨ba,rfl⟩:=hq a ho
   have hu:0≤(serveN s k).use∧(serveN s k).use≤900000000∧0≤(serveN s k).tag∧(serveN s k).tag≤900000000:=⟨hIn.use0,by have:=hBn.use; omega,hIn.tag0,by have:=hBn.tag; omega⟩
   by_cases hk1:a.kind=1
   ·exact srv_read _ _ _ _ _ _ _ _ _ _ _ _ _ _ _ ⟨rfl,h3,z1,z2,z3,z4,hst,hch,hrec,hIn,hu,ho,ep,hto⟩ hk1
   ·cases hdd:(serveN s k).dead with
    |true=>exact srv_dead _ _ _ _ _ _ _ _ _ _ _ _ _ _ _ ⟨rfl,h3,z1,z2,z3,z4,hst,hch,hrec,hIn,hu,ho,ep,hto⟩ hk1 hdd
    |false =>
     by_cases hk2:a.kind=2
     ·exact srv_write _ _ _ _ _ _ _ _ _ _ _ _ _ _ _ ⟨rfl,h3,z1,z2,z3,z4,hst,hch,hrec,hIn,hu,ho,ep,hto⟩ hk1 hdd hk2
     ·exact srv_sync _ _ _ _ _ _ _ _ _ _ _ _ _ _ _ ⟨rfl,h3,z1,z2,z3,z4,hst,hch,hrec,hIn,hu,ho,ep,hto⟩ hk1 hdd hk2
 ·obtain rfl:k=3:=by omega
  have hi:((3:Nat):Int)=3:=rfl;obtain ⟨f,rfl⟩:=frame_srv a0 z1 z2 z3 z4;clear z1 z2 z3 z4;go_wp2_with fail;go_end0;exact ⟨col1,y,rfl,serveN_3 s▸hst,hch,hrec.old,hrec.grow⟩
end Go.Proofs.YtagndjihiklmiaaGreatDoor
namespace Go.Proofs.YtagndjihiklmiaaGreatDoor
open Go.RowKit Go.Sort
theorem rtick_any (col:Nat→Nat) (w:World) (b bd N:Nat) (x:Sv) (s:St) (K:Int) (h:StAt Tr col w b bd N x s) (hI:Inv s) (hB:Bd K s) (h0:0≤K) (hK:K≤800000000) :
  Calls Tryz.prog 23 #[.pointer (some ⟨b,0,none⟩)] w (Ret5 Tr col w b bd N s.tick (.tuple #[])):=by
 have H:=Lib.hid h;have c8:w.cell? ⟨b,8,none⟩=some (.int .i64 s.now):=h.cell 8;have f8:=h.frozen 8;have hn:=hI.now;have hw:IntKind.i64.wrap (s.now+1)=s.now+1:=by rw [IntKind.wrap_i64]; omega
 have HI1:Hid (Inv { s with now:=min (s.now+1) 1000000000 }):=show Inv _ from { hI with now:=by have:=hI.now; simp only; omega };have HB1:Hid (Bd K { s with now:=min (s.now+1) 1000000000 }):=show Bd _ _ from ⟨hB.use,hB.tag,hB.waits⟩;clear h hI hB;go_enter Tryz.func23,Tryz.ntmps23;have hm:(s.now+1≤1000000000∧min (s.now+1) 1000000000=s.now+1)∨(¬ s.now+1≤1000000000∧min (s.now+1) 1000000000=1000000000):=by omega
 rcases hm with ⟨hlt,hm⟩ | ⟨hlt,hm⟩
 all_goals
  have HE:=Lib.hid hm;clear hm;go_wp2_with fail;generalize hV:World.setCell _ _ _=w1;have hS:Same1 b w w1:=hV▸Same1.refl.setCell 8 _
  have H1:Hid (StAt Tr col w1 b bd N x { s with now:=min (s.now+1) 1000000000 }):=show StAt .. by
   rw [HE.out];exact H.out.nowd hS (hV▸heap_setCell_same _ _ 8 _ _ _ H.out.row)
  have HC:=Lib.hid (H.out.chg1 (hS.chg (F:=fun k=>k=b) rfl));clear hV hS c8 f8 hw;refine (rserve_any col w1 b bd N x _ K H1.out HI1.out HB1.out h0 hK).mono ?_;rintro e w2 ⟨col2,y2,rfl,hst2,hc2,hr2⟩;have Hr:=Lib.hid (Ret5.after (v:=.tuple #[]) ⟨col2,y2,rfl,hst2,hc2,hr2⟩ HC.out Rec.refl);clear hst2 hc2 hr2;go_wp2_with fail;go_end0;obtain ⟨c3,y3,_,h3⟩:=Hr.out;exact ⟨c3,y3,rfl,h3⟩
end Go.Proofs.YtagndjihiklmiaaGreatDoor
