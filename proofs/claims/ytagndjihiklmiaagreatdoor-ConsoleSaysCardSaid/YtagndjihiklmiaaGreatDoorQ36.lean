/- The reference's stack: End, a request that is done: one that reads; End, whatever comes of it. -/
import Derived.Test.YtagndjihiklmiaaGreatDoorQ35
set_option linter.unusedSimpArgs false
set_option linter.unusedVariables false
set_option maxRecDepth 100000
set_option maxHeartbeats 8000000
namespace Go.Proofs.YtagndjihiklmiaaGreatDoor
open Go.RowKit Go.Sort
theorem rend_r (C:Code) (Q:Exit→Act→World→Prop) (b bd N m:Nat) (a0:Act) (wr:World) (col1:Nat→Nat) (y:Sv) (t:St) (B:Nat) (rr:Rq) (Ad At Ao:Option Addr) (dl cd tl ct ol co:Nat) (sd:ByteArray) (q off:Nat) (h:Rnd C Q b bd N m a0 wr col1 y t B rr Ad At Ao dl cd tl ct ol co sd) (hw:rr.write=false) (hA:Ao=some ⟨q,off,none⟩) (hm:m<ol) (hg:wr.cell? ⟨q,off+m,none⟩=some (.string sd)) (hq:col1 q=0) (hql:q<wr.heap.size):C.wp Tryz.prog Q a0 wr:=by
 subst hA;obtain ⟨hC,z1,z2,z3,z4,z5,hst,hIn,hu,hbox,hcB,hlt,hlo,hfr,hsz,hto⟩:=h;obtain ⟨f,rfl,hf⟩:=frame_of a0 z1 z2;have y0:=hf 0 _ z3;have y7:=hf 7 _ z4;have y12:=hf 12 _ z5;have HT:=Lib.hid hto;have HS:=Lib.hid hst;have HIn:=Lib.hid hIn;have Hu:=Lib.hid hu;have Hlo:=Lib.hid hlo;have Hfr:=Lib.hid hfr;have Hsz:=Lib.hid hsz;have hz:=zero_buf;have Hfb:Hid (Fl col1 b):=show _∧_ from ⟨by rw [hst.cb]; decide,by rw [hst.cb]; decide⟩;have Hln:Hid (t.bufs.length≤65536):=show _≤_ by have:=hIn.len8; omega
 have Hbx:=Lib.hid hbox;have HBb:Hid (B≠b):=show _≠_ from fun e=>by rw [e,hst.cb] at hcB; cases hcB
 have d0:wr.cell? ⟨B,0,none⟩=some (.bool rr.write):=cell_of_row _ _ 0 _ _ _ hbox;have d1:wr.cell? ⟨B,1,none⟩=some (.int .i64 rr.lo):=cell_of_row _ _ 1 _ _ _ hbox;have d2:wr.cell? ⟨B,2,none⟩=some (.int .i64 rr.many):=cell_of_row _ _ 2 _ _ _ hbox;have c2:wr.cell? ⟨b,2,none⟩=some y.bufs:=hst.cell 2;have hwrap:IntKind.i64.wrap (rr.lo+(m:Int))=rr.lo+(m:Int):=IntWalk.i64_in _ (by omega);have hm4:(m:Int)<5:=by omega
 have hC:=Option.some.inj (Eq.symm hC);subst hC;simp only [List.range,List.range.loop,List.map_cons,List.map_nil,y0,y7,y12];clear z1 z2 z3 z4 z5 hst hIn hu hto hbox y0 y7 y12 hf hfr hsz;rw [hw] at d0;have Hw:=Lib.hid hw;clear hw;have hmd:(m:Int)<(ol:Int):=by omega
 have hm0:¬ (m:Int)<0:=by omega
 obtain ⟨g,hgg⟩:∃ g,getB t.bufs (rr.lo+(m:Int))=g:=⟨_,rfl⟩
 have Hgg:=Lib.hid hgg;have HcB:=Lib.hid hcB;have Hq:=Lib.hid hq;have Hql:=Lib.hid hql;have Hg:=Lib.hid hg
 obtain ⟨hs,hhs⟩:∃ l,hlOf t=l:=⟨_,rfl⟩
 have Hhs:=Lib.hid hhs;clear hgg hcB hq hql hg hhs;go_wp2_with fail;refine (rget_st HS.out HIn.out _ Hgg.out wr (Below.refl _ _)).mono ?_;rintro e w3 ⟨rfl,hb3⟩;go_upto_region 21 with fail
 have hb4:Below wr.heap.size wr _:=hb3.trans (((Below.refl w3.heap.size w3).alloc (Nat.le_refl _) (.cells #[.int .i64 g.1.pos,.string g.1.data,.bool g.1.dirty,.int .i64 g.1.used] 107)).mono hb3.size);have HB3:=Lib.hid hb4;clear hb3 hb4 c2 d0 d1 d2;generalize World.alloc _ _=W3 at HB3 ⊢;have H3:=Lib.hid (HS.out.below HB3.out);have HK3:Hid (Chg (Fl col1) wr W3):=show Chg _ _ _ from Chg.of_below HB3.out
 cases hgt:g.2 with
 |true =>
  have He:Hid (t.ended1 false (rr.lo+(m:Int)) sd=t):=show _=_ by unfold St.ended1; rw [if_neg (by decide),if_pos (by rw [Hgg.out]; exact hgt)]
  clear hgt;go_wp2_with fail;refine HT.out _ _ y rfl rfl rfl rfl (by first | rfl | go_num) ?_ HK3.out;rw [Hw.out,He.out];exact H3.out
 |false =>
  have Hgt:=Lib.hid hgt;clear hgt;have c9:W3.cell? ⟨b,9,none⟩=some (.int .i64 t.use):=H3.out.cell 9;have f9:=H3.out.frozen 9;have hw:IntKind.i64.wrap (t.use+1)=t.use+1:=by have:=Hu.out; rw [IntKind.wrap_i64]; omega
  go_wp2_with fail;have hS4:=(Same1.refl (b:=b) (w:=W3)).setCell 9 (.int .i64 (t.use+1));have H4:=Lib.hid (H3.out.used hS4 (n:=t.use+1) (heap_setCell_same _ _ 9 _ _ _ H3.out.row));have HK4:=Lib.hid (HK3.out.two (hS4.chg Hfb.out));have HI4:=Lib.hid HIn.out.used1;clear hS4 c9 f9 hw;generalize W3.setCell ⟨b,9,none⟩ (.int .i64 (t.use+1))=W4 at H4 HK4 ⊢
  have keep:∀ u,Chg (Fl col1) wr u→u.heap[B]?=wr.heap[B]?∧u.cell? ⟨q,off+m,none⟩=some (.string sd):=fun u hu =>
   ⟨hu.block B (Array.getElem?_eq_some_iff.1 Hbx.out).1 (fun hf=>hf.1 HcB.out),(World.cell?_of_block (hu.block q Hql.out (fun hf=>hf.1 Hq.out))).trans Hg.out⟩
  have Hkeep:=Lib.hid keep;have c2:W4.cell? ⟨b,2,none⟩=some y.bufs:=H4.out.cell 2;have c9:W4.cell? ⟨b,9,none⟩=some (.int .i64 (t.use+1)):=H4.out.cell 9;have d6:W4.cell? ⟨B,6,none⟩=some (.slice (some ⟨q,off,none⟩) ol co):=cell_of_row _ _ 6 _ _ _ ((keep W4 HK4.out).1.trans Hbx.out);have dg:=(keep W4 HK4.out).2
  obtain ⟨o,ho⟩:∃ o,putB t.bufs ⟨(rr.lo+(m:Int)),sd,false,t.use+1⟩ t.heldP=o:=⟨_,rfl⟩
  have Hpo:=Lib.hid ho;clear ho keep;refine wp_region_ev mixed [(143,fun v _=>v=(.pointer (some ⟨b,0,none⟩))),(144,fun v _=>v=(.pointer (some ⟨b,0,none⟩))),(145,fun v _=>v=(.pointer (some ⟨b,2,none⟩))),(146,fun v _=>v=y.bufs),(147,fun v _=>v=(.int .i64 (rr.lo+(m:Int)))),(148,fun v _=>v=(.pointer (some ⟨B,6,none⟩))),(149,fun v _=>v=(.slice (some ⟨q,off,none⟩) ol co)),(150,fun v _=>v=(.int .i64 (m:Int))),(151,fun v _=>v=(.pointer (some ⟨q,off+m,none⟩))),(152,fun v _=>v=(.string sd)),(153,fun v _=>v=(.pointer (some ⟨b,0,none⟩))),(154,fun v _=>v=(.pointer (some ⟨b,0,none⟩))),(155,fun v _=>v=(.pointer (some ⟨b,9,none⟩))),(156,fun v _=>v=(.int .i64 (t.use+1))),(157,fun v _=>v=(.agg #[.int .i64 (rr.lo+(m:Int)),.string sd,.bool false,.int .i64 (t.use+1)])),(158,fun v _=>v=(.pointer (some ⟨b,0,none⟩))),(159,fun v _=>v=(.agg (hldV hs))),(160,(fun v u=>∃ v1,v=.tuple #[v1,.int .i64 (pE o)]∧(∀ l,o=some l→u.ownsRow W4.heap.size 107 4 v1 l.length (flatB l)))),(142,(fun v u=>∃ v1,v=.tuple #[v1,.int .i64 (pE o)]∧(∀ l,o=some l→u.ownsRow W4.heap.size 107 4 v1 l.length (flatB l)))),(161,(fun v u=>(∀ l,o=some l→u.ownsRow W4.heap.size 107 4 v l.length (flatB l)))),(162,fun v _=>v=(.int .i64 (pE o))),(16,(fun v u=>(∀ l,o=some l→u.ownsRow W4.heap.size 107 4 v l.length (flatB l)))),(17,fun v _=>v=(.int .i64 (pE o)))] (fun u=>Below W4.heap.size W4 u) (fun u u'=>Below u.heap.size u u') (fun _ _ _=>True) (by kernel_rfl) rfl (by decide) (Below.refl _ _).drew ?st23 (fun _ _ _ _ _ _=>trivial) ?steps23 ?fin23;case st23=>repeat' first | exact trivial | exact fun v u u' h hr m hm=>own_below (h m hm) hr | (rintro v u u' ⟨v1,e,h⟩ hr; exact ⟨v1,e,fun m hm=>own_below (h m hm) hr⟩) | exact fun v u u' h _=>h | refine ⟨?_,?_⟩
  case steps23 =>
   refine ⟨?_,?_,?_,?_,?_,?_,?_,?_,?_,?_,?_,?_,?_,?_,?_,?_,?a23,?b23,?c23,?d23,?e23,?g23,?_,trivial⟩
   case a23 =>
    intro ρ u hp hJ hr;have r1:ρ _=.pointer (some ⟨b,0,none⟩):=hr.1;clear hr;refine gives_enter (f:=59) (args:=#[.pointer (some ⟨b,0,none⟩)]) (w':=u) ?_ ((rheld_any col1 u b bd N y _ (H4.out.below hJ) HI4.out).mono ?_)
    ·have hpf:=hp.func 59
     go_simp
    rintro e u' ⟨rfl,hb⟩;exact ⟨_,rfl,show Value.agg (hldV (hlOf t))=_ by rw [Hhs.out],hJ.trans (hb.mono hJ.size),hb,trivial⟩
   case b23 =>
    intro ρ u hp hJ hr;have r1:ρ _=y.bufs:=hr.1;have r2:ρ _=(.agg #[.int .i64 (rr.lo+(m:Int)),.string sd,.bool false,.int .i64 (t.use+1)]):=hr.2.1;have r3:ρ _=.agg (hldV hs):=hr.2.2.1;clear hr;refine gives_enter (f:=69) (args:=#[y.bufs,(.agg #[.int .i64 (rr.lo+(m:Int)),.string sd,.bool false,.int .i64 (t.use+1)]),.agg (hldV hs)]) (w':=u) ?_ ((show Calls _ _ #[y.bufs,(.agg #[.int .i64 (rr.lo+(m:Int)),.string sd,.bool false,.int .i64 (t.use+1)]),.agg (hldV hs)] u (RetPutB o u) from Hhs.out▸rput_st H4.out HI4.out ⟨(rr.lo+(m:Int)),sd,false,t.use+1⟩ Hpo.out u hJ).mono ?_)
    ·have hpf:=hp.func 69
     go_simp
    rintro e u' ⟨v2,rfl,ho2,hb2⟩;exact ⟨_,rfl,⟨v2,rfl,fun m hm=>own_lo (ho2 m hm) hJ.size⟩,hJ.trans (hb2.mono hJ.size),hb2,trivial⟩
   case c23 =>
    intro ρ u hp hJ hr;obtain ⟨v1,r1,h1⟩:=hr.1;refine gives_value (v:=.tuple #[v1,.int .i64 (pE o)]) (w':=u) ?_ ⟨⟨v1,rfl,h1⟩,hJ,Below.refl _ _,trivial⟩;clear hr h1;go_simp
   case d23 =>
    intro ρ u hp hJ hr;obtain ⟨v1,r1,h1⟩:=hr.1;refine gives_value (v:=v1) (w':=u) ?_ ⟨h1,hJ,Below.refl _ _,trivial⟩;clear hr h1;go_simp
   case e23 =>
    intro ρ u hp hJ hr;obtain ⟨v1,r1,h1⟩:=hr.1;refine gives_value (v:=.int .i64 (pE o)) (w':=u) ?_ ⟨rfl,hJ,Below.refl _ _,trivial⟩;clear hr h1;go_simp
   case g23 =>
    intro ρ u hp hJ hr;refine gives_value (v:=ρ (.tmp 161)) (w':=u) ?_ ⟨hr.1,hJ,Below.refl _ _,trivial⟩;clear hr;go_simp
   all_goals
    intro ρ u hp hJ hr;have r1:ρ _=_:=hr.1;try have r2:ρ _=_:=hr.2.1
    try have r3:ρ _=_:=hr.2.2.1
    clear hr;have d1:=cell_b hJ c2;have d2:=cell_b hJ d6;have d3:=cell_b hJ dg;have d4:=cell_b hJ c9;refine gives_value (v:=_) (w':=u) ?_ ⟨rfl,hJ,Below.refl _ _,trivial⟩;go_simp
  case fin23 =>
   intro f u hF hJ hU hE;have f17:f 17=.int .i64 (pE o):=hF.2.2.2.2.2.2.2.2.2.2.2.2.2.2.2.2.2.2.2.2.2.2.1;have f16:(∀ l,o=some l→u.ownsRow W4.heap.size 107 4 (f 16) l.length (flatB l)):=hF.2.2.2.2.2.2.2.2.2.2.2.2.2.2.2.2.2.2.2.2.2.1;have H5:=Lib.hid (H4.out.below hJ);have HK5:=Lib.hid (HK4.out.two (Chg.of_below hJ));clear hF hU hE hJ c2 c9 d6 dg;simp only [laid];have HE0:Hid (t.ended1 false (rr.lo+(m:Int)) sd=({ t with use:=t.use+1,bufs:=o.getD t.bufs }:St).tell (rr.lo+(m:Int)) sd):=show _=_ by unfold St.ended1; rw [if_neg (by decide),if_neg (by rw [Hgg.out,Hgt.out]; decide),Hpo.out]
   cases o
   case' none =>
    have f17:f 17=.int .i64 7:=f17;clear f16;go_upto_region 26 with fail
    obtain ⟨W5,rfl⟩:∃ W,W=u:=⟨_,rfl⟩
    obtain ⟨T5,hT5⟩:∃ T:St,({ t with use:=t.use+1,bufs:=(none:Option (List Bf)).getD t.bufs }:St)=T:=⟨_,rfl⟩
    obtain ⟨y5,hy5⟩:∃ z:Sv,y=z:=⟨_,rfl⟩
    have h6:StAt Tr col1 W5 b bd N y5 T5:=hy5▸hT5▸H5.out;have H6:=Lib.hid h6;rw [hT5] at HE0;have HK6:=HK5;clear hT5 hy5 h6 f17
   case' some l =>
    have f17:f 17=.int .i64 0:=f17;have ho2:=f16 l rfl;obtain ⟨A2,n2,m2,e2,en⟩:=own_slice' ho2;rw [e2,← en] at ho2;have Ho2:=Lib.hid ho2;have Hen:=Lib.hid en;have q3:u.cell? ⟨b,2,none⟩=some y.bufs:=H5.out.cell 2;have q4:=H5.out.frozen 2;clear f16 ho2 en;go_upto_region 26 with fail
    have hat:atB t.bufs (rr.lo+(m:Int))=none:=by unfold atB; rw [Hgg.out,Hgt.out]; rfl
    have hI5:Inv { t with use:=t.use+1,bufs:=l }:=HIn.out.putB Hpo.out ⟨by have:=Hlo.out; simp only; omega,Hlo.out.2.1⟩ Hsz.out (show t.use≤t.use+1 by omega) (by have:=HIn.out.use0; simp only; omega) (fun h=>by cases h) (.inr hat);have hS5:=(Same1.refl (b:=b) (w:=u)).setCell 2 (.slice A2 n2 m2);have hv5:BufsAt (S0 col1) u (.slice A2 n2 m2) l:=bufs_of_own (fun k hk=>H4.out.s0 k hk) (Hen.out▸Ho2.out) (hI5.bok (by show t.use+1≤_; have:=Hu.out; omega));have h6:=H5.out.bufd hS5 hv5 (heap_setCell_same _ _ 2 _ _ _ H5.out.row);have HK6:=Lib.hid (HK5.out.two (hS5.chg Hfb.out))
    obtain ⟨T5,hT5⟩:∃ T:St,({ t with use:=t.use+1,bufs:=(some l).getD t.bufs }:St)=T:=⟨_,rfl⟩
    obtain ⟨y5,hy5⟩:∃ z:Sv,{ y with bufs:=.slice A2 n2 m2 }=z:=⟨_,rfl⟩
    have h6:StAt Tr col1 _ b bd N y5 T5:=hy5▸hT5▸h6;have H6:=Lib.hid h6;rw [hT5] at HE0;clear hS5 hv5 hI5 q3 q4 hT5 hy5 h6 hat f17;generalize u.setCell ⟨b,2,none⟩ (.slice A2 n2 m2)=W5 at HK6 H6 ⊢
   all_goals
    clear HK5;go_wp2_with fail
    obtain ⟨wo,rfl⟩:∃ wo:World,wo=wr:=⟨_,rfl⟩
    go_loopw [18,19] (fun i _ wr=>∃ (c:Nat) (z:Sv),c≤3∧i=.int .i64 c∧Hid (StAt Tr col1 wr b bd N z (tellN (rr.lo+(m:Int)) sd T5 c))∧Hid (Chg (Fl col1) wo wr)) (fun i _ _=>3 - (intOf i).toNat)
    case atStart=>exact ⟨0,y5,by omega,rfl,H6.out,HK6.out⟩
    case round =>
     obtain ⟨c,z,hc,rfl,HZ,HKz⟩:=hrel;by_cases h3:c<3
     ·have hk3:(c:Int)<3:=by omega
      have hk0:¬ (c:Int)<0:=by omega
      obtain ⟨p,ep,hn,hq⟩:=HZ.out.ptr c h3;have cA:wr.cell? ⟨b,11+c,none⟩=some (.pointer p):=(HZ.out.cellA h3).trans (congrArg some ep)
      cases ho:(tellN (rr.lo+(m:Int)) sd T5 c).askAt c with
      |none =>
       obtain rfl:=hn ho;have He1:Hid (tellN (rr.lo+(m:Int)) sd T5 (c+1)=tellN (rr.lo+(m:Int)) sd T5 c):=show _=_ from tell1_none ho;clear ho hn hq ep;go_wp2_with fail;go_roundw
       case rel=>exact ⟨c+1,z,by omega,by go_num,He1.out▸HZ.out,HKz.out⟩
       case measure=>simp [intOf]; omega
      |some a =>
       obtain ⟨ba,rfl⟩:=hq a ho;obtain ⟨lv,hrow,_,_⟩:=HZ.out.askc h3 ho ep;have k0:wr.cell? ⟨ba,0,none⟩=some (.int .i64 a.kind):=cell_of_row _ _ 0 _ _ _ hrow;have k1:wr.cell? ⟨ba,1,none⟩=some (.int .i64 a.pos):=cell_of_row _ _ 1 _ _ _ hrow;have Ho:=Lib.hid ho;clear ho hn hq ep hrow;by_cases hh:a.kind=1∧a.pos=(rr.lo+(m:Int))
       ·have He1:Hid (tellN (rr.lo+(m:Int)) sd T5 (c+1)=(tellN (rr.lo+(m:Int)) sd T5 c).answer c sd 0):=show _=_ from tell1_hit Ho.out hh.1 hh.2
        rw [hh.1] at k0;rw [hh.2] at k1;have d6:wr.cell? ⟨B,6,none⟩=some (.slice (some ⟨q,off,none⟩) ol co):=cell_of_row _ _ 6 _ _ _ ((Hkeep.out wr HKz.out).1.trans Hbx.out);have dg:=(Hkeep.out wr HKz.out).2;clear hh;go_wp2_with fail;refine (ranswer_any col1 wr b bd N z _ c sd 0 HZ.out h3).mono ?_;rintro e w7 ⟨rfl,hs7,hst7⟩;have Hst7:=Lib.hid hst7;have HK7:=Lib.hid (HKz.out.two (hs7.chg Hfb.out));clear hst7 hs7 k0 k1 d6 dg;go_wp2_with fail;go_roundw
        case rel =>
         have hR:Hid (StAt Tr col1 w7 b bd N (z.ans c sd 0) (tellN (rr.lo+(m:Int)) sd T5 (c+1))):=show StAt .. from He1.out▸Hst7.out
         first
          |exact ⟨c+1,z.ans c sd 0,by omega,by go_num,hR,HK7.out⟩
          |((repeat apply Exists.intro); exact ⟨⟨c+1,z.ans c sd 0,by omega,by go_num,hR,HK7.out⟩,rfl⟩)
        case measure=>simp [intOf]; omega
       ·have He1:Hid (tellN (rr.lo+(m:Int)) sd T5 (c+1)=tellN (rr.lo+(m:Int)) sd T5 c):=show _=_ from tell1_miss Ho.out hh
        have key:(a.kind == 1)=false∨(a.kind=1∧(a.pos == (rr.lo+(m:Int)))=false):=by
         by_cases h1:a.kind=1
         ·exact .inr ⟨h1,by simp only [beq_eq_false_iff_ne]; exact fun e=>hh ⟨h1,e⟩⟩
         ·exact .inl (by simp only [beq_eq_false_iff_ne]; exact h1)
        clear hh
        rcases key with h1 | ⟨h1,h2⟩
        all_goals
         try rw [h1] at k0
         go_wp2_with fail;go_roundw
         case rel=>exact ⟨c+1,z,by omega,by go_num,He1.out▸HZ.out,HKz.out⟩
         case measure=>simp [intOf]; omega
     ·obtain rfl:c=3:=by omega
      have hi:((3:Nat):Int)=3:=rfl;go_wp2_with fail;refine HT.out _ _ z rfl rfl rfl rfl (by first | rfl | go_num) ?_ HKz.out;rw [Hw.out,HE0.out,← tellN_3];exact HZ.out
theorem rend_ok (col:Nat→Nat) (w:World) (b bd N:Nat) (x:Sv) (s:St) (k:Nat) (r:Rq) (K:Int) (h:StAt Tr col w b bd N x s) (hI:Inv s) (hB:Bd K s) (h0:0≤K) (hK:K≤700000000) (hN:N≤900000000) (hk:s.v.d.l[k]?=some r) :
  Calls Tryz.prog 27 #[.pointer (some ⟨b,0,none⟩),.int .i64 (k:Int),.bool false] w (Ret5 Tr col w b bd (N+2) (s.end_ k false).1 (.int .i64 ((s.end_ k false).2:Nat))):=by
 have hcall:=rstend_any col w b bd N x s k false h hI (by have:=hB.waits; omega) hN;rw [drvEndAt_ok _ _ _ hk,St.ended_res] at hcall;have He:Hid (s.end_ k false=(((s.did k r).endedN r.write r.lo (s.outs r) r.many.toNat).serve,0)):=St.end_ok hk;have Hrok:Hid (ReqOk r):=reqF_zero (hI.dv.l r (List.mem_of_getElem? hk))
 have Hdb:Hid (Bd (K+4) (s.did k r)):=show Bd _ _ from by
  have h1:=(hI.dv.ended Hrok.out k false).2;exact ⟨by have:=hB.use; show s.use≤_; omega,by have:=hB.tag; show s.tag≤_; omega,by have:=hB.waits; show ((s.v.d.ended r k false).1.waits.length:Int)≤_; omega⟩
 have HIn:Hid (∀ n,n≤r.many.toNat→Inv ((s.did k r).endedN r.write r.lo (s.outs r) n)):=fun n hn=>hI.endedN hk n hn
 have Hos:Hid (∀ d ∈ s.outs r,d.size≤16):=hI.outs_size hk;have Hfree:Hid (∀ q,hasB r.lo r.many q=true→(s.did k r).heldP q=false):=fun q hq=>hI.did_free hk hq
 have Hcall:=Lib.hid hcall;have Hnow:Hid (s.v.d.now.length=32):=hI.dv.now;have H:=Lib.hid h;have c1:w.cell? ⟨b,1,none⟩=some (.pointer (some ⟨x.bv,0,none⟩)):=h.cell 1;clear h hI hB hN hk hcall;go_enter Tryz.func27,Tryz.ntmps27;go_wp2_with fail;refine Hcall.out.mono ?_;rintro e w1 ⟨col',c,ov,rfl,hc,hok,hov,hst,hch,hrec⟩;obtain ⟨Ad,cd,e1,_,_⟩:=hok.data.form;obtain ⟨At,ct,e2,_,_⟩:=hok.tags.form;obtain ⟨Ao,co,e3,_,_⟩:=hov.form;obtain ⟨rr,rdv,rtv⟩:=c;simp only at e1 e2 hc;subst e1 e2 e3;subst hc;have Hst:=Lib.hid hst;have Hch:=Lib.hid hch;have Hrec:=Lib.hid hrec;have Hdt:Hid (StrsAt (Im w1 col') w1 (.slice Ad rr.data.length cd) rr.data):=hok.data
 obtain ⟨ol,hol⟩:∃ n,(if rr.write then [] else s.v.d.reads rr.lo.toNat rr.many.toNat).length=n:=⟨_,rfl⟩
 obtain ⟨od,hod⟩:∃ l,(if rr.write then [] else s.v.d.reads rr.lo.toNat rr.many.toNat)=l:=⟨_,rfl⟩
 rw [hod] at hov hol;rw [hod];have Hov:=Lib.hid hov;have Hod:=Lib.hid hod;have Hol:=Lib.hid hol;rw [hol];clear hok hov hst hch hrec c1 hod hol;unfold rsCells;go_wp2_with fail
 obtain ⟨B,hBz⟩:∃ B,w1.heap.size=B:=⟨_,rfl⟩
 have hb2:=(Below.refl w1.heap.size w1).alloc (Nat.le_refl _) (.cells #[.bool rr.write,.int .i64 rr.lo,.int .i64 rr.many,.slice Ad rr.data.length cd,.slice At rr.tags.length ct,.int .i64 rr.born,.slice Ao ol co,.int .i64 0] 123);have HX:Hid ((w1.alloc (.cells #[.bool rr.write,.int .i64 rr.lo,.int .i64 rr.many,.slice Ad rr.data.length cd,.slice At rr.tags.length ct,.int .i64 rr.born,.slice Ao ol co,.int .i64 0] 123)).heap[B]?=some (.cells #[.bool rr.write,.int .i64 rr.lo,.int .i64 rr.many,.slice Ad rr.data.length cd,.slice At rr.tags.length ct,.int .i64 rr.born,.slice Ao ol co,.int .i64 0] 123 (0,0))):=show _=_ from hBz▸heap_alloc_new w1 _;have HcB:Hid (col' B=0):=show _=_ from Hst.out.s0 B (by omega);rw [hBz];have H2:=Lib.hid (Hst.out.below hb2);have Hch2:Hid (Chg (Fl col) w _):=show Chg _ _ _ from Hch.out.two (Chg.of_below hb2);have Hdt2:=Lib.hid (Hdt.out.below hb2);have Hov2:=Lib.hid (Hov.out.below hb2);have Hs2:=Lib.hid hb2.size;clear hb2 hBz;generalize World.alloc _ _=w2 at HX H2 Hch2 Hdt2 Hov2 Hs2 ⊢;obtain ⟨a1,a2,a3,a4,a5⟩:=Hrok.out.span;refine wp_loop (fun a wr=>∃ (m:Nat) (y:Sv),m≤rr.many.toNat∧a.tmps.size=206∧a.defers=[]∧a.tmps[0]?=some (.pointer (some ⟨b,0,none⟩))∧a.tmps[7]?=some (.pointer (some ⟨B,0,none⟩))∧a.tmps[12]?=some (.int .i64 (m:Int))∧Hid (StAt Tr col' wr b bd (N+2) y ((s.did k rr).endedN rr.write rr.lo (s.outs rr) m))∧Hid (Chg (Fl col') w2 wr)) (fun a _=>rr.many.toNat - (intOf (a.tmps.getD 12 undef)).toNat) ⟨0,_,by omega,rfl,rfl,rfl,rfl,rfl,H2.out,Chg.refl⟩ ?_;rintro a0 wr ⟨m,y,hm,z1,z2,z3,z4,z5,HS,HC⟩;have hbox:=(HC.out.block B (Array.getElem?_eq_some_iff.1 HX.out).1 (fun hf=>hf.1 HcB.out)).trans HX.out;by_cases hlt:m<rr.many.toNat
 ·have hp:hasB rr.lo rr.many (rr.lo+(m:Int))=true:=by rw [hasB_iff]; omega
  have hfr:((s.did k rr).endedN rr.write rr.lo (s.outs rr) m).heldP (rr.lo+(m:Int))=false:=by rw [(Keeps.endedN _ _ _ _ m).held]; exact Hfree.out _ hp
  have hI1:=HIn.out m (by omega);have hB1:=Hdb.out.endedN rr.write rr.lo (s.outs rr) m
  have hu:0≤((s.did k rr).endedN rr.write rr.lo (s.outs rr) m).use∧((s.did k rr).endedN rr.write rr.lo (s.outs rr) m).use≤900000000:=⟨hI1.use0,by have:=hB1.use; omega⟩
  have hto:∀ (a':Act) (w':World) (y':Sv),a'.tmps.size=206→a'.defers=[]→a'.tmps[0]?=some (.pointer (some ⟨b,0,none⟩))→a'.tmps[7]?=some (.pointer (some ⟨B,0,none⟩))→a'.tmps[12]?=some (.int .i64 ((m+1:Nat):Int))→StAt Tr col' w' b bd (N+2) y' (((s.did k rr).endedN rr.write rr.lo (s.outs rr) m).ended1 rr.write (rr.lo+(m:Int)) ((s.outs rr).getD m noB))→Chg (Fl col') wr w' →
    (∃ (m:Nat) (y:Sv),m≤rr.many.toNat∧a'.tmps.size=206∧a'.defers=[]∧a'.tmps[0]?=some (.pointer (some ⟨b,0,none⟩))∧a'.tmps[7]?=some (.pointer (some ⟨B,0,none⟩))∧a'.tmps[12]?=some (.int .i64 (m:Int))∧Hid (StAt Tr col' w' b bd (N+2) y ((s.did k rr).endedN rr.write rr.lo (s.outs rr) m))∧Hid (Chg (Fl col') w2 w'))∧rr.many.toNat - (intOf (a'.tmps.getD 12 undef)).toNat<rr.many.toNat - (intOf (a0.tmps.getD 12 undef)).toNat:=by
   intro a' w' y' q1 q2 q3 q4 q5 hs' hc';refine ⟨⟨m+1,y',by omega,q1,q2,q3,q4,q5,hs',HC.out.two hc'⟩,?_⟩;rw [show a'.tmps.getD 12 undef=.int .i64 ((m+1:Nat):Int) by rw [Array.getD_eq_getD_getElem?,q5]; rfl,show a0.tmps.getD 12 undef=.int .i64 (m:Int) by rw [Array.getD_eq_getD_getElem?,z5]; rfl];simp only [intOf];omega
  have hsz:((s.outs rr).getD m noB).size≤16:=getD_size Hos.out m;rcases Bool.eq_false_or_eq_true rr.write with hw | hw
  ·have ho:s.outs rr=rr.data:=by unfold St.outs; rw [hw]; rfl
   have hl:m<rr.data.length:=by have:=data_len Hrok.out hw; omega
   obtain ⟨g,off,eA,hSg,hgl,hgc⟩:=strs_cell (k:=m) Hdt2.out hl;rw [← ho] at hgc;exact rend_w _ _ _ _ _ _ _ _ _ _ _ _ _ _ _ _ _ _ _ _ _ _ _ g off ⟨rfl,z1,z2,z3,z4,z5,HS.out,hI1,hu,hbox,HcB.out,by omega,⟨by omega,by omega,by omega⟩,hfr,hsz,hto⟩ hw eA hl ((World.cell?_of_block (HC.out.block g hgl (fun hf=>hf.1 hSg.2))).trans hgc)
  ·have ho:s.outs rr=od:=by rw [← Hod.out]; unfold St.outs; rw [hw]; rfl
   have hl:m<ol:=by
    rw [← Hol.out,← Hod.out,hw,if_neg (by decide)];unfold Dv.reads;rw [List.length_take,List.length_drop,Hnow.out];omega
   obtain ⟨g,off,eA,hSg,hgl,hgc⟩:=strs_cell (k:=m) (Hol.out▸Hov2.out:StrsAt _ w2 (.slice Ao ol co) od) (by rw [Hol.out]; exact hl);rw [← ho] at hgc;exact rend_r _ _ _ _ _ _ _ _ _ _ _ _ _ _ _ _ _ _ _ _ _ _ _ g off ⟨rfl,z1,z2,z3,z4,z5,HS.out,hI1,hu,hbox,HcB.out,by omega,⟨by omega,by omega,by omega⟩,hfr,hsz,hto⟩ hw eA hl ((World.cell?_of_block (HC.out.block g hgl (fun hf=>hf.1 hSg.2))).trans hgc) hSg.2 (Nat.lt_of_lt_of_le hgl HC.out.size)
 ·obtain rfl:m=rr.many.toNat:=by omega
  obtain ⟨f,rfl,hf⟩:=frame_of a0 z1 z2;have y0:=hf 0 _ z3;have y7:=hf 7 _ z4;have y12:=hf 12 _ z5;have d2:wr.cell? ⟨B,2,none⟩=some (.int .i64 rr.many):=cell_of_row _ _ 2 _ _ _ hbox;have hlt2:¬ ((rr.many.toNat:Nat):Int)<rr.many:=by omega
  have HI1:=Lib.hid (HIn.out rr.many.toNat (Nat.le_refl _));have HB1:Hid (Bd (K+10) ((s.did k rr).endedN rr.write rr.lo (s.outs rr) rr.many.toNat)):=show Bd _ _ from (Hdb.out.endedN rr.write rr.lo (s.outs rr) rr.many.toNat).mono (by omega);simp only [List.range,List.range.loop,List.map_cons,List.map_nil,y0,y7,y12];clear z1 z2 z3 z4 z5 hbox y0 y7 y12 hf hlt;go_wp2_with fail;refine (rserve_any col' wr b bd (N+2) y _ (K+10) HS.out HI1.out HB1.out (by omega) (by omega)).mono ?_;rintro e w5 ⟨c5,y5,rfl,hst5,hc5,hr5⟩;have Hr:=Lib.hid (Ret5.after (v:=.int .i64 0) ⟨c5,y5,rfl,hst5,hc5,hr5⟩ (Hch2.out.recol HC.out Hrec.out.grow) ⟨Hrec.out.old,Hrec.out.grow⟩);clear hst5 hc5 hr5;go_wp2_with fail;go_ret;rw [He.out];exact Hr.out
theorem rend_any (col:Nat→Nat) (w:World) (b bd N:Nat) (x:Sv) (s:St) (i:Int) (f:Bool) (K:Int) (h:StAt Tr col w b bd N x s) (hI:Inv s) (hB:Bd K s) (h0:0≤K) (hK:K≤700000000) (hN:N≤900000000) :
  Calls Tryz.prog 27 #[.pointer (some ⟨b,0,none⟩),.int .i64 i,.bool f] w (Ret5 Tr col w b bd (N+2) (s.end_ i f).1 (.int .i64 ((s.end_ i f).2:Nat))):=by
 cases hd:(s.v.endAt i f).2.2.1 with
 |false=>exact rend_no col w b bd N x s i f h hI (by have:=hB.waits; omega) hN hd
 |true =>
  rcases endAt_split s.v.d i with hi | ⟨k,r,rfl,hk⟩
  ·rw [drvEndAt_none _ _ _ hi] at hd; cases hd
  ·cases f with
   |true =>
    by_cases h3:s.v.tries (tagOf r)+1<3
    ·rw [drvEndAt_again _ _ _ hk hI.dv.two h3] at hd; cases hd
    ·exact rend_gone col w b bd N x s k r K h hI hB h0 (by omega) hN hk h3
   |false=>exact rend_ok col w b bd N x s k r K h hI hB h0 hK hN hk
end Go.Proofs.YtagndjihiklmiaaGreatDoor
namespace Go.Proofs.YtagndjihiklmiaaGreatDoor
def isP (o:Option Ak):Bool:=isKind 2 o || isKind 3 o
def mustK (s:St):Nat→Bool
 |0=>decide (3≤dirtyB s.bufs)
 |k+1=>mustK s k || isP (s.askAt k)
theorem must3 {s:St} (h:s.asks.length=3):mustK s 3=s.pressed:=by
 unfold St.pressed;show (((decide (3≤dirtyB s.bufs) || isP (s.askAt 0)) || isP (s.askAt 1)) || isP (s.askAt 2))=_;unfold St.askAt
 match hl:s.asks,h with
 | [a,b,c],_=>simp [isP,Bool.or_assoc]
end Go.Proofs.YtagndjihiklmiaaGreatDoor
namespace Go.Proofs.YtagndjihiklmiaaGreatDoor
open Go.RowKit Go.Sort
theorem rclean_st (col:Nat→Nat) (w:World) (b bd N:Nat) (x:Sv) (s:St) (h:StAt Tr col w b bd N x s) (hI:Inv s) (hu:s.use≤900000000∧s.tag≤900000000) :
  Calls Tryz.prog 25 #[.pointer (some ⟨b,0,none⟩)] w (Ret2 Tr col w b bd N x s.clean.1 (.bool s.clean.2)):=by
 have H:=Lib.hid h;have HI:=Lib.hid hI;have Hub:=Lib.hid hu;have c2:w.cell? ⟨b,2,none⟩=some x.bufs:=h.cell 2;have Hc:Hid (s.clean=if s.dead || !s.pressed then (s,false) else if pickB s.bufs s.heldP<0 then (s,false) else s.queue true (pickB s.bufs s.heldP) (getB s.bufs (pickB s.bufs s.heldP)).1.data):=show _=_ from rfl;have hz:=zero_buf;clear h hI hu;go_enter Tryz.func25,Tryz.ntmps25;go_wp2_with fail;refine (rdirty_any _ s.bufs x.bufs w H.out.bufs (by have:=HI.out.len8; omega)).mono ?_;rintro e w1 ⟨rfl,hb1⟩;have HB1:=Lib.hid hb1;have H1:=Lib.hid (H.out.below hb1);clear hb1 c2;go_wp2_with fail;go_loopw [3,4] (fun m i wr=>∃ k:Nat,k≤3∧i=.int .i64 k∧m=.bool (mustK s k)∧wr=w1) (fun _ i _=>3 - (intOf i).toNat)
 case atStart=>exact ⟨0,by omega,rfl,congrArg Value.bool (decide_eq_decide.2 (by omega)),rfl⟩
 case round =>
  obtain ⟨k,hk,rfl,rfl,rfl⟩:=hrel;by_cases h3:k<3
  ·have hk3:(k:Int)<3:=by omega
   have hk0:¬ (k:Int)<0:=by omega
   obtain ⟨p,ep,hn,hq⟩:=H1.out.ptr k h3;have cA:wr.cell? ⟨b,11+k,none⟩=some (.pointer p):=(H1.out.cellA h3).trans (congrArg some ep);have He:Hid (mustK s (k+1)=(mustK s k || isP (s.askAt k))):=show _=_ from rfl
   cases hm:mustK s k with
   |true =>
    have Hm:=Lib.hid hm;clear hm hn hq ep;go_wp2_with fail;go_roundw
    case rel=>exact ⟨k+1,by omega,by go_num,by rw [He.out,Hm.out]; rfl,by trivial⟩
    case measure=>simp [intOf]; omega
   |false =>
    have Hm:=Lib.hid hm;clear hm
    cases ho:s.askAt k with
    |none =>
     obtain rfl:=hn ho;have Ho:=Lib.hid ho;clear ho hn hq ep;go_wp2_with fail;go_roundw
     case rel=>exact ⟨k+1,by omega,by go_num,by rw [He.out,Hm.out,Ho.out]; rfl,by trivial⟩
     case measure=>simp [intOf]; omega
    |some a =>
     obtain ⟨ba,rfl⟩:=hq a ho;obtain ⟨lv,hrow,_,_⟩:=H1.out.askc h3 ho ep;have k0:wr.cell? ⟨ba,0,none⟩=some (.int .i64 a.kind):=cell_of_row _ _ 0 _ _ _ hrow;have Ho:=Lib.hid ho;have Hkd:=Lib.hid (HI.out.ask k a ho).kind;clear ho hn hq ep hrow;rcases Hkd.out with hkd | hkd | hkd
     all_goals
      have HP:Hid (isP (some a)=decide (1<a.kind)):=show _=_ by simp [isP,isKind,hkd]
      rw [hkd] at k0 HP;clear hkd;go_wp2_with fail;go_roundw
      case rel=>exact ⟨k+1,by omega,by go_num,by rw [He.out,Hm.out,Ho.out,HP.out]; rfl,by trivial⟩
      case measure=>simp [intOf]; omega
  ·obtain rfl:k=3:=by omega
   have hi:((3:Nat):Int)=3:=rfl;rw [must3 HI.out.asks];have c20:wr.cell? ⟨b,20,none⟩=some (.bool s.dead):=H1.out.cell 20;have HC1:Hid (Chg (fun k=>k=b) w wr):=show Chg _ _ _ from Chg.of_below HB1.out;by_cases hq:(s.dead || !s.pressed)=true
   ·have Hs:Hid (s.clean=(s,false)):=show _=_ by rw [Hc.out,if_pos hq]
    cases hd:s.dead with
    |true =>
     rw [hd] at c20;clear hd hq;go_wp2_with fail;go_ret;rw [Hs.out];exact ⟨_,rfl,H1.out,HC1.out,.refl⟩
    |false =>
     have hp:s.pressed=false:=by rw [hd] at hq; simpa using hq
     rw [hd] at c20;rw [hp];clear hd hp hq;go_wp2_with fail;go_ret;rw [Hs.out];exact ⟨_,rfl,H1.out,HC1.out,.refl⟩
   ·have hd:s.dead=false:=by cases h:s.dead <;> simp_all
    have hp:s.pressed=true:=by cases h:s.pressed <;> simp_all
    obtain ⟨pk,hpk⟩:∃ n,pickB s.bufs s.heldP=n:=⟨_,rfl⟩
    have Hs:Hid (s.clean=if pk<0 then (s,false) else s.queue true pk (getB s.bufs pk).1.data):=show _=_ by rw [Hc.out,if_neg hq,hpk]
    have Hpk:=Lib.hid hpk;rw [hd] at c20;rw [hp];clear hd hp hq hpk;go_wp2_with fail
    obtain ⟨hs,hhs⟩:∃ l,hlOf s=l:=⟨_,rfl⟩
    have Hhs:=Lib.hid hhs;clear hhs c20;have c2:wr.cell? ⟨b,2,none⟩=some x.bufs:=H1.out.cell 2;refine wp_region_ev mixed [(48,fun v _=>v=(.pointer (some ⟨b,0,none⟩))),(49,fun v _=>v=(.pointer (some ⟨b,0,none⟩))),(50,fun v _=>v=(.pointer (some ⟨b,2,none⟩))),(51,fun v _=>v=x.bufs),(52,fun v _=>v=(.pointer (some ⟨b,0,none⟩))),(53,fun v _=>v=(.agg (hldV hs))),(54,fun v _=>v=(.int .i64 pk)),(5,fun v _=>v=(.int .i64 pk))] (fun u=>Below wr.heap.size wr u) (fun u u'=>Below u.heap.size u u') (fun _ _ _=>True) (by kernel_rfl) rfl (by decide) (Below.refl _ _).drew ?st8 (fun _ _ _ _ _ _=>trivial) ?steps8 ?fin8;case st8=>repeat' first | exact trivial | exact fun v u u' h _=>h | refine ⟨?_,?_⟩
    case steps8 =>
     refine ⟨?_,?_,?_,?_,?_,?a8,?b8,?_,trivial⟩
     case a8 =>
      intro ρ u hp hJ hr;have r1:ρ _=.pointer (some ⟨b,0,none⟩):=hr.1;clear hr;refine gives_enter (f:=59) (args:=#[.pointer (some ⟨b,0,none⟩)]) (w':=u) ?_ ((rheld_any col u b bd N x s (H1.out.below hJ) HI.out).mono ?_)
      ·have hpf:=hp.func 59
       go_simp
      rintro e u' ⟨rfl,hb⟩;exact ⟨_,rfl,show Value.agg (hldV (hlOf s))=_ by rw [Hhs.out],hJ.trans (hb.mono hJ.size),hb,trivial⟩
     case b8 =>
      intro ρ u hp hJ hr;have r1:ρ _=x.bufs:=hr.1;have r2:ρ _=.agg (hldV hs):=hr.2.1;clear hr;refine gives_enter (f:=58) (args:=#[x.bufs,.agg (hldV hs)]) (w':=u) ?_ ((rpick_any _ s.bufs x.bufs hs u (H1.out.below hJ).bufs HI.out.inb (Hhs.out▸hlOf_len s) (by have:=HI.out.len8; omega)).mono ?_)
      ·have hpf:=hp.func 58
       go_simp
      rintro e u' ⟨rfl,hb⟩;exact ⟨_,rfl,show Value.int .i64 (pickB s.bufs (heldL hs))=_ by rw [← Hhs.out,pickB_congr HI.out.inb (fun p h0 h1=>hlOf_at s h0 h1),Hpk.out],hJ.trans (hb.mono hJ.size),hb,trivial⟩
     all_goals
      intro ρ u hp hJ hr;have r1:ρ _=_:=hr.1;clear hr;have d1:=cell_b hJ c2;refine gives_value (v:=_) (w':=u) ?_ ⟨rfl,hJ,Below.refl _ _,trivial⟩;go_simp
    case fin8 =>
     intro f u hF hJ hU hE;have f5:f 5=.int .i64 pk:=hF.2.2.2.2.2.2.2.1;have H2:=Lib.hid (H1.out.below hJ);have HC2:Hid (Chg (fun k=>k=b) w u):=show Chg _ _ _ from HC1.out.trans (Chg.of_below hJ);clear hF hU hE hJ c2;simp only [laid];by_cases hn:pk<0
     ·have hnd:decide (pk<0)=true:=by simpa using hn
      have Hn:=Lib.hid hn;clear hn;go_wp2_with fail;go_ret;rw [Hs.out,if_pos Hn.out];exact ⟨_,rfl,H2.out,HC2.out,.refl⟩
     ·have hnd:decide (pk<0)=false:=by simpa using hn
      obtain ⟨y,hy,hpos,hg,_⟩:=pick_some HI.out.rises (show ¬ pickB s.bufs s.heldP<0 by rw [Hpk.out]; exact hn);rw [Hpk.out] at hpos hg;have Hpr:Hid (0≤pk∧pk≤31):=show _∧_ from hpos▸HI.out.inb y hy
      obtain ⟨g,hgg⟩:∃ g,getB s.bufs pk=g:=⟨_,rfl⟩
      have Hsz:Hid (g.1.data.size≤16):=show _≤_ by rw [← hgg,hg]; exact HI.out.size y hy
      have Hg:=Lib.hid hgg;have Hn:=Lib.hid hn;have c2:u.cell? ⟨b,2,none⟩=some x.bufs:=H2.out.cell 2;clear hn hy hpos hg hgg;go_wp2_with fail;refine (rget_st H2.out HI.out _ Hg.out u (Below.refl _ _)).mono ?_;rintro e w3 ⟨rfl,hb3⟩;have H3:=Lib.hid (H2.out.below hb3);have HC3:Hid (Chg (fun k=>k=b) w w3):=show Chg _ _ _ from HC2.out.trans (Chg.of_below hb3);clear hb3 c2;go_wp2_with fail;have L:=((Lay.refl w3).alloc' w3.heap.size #[.int .i64 g.1.pos,.string g.1.data,.bool g.1.dirty,.int .i64 g.1.used] 107 rfl).alloc' (w3.heap.size+1) #[.string g.1.data] 9 (by simp);generalize World.alloc (World.alloc _ _) _=W at L ⊢;have hr:=L.at_ 0 rfl;have H4:=H3.out.below L.below;refine (rqueue_any col W b bd N x s true pk g.1.data _ H4 (good_oks (good_app.1 HI.out.good).1) HI.out.wait6 ⟨HI.out.tag0,by have:=Hub.out; omega⟩ HI.out.now Hpr.out Hsz.out ⟨rd_1 hr (H3.out.s0 _ (by omega)),fun z hz=>by rw [List.mem_singleton.1 hz]; have:=Hsz.out; unfold maxLen; omega⟩).mono ?_;rintro e w4 ⟨y4,rfl,hst4,hc4,hav⟩;have Hav:=Lib.hid hav;have Hst4:=Lib.hid hst4;have HC4:Hid (Chg (fun k=>k=b) w w4):=show Chg _ _ _ from (HC3.out.trans (Chg.of_below L.below)).trans (hc4.mono (fun k hk=>.inl hk));clear hst4 hc4 hav L hr H4;go_wp2_with fail;go_ret;rw [Hs.out,if_neg (Int.not_lt.2 Hn.out),Hg.out];exact ⟨_,rfl,Hst4.out,HC4.out,Hav.out⟩
end Go.Proofs.YtagndjihiklmiaaGreatDoor
namespace Go.Proofs.YtagndjihiklmiaaGreatDoor
open Go.RowKit Go.Sort
theorem rnext_on (S:Nat→Prop) (l:List Rq) (v:Value) (t:Tn) (now:Int) (w:World) (h:ReqsAt S w v l) (hg:goodReqs l=true)
  (q:t.gone=1∨t.gone=2) (q3:0≤fromI l t.write t.wh) :
  Calls Tryz.prog 62 #[v,tnV t,.int .i64 now] w (Ret (nextV l t now) w):=by
 have q1:0<t.gone:=by omega
 have q2:t.gone<3:=by omega
 have qb:((t.gone == 1)=true)∨((t.gone == 1)=false∧(t.gone == 2)=true):=by rcases q with q | q <;> rw [q] <;> simp
 clear q;have H:=Lib.hid h;obtain ⟨A,cap,rfl,h1,h2⟩:=h.form;unfold maxLen at h2;clear h;have ev:nextV l t now=.tuple #[.int .i64 (fromI l t.write t.wh),tnV { t with gone:=t.gone+1,wh:=endOf l (fromI l t.write t.wh) }]:=by unfold nextV; rw [nextM_on q1 q2 q3]
 obtain ⟨j,r,hj,hr,_,_,hjl⟩:=fromI_ok q3;have hok:=good_mem hg hr;obtain ⟨s1,s2,s3,s4,s5⟩:=hok.span;rw [hj,endOf_at hr] at ev;rw [ev];have Hj:=Lib.hid hj;have Hr:=Lib.hid hr;clear ev hj hr q3 hok;have hji:(j:Int)<(l.length:Int):=by omega
 have hs:IntKind.i64.wrap (r.lo+r.many)=r.lo+r.many:=IntWalk.i64_in _ (by omega)
 rcases qb with qb | ⟨qb,qc⟩
 ·skip
  go_enter Tryz.func62,Tryz.ntmps62;go_wp2_with fail;have hT:=Box2.start w t
  generalize ((w.alloc (Obj.cells #[Value.bool t.write,Value.int IntKind.i64 t.gone,Value.int IntKind.i64 t.starved,Value.int IntKind.i64 t.wh] 68)).alloc
   (Obj.cells #[Value.bool false,Value.int IntKind.i64 0,Value.int IntKind.i64 0,Value.int IntKind.i64 0] 68))=W at hT ⊢
  refine (rfrom_any S l _ t.write t.wh _ (H.out.below hT.below)).mono ?_;rintro e w1 ⟨rfl,hb1⟩;have hT1:=hT.step hb1;clear hT hb1;rw [Hj.out];obtain ⟨b,off,rfl,_,hbl,hc⟩:=(H.out.below hT1.below).at_ (by omega);obtain ⟨_,_,_,_,_,_,k1,k2,_,_,_⟩:=hc j r Hr.out;clear hc
  have hbB:b<w.heap.size:=by
   obtain ⟨b',off',e,_,hb',_⟩:=H.out.at_ (by omega)
   cases e; exact hb'
  have c0:=hT1.c 0;have c1:=hT1.c 1;have c2:=hT1.c 2;have c3:=hT1.c 3;have f1:=hT1.fc 1;have f3:=hT1.fc 3;have d0:=hT1.d 0;have d1:=hT1.d 1;have d2:=hT1.d 2;have d3:=hT1.d 3;have e0:=hT1.fd 0;have e1:=hT1.fd 1;have e2:=hT1.fd 2;have e3:=hT1.fd 3;simp [tnCells,zeroTn] at c0 c1 c2 c3 d0 d1 d2 d3;go_wp2_with fail;go_region
  go_wp2_with fail;go_region
  go_wp2;refine bodyPost_ret (v:=.tuple #[_,tnV _]) (by simp [results,Tryz.results62,go_sem,d0,d1,d2,d3,e0,e1,e2,e3,c0,c1,c2,c3,f1,f3]) rfl ⟨rfl,?_⟩;repeat (first | (with_reducible refine Below.drew ?_) | ((with_reducible refine Below.setCell ?_ ?hp _); case hp=>simp))
  exact hT1.below
 ·skip
  go_enter Tryz.func62,Tryz.ntmps62;go_wp2_with fail;have hT:=Box2.start w t
  generalize ((w.alloc (Obj.cells #[Value.bool t.write,Value.int IntKind.i64 t.gone,Value.int IntKind.i64 t.starved,Value.int IntKind.i64 t.wh] 68)).alloc
   (Obj.cells #[Value.bool false,Value.int IntKind.i64 0,Value.int IntKind.i64 0,Value.int IntKind.i64 0] 68))=W at hT ⊢
  refine (rfrom_any S l _ t.write t.wh _ (H.out.below hT.below)).mono ?_;rintro e w1 ⟨rfl,hb1⟩;have hT1:=hT.step hb1;clear hT hb1;rw [Hj.out];obtain ⟨b,off,rfl,_,hbl,hc⟩:=(H.out.below hT1.below).at_ (by omega);obtain ⟨_,_,_,_,_,_,k1,k2,_,_,_⟩:=hc j r Hr.out;clear hc
  have hbB:b<w.heap.size:=by
   obtain ⟨b',off',e,_,hb',_⟩:=H.out.at_ (by omega)
   cases e; exact hb'
  have c0:=hT1.c 0;have c1:=hT1.c 1;have c2:=hT1.c 2;have c3:=hT1.c 3;have f1:=hT1.fc 1;have f3:=hT1.fc 3;have d0:=hT1.d 0;have d1:=hT1.d 1;have d2:=hT1.d 2;have d3:=hT1.d 3;have e0:=hT1.fd 0;have e1:=hT1.fd 1;have e2:=hT1.fd 2;have e3:=hT1.fd 3;simp [tnCells,zeroTn] at c0 c1 c2 c3 d0 d1 d2 d3;go_wp2_with fail;go_region
  go_wp2_with fail;go_region
  go_wp2;refine bodyPost_ret (v:=.tuple #[_,tnV _]) (by simp [results,Tryz.results62,go_sem,d0,d1,d2,d3,e0,e1,e2,e3,c0,c1,c2,c3,f1,f3]) rfl ⟨rfl,?_⟩;repeat (first | (with_reducible refine Below.drew ?_) | ((with_reducible refine Below.setCell ?_ ?hp _); case hp=>simp))
  exact hT1.below
end Go.Proofs.YtagndjihiklmiaaGreatDoor
