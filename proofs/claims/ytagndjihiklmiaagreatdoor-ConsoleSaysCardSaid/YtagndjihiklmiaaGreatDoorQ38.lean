/- The reference's stack: Round, Settle. -/
import Derived.Test.YtagndjihiklmiaaGreatDoorQ37
set_option linter.unusedSimpArgs false
set_option linter.unusedVariables false
set_option maxRecDepth 100000
set_option maxHeartbeats 8000000
namespace Go.Proofs.YtagndjihiklmiaaGreatDoor
open Go.RowKit Go.Sort
theorem rround_any (col:Nat→Nat) (w:World) (b bd N:Nat) (x:Sv) (s:St) (K:Int) (h:StAt Tr col w b bd N x s) (hI:Inv s) (hB:Bd K s) (h0:0≤K) (hK:K≤600000000) (hN:N≤900000000) :
  Calls Tryz.prog 28 #[.pointer (some ⟨b,0,none⟩)] w (Ret5 Tr col w b bd (N+2) s.round (.tuple #[])):=by
 have H:=Lib.hid h;have HI:=Lib.hid hI;have HB:=Lib.hid hB;clear h hI hB;go_enter Tryz.func28,Tryz.ntmps28;go_wp2_with fail;refine (rtick_any col w b bd N x s K H.out HI.out HB.out h0 (by omega)).mono ?_;rintro e w1 ⟨col1,y1,rfl,hst1,hc1,hr1⟩;have HR1:=Lib.hid hr1;have Hst1:=Lib.hid hst1;have HC1:=Lib.hid hc1;have HI1:=Lib.hid HI.out.tick;have HB1:=Lib.hid (HB.out.tick h0);clear hst1 hc1 hr1;go_wp2_with fail;refine (rclean_st col1 w1 b bd N y1 s.tick Hst1.out HI1.out ⟨by have:=HB1.out.use; omega,by have:=HB1.out.tag; omega⟩).mono ?_;rintro e w2 ⟨y2,rfl,hst2,hc2,_⟩;have Hst2:=Lib.hid hst2;have HC2:=Lib.hid (HC1.out.recol (Hst1.out.chg1 hc2) HR1.out.grow);have HI2:=Lib.hid HI1.out.clean;have HB2:=Lib.hid HB1.out.clean;clear hst2 hc2;go_wp2_with fail;go_loopw [] (fun wr=>∃ (k:Nat) (col':Nat→Nat) (y:Sv),Hid (StAt Tr col' wr b bd N y (goN s.tick.clean.1 k))∧Hid (Chg (Fl col) w wr)∧Hid (Rec col col' w wr)∧Hid (∀ j,j<k→(goN s.tick.clean.1 j).dispatch.2=true)) (fun wr=>roomAt bd wr)
 case atStart=>exact ⟨0,col1,y2,Hst2.out,HC2.out,⟨HR1.out.old,HR1.out.grow⟩,fun j hj=>by omega⟩
 case round =>
  obtain ⟨k,col',y,HS,HC,HR,HD⟩:=hrel;have HIk:=Lib.hid (HI2.out.goN k);have HBk:=Lib.hid (HB2.out.goN k);go_wp2_with fail;refine (rdispatch_any col' wr b bd N y _ HS.out HIk.out).mono ?_;rintro e w3 ⟨c3,y3,rfl,hst3,hc3,hr3⟩;have HC3:=Lib.hid (HC.out.recol hc3 HR.out.grow);have HR3:=Lib.hid (HR.out.trans hr3 HC.out.size)
  cases hd:(goN s.tick.clean.1 k).dispatch.2 with
  |true =>
   have Hst3:Hid (StAt Tr c3 w3 b bd N y3 (goN s.tick.clean.1 (k+1))):=hst3
   have HD3:Hid (∀ j,j<k+1→(goN s.tick.clean.1 j).dispatch.2=true):=fun j hj=>by
    rcases Nat.lt_or_ge j k with h | h
    ·exact HD.out j h
    ·obtain rfl:j=k:=by omega
     exact hd
   have Hm:Hid (roomAt bd w3<roomAt bd wr):=show _<_ by
    rw [Hst3.out.room,HS.out.room];have h1:=dispatch_len HIk.out hd;have h2:=(HI2.out.goN (k+1)).dv.two;show 3 - (goN s.tick.clean.1 k).dispatch.1.v.d.l.length<_;have h2':(goN s.tick.clean.1 k).dispatch.1.v.d.l.length≤2:=h2;omega
   clear hd hst3 hc3 hr3;go_wp2_with fail;go_roundw
   case rel=>exact ⟨k+1,c3,y3,Hst3.out,HC3.out,HR3.out,HD3.out⟩
   case measure=>exact Hm.out
  |false =>
   have He:=Lib.hid (goN_end HI2.out HD.out hd);have hst4:=hst3;rw [dispatch_false hd,He.out] at hst4;have Hst4:=Lib.hid hst4;have HI4:=Lib.hid (HI2.out.go);have HB4:Hid (Bd (K+3+1) s.tick.clean.1.go):=He.out▸HBk.out;clear hd hst3 hc3 hr3 hst4;go_wp2_with fail;refine (rend_any c3 w3 b bd N y3 s.tick.clean.1.go 0 false (K+3+1) Hst4.out HI4.out HB4.out (by omega) (by omega) hN).mono ?_;rintro e w4 hr4;have Hr4:=Lib.hid (Ret5.after hr4 HC3.out HR3.out);obtain ⟨c4,y4,rfl,_⟩:=hr4;go_wp2_with fail;go_end0;obtain ⟨c5,y5,_,h5,h6,h7⟩:=Hr4.out;exact ⟨c5,y5,rfl,h5,h6,h7⟩
theorem rsettle_any (col:Nat→Nat) (w:World) (b bd N:Nat) (x:Sv) (s:St) (K:Int) (most:Nat) (h:StAt Tr col w b bd N x s) (hI:Inv s) (hB:Bd K s) (h0:0≤K) (hK:K+15 * most≤600000000) (hN:N+2 * most≤900000000) (hm:most≤1000000) :
  Calls Tryz.prog 29 #[.pointer (some ⟨b,0,none⟩),.int .i64 (most:Int)] w (Ret5 Tr col w b bd (N+2 * most) (St.settle most s).1 (.tuple #[.int .i64 ((St.settle most s).2:Nat),.bool (St.settle most s).1.quiet])):=by
 have H:=Lib.hid h;have HI:=Lib.hid hI;have HB:=Lib.hid hB;clear h hI hB;go_enter Tryz.func29,Tryz.ntmps29;go_wp2_with fail;go_loopw [6,7] (fun i _ wr=>∃ (k:Nat) (col':Nat→Nat) (y:Sv) (t:St),k≤most∧i=.int .i64 k∧Hid (StAt Tr col' wr b bd (N+2 * k) y t)∧Hid (Chg (Fl col) w wr)∧Hid (Rec col col' w wr)∧Hid (Inv t)∧Hid (Bd (K+15 * k) t)∧Hid (St.settle most s=((St.settle (most - k) t).1,(St.settle (most - k) t).2+k))) (fun i _ _=>most - (intOf i).toNat)
 case atStart=>exact ⟨0,col,x,s,by omega,rfl,H.out,Chg.refl,.refl,HI.out,HB.out.mono (by omega),rfl⟩
 case round =>
  obtain ⟨k,col',y,t,hk,rfl,HS,HC,HR,HIt,HBt,HE⟩:=hrel;by_cases hlt:k<most
  ·have hlt2:(k:Int)<(most:Int):=by omega
   have hkk:(k:Int)<1000000:=by omega
   have HLT:=Lib.hid hlt;go_wp2_with fail;refine (rquiet_any col' wr b bd (N+2 * k) y t HS.out).mono ?_;rintro e w1 ⟨rfl,hb1⟩;have HS1:=Lib.hid (HS.out.below hb1);have HC1:=Lib.hid (HC.out.two (Chg.of_below hb1));clear hb1;by_cases hq:t.quiet=true
   ·have HX:Hid (St.settle most s=(t,k)):=show _=_ by rw [HE.out,settle_quiet hq]; simp
    rw [hq];clear hq;go_wp2_with fail;refine (rquiet_any col' w1 b bd (N+2 * k) y t HS1.out).mono ?_;rintro e w2 ⟨rfl,hb2⟩;have HB2:=Lib.hid hb2;clear hb2;go_wp2_with fail;go_ret2;rw [HX.out];exact ⟨col',y,rfl,(HS1.out.below HB2.out).moreN (by have:=HLT.out; omega),HC1.out.two (Chg.of_below HB2.out),HR.out.old,HR.out.grow⟩
   ·have hq':t.quiet=false:=by simpa using hq
    rw [hq']
    have HX:Hid (St.settle most s=((St.settle (most - (k+1)) t.round).1,(St.settle (most - (k+1)) t.round).2+(k+1))):=show _=_ by
     rw [HE.out,show most - k=(most - (k+1))+1 by omega,settle_step hq'];simp only [Prod.mk.injEq,true_and];omega
    clear hq hq';go_wp2_with fail;refine (rround_any col' w1 b bd (N+2 * k) y t (K+15 * k) HS1.out HIt.out HBt.out (by omega) (by have:=HLT.out; omega) (by have:=HLT.out; omega)).mono ?_;rintro e w2 hr2;have Hr2:=Lib.hid (Ret5.after hr2 HC1.out ⟨HR.out.old,HR.out.grow⟩);obtain ⟨c2,y2,rfl,_⟩:=hr2;obtain ⟨c3,y3,_,h3,h4,h5⟩:=Hr2.out;have HS3:=Lib.hid h3;have HC3:=Lib.hid h4;have HR3:=Lib.hid h5;have HI3:=Lib.hid HIt.out.round;have HB3:=Lib.hid (HBt.out.round (by omega) HIt.out);clear h3 h4 h5 Hr2;go_wp2_with fail;go_roundw
    case rel=>exact ⟨k+1,c3,y3,_,by have:=HLT.out; omega,by go_num,HS3.out,HC3.out,HR3.out,HI3.out,HB3.out.mono (by omega),HX.out⟩
    case measure=>simp [intOf]; have:=HLT.out; omega
  ·obtain rfl:k=most:=by omega
   have hlt2:¬ (k:Int)<(k:Int):=by omega
   have HX:Hid (St.settle k s=(t,k)):=show _=_ by rw [HE.out,Nat.sub_self]; simp [St.settle]
   go_wp2_with fail;refine (rquiet_any col' wr b bd (N+2 * k) y t HS.out).mono ?_;rintro e w2 ⟨rfl,hb2⟩;have HB2:=Lib.hid hb2;clear hb2;go_wp2_with fail;go_ret2;rw [HX.out];exact ⟨col',y,rfl,HS.out.below HB2.out,HC.out.two (Chg.of_below HB2.out),HR.out.old,HR.out.grow⟩
end Go.Proofs.YtagndjihiklmiaaGreatDoor
namespace Go.Proofs.YtagndjihiklmiaaGreatDoor
open Go.RowKit Go.Sort
def leftK (kind:Int) (l:List Bf):List Int:=if kind=3 then St.dirtyAt l else []
theorem leftK_len (kind:Int) (l:List Bf):(leftK kind l).length≤l.length:=by
 unfold leftK
 split
 ·exact dirtyAt_len l
 ·exact Nat.zero_le _
theorem rask_any (col:Nat→Nat) (w:World) (b bd N:Nat) (x:Sv) (s:St) (client kind p:Int) (d:ByteArray) (K:Int) (h:StAt Tr col w b bd N x s) (hI:Inv s) (hB:Bd K s) (h0:0≤K) (hK:K≤800000000) :
  Calls Tryz.prog 21 #[.pointer (some ⟨b,0,none⟩),.int .i64 client,.int .i64 kind,.int .i64 p,.string d] w (Ret5 Tr col w b bd N (s.ask client kind p d).1 (.int .i64 ((s.ask client kind p d).2:Nat))):=by
 have H:=Lib.hid h;have HI:=Lib.hid hI;have HB:=Lib.hid hB
 obtain ⟨b1,hb1⟩:∃ b:Bool,b=true↔(client<0∨3≤client∨kind<1∨3<kind):=⟨decide _,decide_eq_true_iff⟩
 obtain ⟨b3,hb3⟩:∃ b:Bool,b=true↔(p<0∨32≤p∨4<d.size∨(kind=3∧p≠0)∨(kind≠2∧d.size≠0)):=⟨decide _,decide_eq_true_iff⟩
 have Hb1:=Lib.hid hb1;have Hb3:=Lib.hid hb3;clear h hI hB hb1 hb3;go_enter Tryz.func21,Tryz.ntmps21;go_upto_region 1 with fail
 go_cut [26] from 13 to 111 (fun v wx=>v=.bool b1∧wx=w)
 case first =>
  have key:client<0∨(¬ client<0∧2<client)∨(¬ client<0∧¬ 2<client∧kind<1)∨(¬ client<0∧¬ 2<client∧¬ kind<1∧3<kind)∨(¬ client<0∧¬ 2<client∧¬ kind<1∧¬ 3<kind):=by omega
  rcases key with h1 | ⟨h1,h2⟩ | ⟨h1,h2,h3⟩ | ⟨h1,h2,h3,h4⟩ | ⟨h1,h2,h3,h4⟩
  all_goals
   go_wp2_with fail;go_meet
   case rel=>exact ⟨congrArg Value.bool (by rw [Bool.eq_iff_iff,Hb1.out]; first | (simp; done) | (simp; omega) | omega),rfl⟩
 case rest =>
  obtain ⟨hv,hw⟩:=hcut;subst hv;obtain rfl:w=wc:=hw.symm;clear hw
  cases b1 with
  |true =>
   have He:=Lib.hid (ask_shape (s:=s) (p:=p) (d:=d) (Hb1.out.1 rfl));go_wp2_with fail;go_ret;rw [He.out];exact ⟨col,x,rfl,H.out,Chg.refl,Rec.refl⟩
  |false =>
   have hs:¬ (client<0∨3≤client∨kind<1∨3<kind):=fun h=>by have:=Hb1.out.2 h; cases this
   have Hs:=Lib.hid hs;go_upto_region 3 with fail
   go_cut [53] from 13 to 111 (fun v wx=>v=.bool b3∧wx=w)
   case first =>
    cases b3 with
    |true =>
     have hB:=Hb3.out.1 rfl;have key:p<0∨(¬ p<0∧31<p)∨(¬ p<0∧¬ 31<p∧(4:Int)<(d.size:Int))∨(¬ p<0∧¬ 31<p∧¬ (4:Int)<(d.size:Int)∧kind=1∧d.size≠0)∨(¬ p<0∧¬ 31<p∧¬ (4:Int)<(d.size:Int)∧kind=3∧p≠0)∨(¬ p<0∧¬ 31<p∧¬ (4:Int)<(d.size:Int)∧kind=3∧p=0∧d.size≠0):=by omega
     clear hs Hs hB
     rcases key with h5 | ⟨h5,h6⟩ | ⟨h5,h6,h7⟩ | ⟨h5,h6,h7,rfl,h8⟩ | ⟨h5,h6,h7,rfl,h9⟩ | ⟨h5,h6,h7,rfl,rfl,h8⟩
     all_goals
      try have hse:=str_yes h8
      try clear h8
      go_wp2_with fail;go_meet
      case rel=>exact ⟨rfl,rfl⟩
    |false =>
     have hB:¬ (p<0∨32≤p∨4<d.size∨(kind=3∧p≠0)∨(kind≠2∧d.size≠0)):=fun h=>nomatch Hb3.out.2 h
     have key:(¬ p<0∧¬ 31<p∧¬ (4:Int)<(d.size:Int)∧kind=1∧d.size=0)∨(¬ p<0∧¬ 31<p∧¬ (4:Int)<(d.size:Int)∧kind=2)∨(¬ p<0∧¬ 31<p∧¬ (4:Int)<(d.size:Int)∧kind=3∧p=0∧d.size=0):=by omega
     clear hs Hs hB
     rcases key with ⟨h5,h6,h7,rfl,h8⟩ | ⟨h5,h6,h7,rfl⟩ | ⟨h5,h6,h7,rfl,rfl,h8⟩
     all_goals
      try have hse:=str_no h8
      try clear h8
      go_wp2_with fail;go_meet
      case rel=>exact ⟨rfl,rfl⟩
   case rest =>
    obtain ⟨hv,hw⟩:=hcut;subst hv;obtain rfl:w=wc:=hw.symm;clear hw
    cases b3 with
    |true =>
     have He:=Lib.hid (ask_bound Hs.out (s:=s) (Hb3.out.1 rfl));go_wp2_with fail;go_ret;rw [He.out];exact ⟨col,x,rfl,H.out,Chg.refl,Rec.refl⟩
    |false =>
     have hb:¬ (p<0∨32≤p∨4<d.size∨(kind=3∧p≠0)∨(kind≠2∧d.size≠0)):=fun h=>by have:=Hb3.out.2 h; cases this
     have Hb:=Lib.hid hb
     obtain ⟨c,rfl⟩:∃ c:Nat,client=c:=⟨client.toNat,by omega⟩
     have hc:c<3:=by omega
     have hk3:(c:Int)<3:=by omega
     have hk0:¬ (c:Int)<0:=by omega
     obtain ⟨p0,ep,hn,hq⟩:=H.out.ptr c hc;have cA:w.cell? ⟨b,11+c,none⟩=some (.pointer p0):=(H.out.cellA hc).trans (congrArg some ep)
     cases ho:s.askAt c with
     |some a =>
      obtain ⟨ba,rfl⟩:=hq a ho;have He:=Lib.hid (ask_busy Hs.out Hb.out (s:=s) (by rw [Int.toNat_natCast,ho]; rfl));clear hs hb hn hq ep ho;go_wp2_with fail;go_ret;rw [He.out];exact ⟨col,x,rfl,H.out,Chg.refl,Rec.refl⟩
     |none =>
      obtain rfl:=hn ho;have he:=ask_ok Hs.out Hb.out (s:=s) (by rw [Int.toNat_natCast,ho]);rw [Int.toNat_natCast] at he;have He:Hid (s.ask (c:Int) kind p d=(({ s with asks:=s.asks.set c (some ⟨kind,p,d,leftK kind s.bufs⟩) }:St).serve,0)):=he
      have HIa:Hid (Inv { s with asks:=s.asks.set c (some ⟨kind,p,d,leftK kind s.bufs⟩) }):=HI.out.asked (by omega) (by omega) (by omega) (by
       unfold leftK
       split
       ·exact HI.out.dirtyAt_ok
       ·exact ⟨Nat.zero_le _,fun x hx=>by cases hx⟩)
      have HBa:Hid (Bd K { s with asks:=s.asks.set c (some ⟨kind,p,d,leftK kind s.bufs⟩) }):=show Bd _ _ from ⟨HB.out.use,HB.out.tag,HB.out.waits⟩;have Hln:Hid (s.bufs.length≤8):=HI.out.len8;obtain ⟨Ab,cb,hbv,_,_⟩:=H.out.bufs.form;have Hbv:=Lib.hid hbv;have Ep:=Lib.hid ep;obtain ⟨j0,hj0,hy0,hy1,hy2⟩:=info_parts intInfo;clear hs hb hn hq ep ho he hbv;go_wp2_with fail
      obtain ⟨B,hBz⟩:∃ B,w.heap.size=B:=⟨_,rfl⟩
      have hbA:=(Below.refl w.heap.size w).alloc (Nat.le_refl _) (.cells #[.int .i64 kind,.int .i64 p,.string d,.slice none 0 0] Tr.A);have HX0:Hid ((w.alloc (.cells #[.int .i64 kind,.int .i64 p,.string d,.slice none 0 0] Tr.A)).heap[B]?=some (.cells #[.int .i64 kind,.int .i64 p,.string d,.slice none 0 0] Tr.A (0,0))):=show _=_ from hBz▸heap_alloc_new w _;have HbA:=Lib.hid hbA;rw [hBz];change Code.wp _ _ _ _ (w.alloc (.cells #[.int .i64 kind,.int .i64 p,.string d,.slice none 0 0] Tr.A));clear hbA cA;generalize World.alloc _ _=w1 at HbA HX0 ⊢;go_loopw [12] (fun i wr=>∃ (m:Nat) (lv:Value),m≤s.bufs.length∧i=.int .i64 m∧Hid (wr.heap[B]?=some (.cells #[.int .i64 kind,.int .i64 p,.string d,lv] Tr.A (0,0)))∧Hid (wr.ownsRow w.heap.size 3 1 lv (leftK kind (s.bufs.take m)).length ((leftK kind (s.bufs.take m)).map (.int .i64)))∧Hid (Below w.heap.size w wr)) (fun i _=>s.bufs.length - (intOf i).toNat)
      case atStart=>exact ⟨0,_,by omega,rfl,HX0.out,by rw [show leftK kind (s.bufs.take 0)=[] by unfold leftK; split <;> rfl]; exact World.ownsRow_nil _ _ _ _,HbA.out⟩
      case round =>
       obtain ⟨m,lv,hm,rfl,HX,HO,HBl⟩:=hrel;have c2:wr.cell? ⟨b,2,none⟩=some (.slice Ab s.bufs.length cb):=cell_b HBl.out ((H.out.cell 2).trans (congrArg some Hbv.out));by_cases hlt:m<s.bufs.length∧kind=3
       ·obtain ⟨hlt,rfl⟩:=hlt
        have hlt2:(m:Int)<(s.bufs.length:Int):=by omega
        have hm8:(m:Int)<8:=by have:=Hln.out; omega
        have hm0:¬ (m:Int)<0:=by omega
        have HLT:=Lib.hid hlt;obtain ⟨g,off,rfl,_,hgl,hcl⟩:=(Hbv.out▸H.out.bufs.below HBl.out:BufsAt _ wr _ _).at_ (by omega);have hx:s.bufs[m]?=some s.bufs[m]:=List.getElem?_eq_getElem hlt;obtain ⟨_,k0,k1,k2,k3⟩:=hcl m _ hx;have Hx:=Lib.hid hx;have Hgl:=Lib.hid hgl;clear hx hcl hgl;generalize s.bufs[m]=y at *;obtain ⟨Av,cv,rfl⟩:=own_sl (own_lo HO.out (Nat.zero_le _));have Hs3:Hid (leftK 3 (s.bufs.take (m+1))=leftK 3 (s.bufs.take m) ++ (if y.dirty then [y.pos] else [])):=show _=_ from dirtyAt_succ Hx.out;have Hl8:Hid ((leftK 3 (s.bufs.take m)).length≤8):=show _≤_ from Nat.le_trans (leftK_len _ _) (Nat.le_trans (List.length_take_le' _ _) Hln.out)
        cases hd:y.dirty with
        |false =>
         have He3:Hid (leftK 3 (s.bufs.take (m+1))=leftK 3 (s.bufs.take m)):=show _=_ by rw [Hs3.out,hd]; simp
         rw [hd] at k2;clear hd;go_wp2_with fail;go_roundw
         case rel=>exact ⟨m+1,_,by have:=HLT.out; omega,by go_num,HX.out,He3.out▸HO.out,HBl.out⟩
         case measure=>simp [intOf]; have:=HLT.out; omega
        |true =>
         have He3:Hid (leftK 3 (s.bufs.take (m+1))=leftK 3 (s.bufs.take m) ++ [y.pos]):=show _=_ by rw [Hs3.out,hd]; rfl
         rw [hd] at k2;clear hd;go_wp2_with fail;have hBl:B<wr.heap.size:=(Array.getElem?_eq_some_iff.1 HX.out).1;have hbl:=(H.out.below HBl.out).bl;have hgl:=Hgl.out;have q3:wr.cell? ⟨B,3,none⟩=some (.slice Av (leftK 3 (s.bufs.take m)).length cv):=cell_of_row _ _ 3 _ _ _ HX.out;have f3:wr.frozen? ⟨B,3,none⟩=false:=frozen_of_row _ _ 3 _ _ HX.out;have q3a:∀ o,(wr.alloc o).cell? ⟨B,3,none⟩=some (.slice Av (leftK 3 (s.bufs.take m)).length cv):=fun o=>(World.cell?_alloc_lt _ _ _ hBl).trans q3
         have k0a:∀ o,(wr.alloc o).cell? ⟨g,off+m * 4,none⟩=some (.int .i64 y.pos):=fun o=>(World.cell?_alloc_lt _ _ _ hgl).trans k0
         have c2a:∀ o,(wr.alloc o).cell? ⟨b,2,none⟩=some (.slice (some ⟨g,off,none⟩) s.bufs.length cb):=fun o=>(World.cell?_alloc_lt _ _ _ hbl).trans c2
         have HnB:Hid (∀ q,(Value.slice Av (leftK 3 (s.bufs.take m)).length cv).ownBlock=some q→q≠B):=own_ne (own_lo HO.out (Nat.zero_le _)) HX.out (by decide);have Hws:Hid (w.heap.size≤wr.heap.size):=HBl.out.size;clear k1 k2 k3
         go_region_law (first
          |(refine step_append_rd (S:=fun _=>True) _ rfl (.tmp 91) (.tmp 100) _ rfl w.heap.size 3 j0 _ 1 8 Tryz.underlying103 hj0 hy0 hy1 hy2 rfl (by omega) (.slice Av (leftK 3 (s.bufs.take m)).length cv) (leftK 3 (s.bufs.take m)).length ((leftK 3 (s.bufs.take m)).map (.int .i64)) (by simp [Act.eval,Act.put]) (HO.out.alloc _) (.slice (some ⟨wr.heap.size,0,none⟩) 1 1) 1 [.int .i64 y.pos] (by simp [Act.eval,Act.put]) (rd_1 (heap_alloc_new _ _) trivial) (one_i1 _) (by simp only [maxLen]; have:=Hl8.out; omega) (by have:=Hl8.out; omega) (by have:=Hws.out; simp; omega) ?_
            intro v7 w7 hown7 hg7 hat7;clear hat7;obtain ⟨A7,c7,rfl⟩:=own_sl (own_lo hown7 (Nat.zero_le _));have hne7:some B≠(Value.slice Av (leftK 3 (s.bufs.take m)).length cv).ownBlock:=fun e2=>HnB.out B e2.symm rfl
            have p1:w7.cell? ⟨B,3,none⟩=some (.slice Av (leftK 3 (s.bufs.take m)).length cv):=hg7.cell (q3a _) hne7
            have p2:w7.frozen? ⟨B,3,none⟩=false:=(World.frozen?_of_block (hg7.block B (by simp; omega) hne7)).trans ((World.frozen?_alloc_past _ _ _ hBl).trans f3))
          |fail)
         all_goals
          have hbA:=((Below.refl wr.heap.size wr).alloc (Nat.le_refl _) (.cells #[.int .i64 y.pos] 3)).drew;have hsA:(World.drew (wr.alloc (.cells #[.int .i64 y.pos] 3))).heap.size=wr.heap.size+1:=by simp
          have hc7:Chg (fun q=>w.heap.size≤q) w w7:=((Chg.of_below HBl.out).step hbA).grown hg7 (fun k hk=>.inl ((HO.out.lt k hk).1));have hr7:w7.heap[B]?=some _:=((hg7.block B (by rw [hsA]; omega) hne7).trans (hbA.block _ hBl)).trans HX.out;have hr8:=heap_setCell_same _ _ 3 _ _ (.slice A7 ((leftK 3 (s.bufs.take m)).length+1) c7) hr7;have hc8:=hc7.setCell (p:=⟨B,3,none⟩) (.inl (by show w.heap.size≤B; omega)) (.slice A7 ((leftK 3 (s.bufs.take m)).length+1) c7)
          have ho8:(w7.setCell ⟨B,3,none⟩ (.slice A7 ((leftK 3 (s.bufs.take m)).length+1) c7)).ownsRow w.heap.size 3 1 (.slice A7 ((leftK 3 (s.bufs.take m)).length+1) c7) ((leftK 3 (s.bufs.take m)).length+1) ((leftK 3 (s.bufs.take m)).map (.int .i64) ++ [.int .i64 y.pos]) :=
           own_keepD hown7 (fun q hv=>Below.heap_setCell _ _ _ _ (own_ne (own_lo hown7 (Nat.zero_le _)) hr7 (by decide) q hv))
          have Hr8:=Lib.hid hr8;have Hb8:=Lib.hid (hc8.below (B:=w.heap.size) (fun k hk=>hk) (Nat.le_refl _));have Ho8:=Lib.hid ho8;clear hr8 hc8 ho8 hc7 hr7 hbA hsA hg7 hown7 hne7 p1 p2 q3 q3a k0 k0a c2 c2a f3;try go_wp2_with fail
          go_roundw
          case rel =>
           refine ⟨m+1,_,by have:=HLT.out; omega,by go_num,Hr8.out,?_,Hb8.out⟩;rw [He3.out,List.length_append,List.map_append];exact Ho8.out
          case measure=>simp [intOf]; have:=HLT.out; omega
       ·have Hd:Hid (leftK kind (s.bufs.take m)=leftK kind s.bufs):=show _=_ by
         by_cases hk:kind=3
         ·rw [show m=s.bufs.length from by have:=fun h=>hlt ⟨h,hk⟩; omega,List.take_length]
         ·unfold leftK; rw [if_neg hk,if_neg hk]
        have key:¬ (m:Int)<(s.bufs.length:Int)∨((m:Int)<(s.bufs.length:Int)∧(kind == 3)=false):=by
         by_cases hm:m<s.bufs.length
         ·exact .inr ⟨by omega,by simp only [beq_eq_false_iff_ne]; exact fun h=>hlt ⟨hm,h⟩⟩
         ·exact .inl (by omega)
        clear hlt
        rcases key with h9 | ⟨h9,h10⟩
        all_goals
         have cA:wr.cell? ⟨b,11+c,none⟩=some (.pointer none):=cell_b HBl.out ((H.out.cellA hc).trans (congrArg some Ep.out));have fA:wr.frozen? ⟨b,11+c,none⟩=false:=(H.out.below HBl.out).frozen _;have hbl:=H.out.bl;have hrow:=heap_setCell_same _ _ (11+c) _ _ (.pointer (some ⟨B,0,none⟩)) ((HBl.out.block _ hbl).trans H.out.row);rw [row_put x s bd c _ hc (s.asks.set c (some ⟨kind,p,d,leftK kind s.bufs⟩))] at hrow;have hch1:Chg (fun k=>k=b) w (wr.setCell ⟨b,11+c,none⟩ (.pointer (some ⟨B,0,none⟩))):=Chg.setCell (F:=fun k=>k=b) (p:=⟨b,11+c,none⟩) (Chg.of_below HBl.out) (.inl rfl) _;have hXB:=(heap_setCell_other wr ⟨b,11+c,none⟩ B (.pointer (some ⟨B,0,none⟩)) (by simp; omega)).trans HX.out;have hOB:(wr.setCell ⟨b,11+c,none⟩ (.pointer (some ⟨B,0,none⟩))).ownsRow w.heap.size 3 1 lv (leftK kind s.bufs).length ((leftK kind s.bufs).map (.int .i64)):=Hd.out▸own_keepD HO.out (fun q hq=>heap_setCell_other _ _ _ _ (by have:=(HO.out.lt q hq).1; simp; omega));obtain ⟨col',hst,hrec⟩:=H.out.asked hc (a:=⟨kind,p,d,leftK kind s.bufs⟩) hch1 (by omega) hXB hOB hrow;have Hst:=Lib.hid hst;have Hrec:=Lib.hid hrec;have Hch:=Lib.hid (H.out.chg1 hch1);clear hst hrec hOB hXB hch1 hrow;go_wp2_with fail;clear cA fA c2;generalize World.setCell _ _ _=w6 at Hst Hch ⊢;refine (rserve_any col' w6 b bd N _ _ K Hst.out HIa.out HBa.out h0 hK).mono ?_;rintro e w7 ⟨c7,y7,rfl,hst7,hc7,hr7⟩;have Hr:=Lib.hid (Ret5.after (v:=.int .i64 0) ⟨c7,y7,rfl,hst7,hc7,hr7⟩ Hch.out ⟨Hrec.out.old,Hrec.out.grow⟩);clear hst7 hc7 hr7;go_wp2_with fail;go_ret;rw [He.out];exact Hr.out
end Go.Proofs.YtagndjihiklmiaaGreatDoor
namespace Go.Proofs.YtagndjihiklmiaaGreatDoor
open Go.RowKit Go.Sort
theorem rstnew_any (S F:Nat→Prop) (w:World) (bd:Nat) (d:Dv) (h:DevAt TDr TPr S F w bd d) (hF:∀ k,F k→k<w.heap.size) (hSlt:∀ k,S k→k<w.heap.size) (hSF:∀ k,S k→¬ F k) :
  Calls Tryz.prog 15 #[.pointer (some ⟨bd,0,none⟩)] w (RetNew Tr F w bd d):=by
 classical
 have H:=Lib.hid h;have HF:=Lib.hid hF;have Hlt:=Lib.hid hSlt;have HSF:=Lib.hid hSF;clear h hF hSlt hSF;have hmm:=@run_makeMap Tryz.prog;go_enter Tryz.func15,Tryz.ntmps15;go_wp2_with fail;go_ret;have hq1:Below w.heap.size w (w.alloc (.map #[] 0)):=(Below.refl _ _).alloc (Nat.le_refl _) _;have hz1:(w.alloc (.map #[] 0)).heap.size=w.heap.size+1:=by simp
 have hm:=MapAt.made w;generalize w.alloc (.map #[] 0)=W1 at hq1 hz1 hm ⊢;have hb2:Below W1.heap.size W1 (W1.alloc (.cells #[.pointer (some ⟨bd,0,none⟩),.map (some w.heap.size)] Tr.V)):=(Below.refl _ _).alloc (Nat.le_refl _) _;have hs2:(W1.alloc (.cells #[.pointer (some ⟨bd,0,none⟩),.map (some w.heap.size)] Tr.V)).heap.size=W1.heap.size+1:=by simp
 have hr2:(W1.alloc (.cells #[.pointer (some ⟨bd,0,none⟩),.map (some w.heap.size)] Tr.V)).heap[W1.heap.size]?=some (.cells #[.pointer (some ⟨bd,0,none⟩),.map (some w.heap.size)] Tr.V (0,0)):=heap_alloc_new _ _;have hW:W1.alloc (.cells #[.pointer (some ⟨bd,0,none⟩),.map (some w.heap.size)] 102)=W1.alloc (.cells #[.pointer (some ⟨bd,0,none⟩),.map (some w.heap.size)] Tr.V):=rfl;rw [hW];generalize W1.alloc (.cells #[.pointer (some ⟨bd,0,none⟩),.map (some w.heap.size)] Tr.V)=w1 at hb2 hs2 hr2 ⊢;rw [hz1] at hr2;have hbb:=hq1.trans (hb2.mono (by omega))
 have hp:DrvAt Tr.D Tr.P Tr.V S F w1 (w.heap.size+1) bd w.heap.size 0 ⟨d,fun _=>0⟩:=⟨hr2,⟨_,hm.keep (hb2.block _ (by omega)),fun k hk=>rfl⟩,H.out.below hbb,fun hf=>by have:=HF.out _ hf; omega,fun hf=>by have:=HF.out _ hf; omega,fun k hk=>by have:=Hlt.out _ hk; constructor <;> omega⟩
 have Hs1:Hid (w1.heap.size=w.heap.size+2):=(by omega:_=_)
 have HB1:=Lib.hid hbb
 obtain ⟨bv,hbv⟩:∃ n,w.heap.size+1=n:=⟨_,rfl⟩
 have Hbv:=Lib.hid hbv;have hbw:w1.heap.size=bv+1:=by omega
 rw [hbv] at hp;try rw [hbv]
 have Hp:=Lib.hid hp
 obtain ⟨x,hx⟩:∃ x:Sv,x=⟨bv,w.heap.size,0,.slice none 0 0,.slice none 0 0,.pointer none,.pointer none,.pointer none,noB,noB,noB,0,0,0⟩:=⟨_,rfl⟩
 clear hp hbv hbb hr2 hs2 hb2 hm hq1
 obtain ⟨o,ho⟩:∃ o:Obj,o=.cells (x.row (St.new d) bd) Tr.S:=⟨_,rfl⟩
 have hoe:o=.cells (x.row (St.new d) bd) Tr.S:=ho;have hA:Below w1.heap.size w1 (w1.alloc o):=(Below.refl _ _).alloc (Nat.le_refl _) _;have hnew:(w1.alloc o).heap[w1.heap.size]?=some o:=heap_alloc_new _ _;have hsz:(w1.alloc o).heap.size=w1.heap.size+1:=by simp
 have hs1:=Hs1.out;have hbv:=Hbv.out;have hwo:w1.alloc (.cells #[.pointer (some ⟨bd,0,none⟩),.pointer (some ⟨bv,0,none⟩),.slice none 0 0,.slice none 0 0,.bool false,.int .i64 0,.int .i64 0,.int .i64 0,.int .i64 0,.int .i64 0,.int .i64 0,.pointer none,.pointer none,.pointer none,.string ⟨#[]⟩,.string ⟨#[]⟩,.string ⟨#[]⟩,.int .i64 0,.int .i64 0,.int .i64 0,.bool false] 73)=w1.alloc o:=by rw [hoe,hx]; rfl
 rw [hwo];generalize w1.alloc o=w2 at hA hnew hsz;rw [hoe] at hnew
 obtain ⟨col,hcol⟩:∃ f:Nat→Nat,∀ k,f k=if k=w1.heap.size then 1 else if k=bv then 2 else if k=w.heap.size then 3 else if F k then 4 else 0:=⟨_,fun _=>rfl⟩
 have c1:col w1.heap.size=1:=by rw [hcol,if_pos rfl]
 have c2:col bv=2:=by rw [hcol,if_neg (by omega),if_pos rfl]
 have c3:col w.heap.size=3:=by rw [hcol,if_neg (by omega),if_neg (by omega),if_pos rfl]
 have c4:∀ k,F k→col k=4:=fun k hk=>by have:=HF.out k hk; rw [hcol,if_neg (by omega),if_neg (by omega),if_neg (by omega),if_pos hk]
 have c0:∀ k,S k→col k=0:=fun k hk=>by have:=Hlt.out k hk; rw [hcol,if_neg (by omega),if_neg (by omega),if_neg (by omega),if_neg (HSF.out k hk)]
 have hdrv:=Hp.out.below hA;have e1:x.bv=bv:=by rw [hx]
 have e2:x.bt=w.heap.size:=by rw [hx]
 have e3:x.n=0:=by rw [hx]
 have e4:x.bufs=.slice none 0 0:=by rw [hx]
 have e5:x.wait=.slice none 0 0:=by rw [hx]
 refine ⟨w1.heap.size,col,x,by rw [hbw]; rfl,⟨hnew,?_,by rw [e3]; exact Nat.le_refl _,?_,?_,rfl,fun c hc=>?_,by rw [hx]; rfl,by rw [hx]; rfl,c1,by rw [e1]; exact c2,by rw [e2]; exact c3,fun k hk=>?_⟩,HB1.out.trans (hA.mono HB1.out.size),fun k hk=>?_,HB1.out.size⟩
 ·rw [e1,e2,e3]
  refine ⟨hdrv.row,hdrv.map,(hdrv.dev.mono c4).more (fun k hk=>⟨by have:=Hlt.out k hk; omega,c0 k hk⟩),?_,?_,?_⟩
  ·intro h1; have h2:col bv=4:=h1; rw [c2] at h2; cases h2
  ·intro h1; have h2:col w.heap.size=4:=h1; rw [c3] at h2; cases h2
  ·intro k hk
   constructor
   ·rintro rfl; have h2:=hk.2; rw [c2] at h2; cases h2
   ·rintro rfl; have h2:=hk.2; rw [c3] at h2; cases h2
 ·rw [e4]; exact BufsAt.nil
 ·rw [e5]; exact ⟨[],rfl,Rd.nil,by simp⟩
 ·match c,hc with
  |0,_=>show x.a0=_; rw [hx]
  |1,_=>show x.a1=_; rw [hx]
  |2,_=>show x.a2=_; rw [hx]
 ·rw [hcol] at hk
  split at hk
  ·omega
  ·split at hk
   ·omega
   ·split at hk
    ·omega
    ·split at hk
     ·rename_i hf; have:=HF.out k hf; omega
     ·exact absurd rfl hk
 ·have h1:col k≠0:=hk.1
  rw [hcol] at h1
  split at h1
  ·right; omega
  ·split at h1
   ·right; omega
   ·split at h1
    ·right; omega
    ·split at h1
     ·rename_i hf; exact .inl hf
     ·exact absurd rfl h1
end Go.Proofs.YtagndjihiklmiaaGreatDoor
namespace Go.Proofs.YtagndjihiklmiaaGreatDoor
open Go.RowKit
theorem bit_and {m:Nat} (hm:m<18446744073709551616):bits BinOp.and IntKind.u64 (m:Int) 1=((m % 2:Nat):Int):=by
 have h:(BitVec.ofInt 64 (m:Int) &&& BitVec.ofInt 64 1).toNat=m % 2:=by
  rw [BitVec.toNat_and]
  have h1:(BitVec.ofInt 64 (m:Int)).toNat=m:=by
   rw [BitVec.toNat_ofInt]; omega
  have h2:(BitVec.ofInt 64 1).toNat=1:=by decide
  rw [h1,h2,Nat.and_one_is_mod]
 show IntKind.u64.wrap ((BitVec.ofInt 64 (m:Int) &&& BitVec.ofInt 64 1).toNat:Int)=_;rw [h];rcases Nat.mod_two_eq_zero_or_one m with h | h <;> rw [h] <;> rfl
theorem keep_bit {keep k:Nat} (hk:keep<18446744073709551616):(bits BinOp.and IntKind.u64 ((keep:Int) / 2 ^ (k % 64)) 1 == 1)=Dv.bit keep k:=by
 have e:((keep:Int) / 2 ^ (k % 64))=((keep / 2 ^ (k % 64):Nat):Int):=by simp
 rw [e,bit_and (Nat.lt_of_le_of_lt (Nat.div_le_self _ _) hk)];unfold Dv.bit;rcases Nat.mod_two_eq_zero_or_one (keep / 2 ^ (k % 64)) with h | h <;> rw [h] <;> rfl
theorem putCells_at:∀ (l:List (Nat × ByteArray)) (k p:Nat) (s:ByteArray),l[k]?=some (p,s)→(putCells l)[k * 2]?=some (.int .i64 (p:Int))∧(putCells l)[k * 2+1]?=some (.string s)
 | [],k,p,s,h=>by simp at h
 |a :: l,0,p,s,h=>by simp at h; subst h; exact ⟨rfl,rfl⟩
 |a :: l,k+1,p,s,h=>by
  have:=putCells_at l k p s (by simpa using h);have e:putCells (a :: l)=[.int .i64 (a.1:Int),.string a.2] ++ putCells l:=rfl;rw [e,List.getElem?_append_right (by simp; omega),List.getElem?_append_right (by simp; omega)];simp only [List.length_cons,List.length_nil];rw [show (k+1) * 2 - (0+1+1)=k * 2 by omega,show (k+1) * 2+1 - (0+1+1)=k * 2+1 by omega];exact this
def RetCrash (TD TP:TypeId) (S F:Nat→Prop) (w:World) (b:Nat) (d':Dv):Ending→World→Prop:=fun e w'=>e=.returned (.tuple #[])∧DevAt TD TP S F w' b d'∧Chg F w w'
theorem devcrash_any (S F:Nat→Prop) (w:World) (b:Nat) (d:Dv) (keep:Nat) (hkeep:keep<18446744073709551616) (h:DevAt TDp TPp S F w b d) (hp:∀ q ∈ d.waits,q.1<32) (hwl:d.waits.length≤1000000000000) (hF:∀ k,F k→k<w.heap.size) (hSF:∀ k,S k→¬ F k) :
  Calls Tryz.prog 56 #[.pointer (some ⟨b,0,none⟩),.int .u64 (keep:Int)] w (RetCrash TDp TPp S F w b (d.crash keep)):=by
 obtain ⟨wv,lv,cs,hrow,hw,hl,hcs,hok⟩:=h.two;obtain ⟨A,cap,rfl,hA1,hA2⟩:=hw.form;have c64:w.cell? ⟨b,64,none⟩=some (.slice A d.waits.length cap):=by rw [cell_of_row _ _ _ _ _ _ hrow]; simpa using devCells_at_w d _ lv h.kept h.now
 have hbl:=(Array.getElem?_eq_some_iff.1 hrow).1;have H:=Lib.hid h;have Hw:=Lib.hid hw;have Hrow:=Lib.hid hrow;have Hp:=Lib.hid hp;have HF:=Lib.hid hF;have HS:=Lib.hid hSF;clear h hw hrow hl hcs hok hp hF hSF;go_enter Tryz.func56,Tryz.ntmps56;go_wp2_with fail;go_loopw [11] (fun j wr=>∃ k:Nat,k≤d.waits.length∧j=.int .i64 k∧Hid (Chg (fun q=>q=b) w wr)∧Hid (DevAt TDp TPp S F wr b { d with kept:=Dv.keepFrom keep d.kept (d.waits.take k) 0 })) (fun j _=>d.waits.length - (intOf j).toNat)
 case atStart=>exact ⟨0,by omega,rfl,Chg.refl,H.out⟩
 case round =>
  obtain ⟨k,hk,rfl,hcw,hdw⟩:=hrel;by_cases hlt:k<d.waits.length
  ·have hx:d.waits[k]?=some d.waits[k]:=List.getElem?_eq_getElem hlt
   generalize d.waits[k]=x at hx;obtain ⟨p,s⟩:=x;have hp32:=Hp.out _ (List.mem_of_getElem? hx);simp only at hp32;obtain ⟨g,off,rfl,hFg,hgl,hcell⟩:=Hw.out.rd.at_ (by omega) (by omega)
   have hgb:g≠b:=by
    rcases Hw.out.1.2 with ⟨hv,_⟩ | ⟨_,_,_,hv,_⟩
    ·cases hv
    ·cases hv
     exact own_ne Hw.out.1 Hrow.out (by decide) g rfl
   have hpc:=putCells_at _ _ _ _ hx;have x0:wr.cell? ⟨g,off+k * 2,none⟩=some (.int .i64 (p:Int)):=(World.cell?_of_block (w:=w) (hcw.out.block g hgl hgb)).trans (hcell _ _ hpc.1);have x1:wr.cell? ⟨g,off+k * 2+1,none⟩=some (.string s):=(World.cell?_of_block (w:=w) (hcw.out.block g hgl hgb)).trans (hcell _ _ hpc.2);have Hx:=Lib.hid hx;have hk2:(k:Int)<(d.waits.length:Int):=by omega
   clear hx hcell hpc;obtain ⟨wv',lv',hrow'⟩:=hdw.out.row;have hk':=hdw.out.kept
   obtain ⟨y,hy⟩:∃ y,(Dv.keepFrom keep d.kept (d.waits.take k) 0)[p]?=some y:=⟨_,List.getElem?_eq_getElem (by rw [Dv.keepFrom_len,H.out.kept]; exact hp32)⟩
   have hcy:∀ o,(wr.alloc o).cell? ⟨b,p,none⟩=some (.string y):=fun o=>by
    rw [World.cell?_alloc_lt _ _ _ (Array.getElem?_eq_some_iff.1 hrow').1,cell_of_row _ _ _ _ _ _ hrow'];have hlt:p<(Dv.keepFrom keep d.kept (d.waits.take k) 0).length:=(List.getElem?_eq_some_iff.1 hy).1;simp only [List.getElem?_toArray];unfold devCells;rw [List.getElem?_append_left (by simpa using hlt),List.getElem?_map,hy];rfl
   have hfy:∀ o,(wr.alloc o).frozen? ⟨b,p,none⟩=false:=fun o=>by
    rw [World.frozen?_alloc_past _ _ _ (Array.getElem?_eq_some_iff.1 hrow').1];exact frozen_of_row _ _ _ _ _ hrow'
   have hpi:(p:Int)<32:=by omega
   have hbA:∀ o,Below wr.heap.size wr (wr.alloc o):=fun o=>(Below.refl _ _).alloc (Nat.le_refl _) o
   have HbA:=Lib.hid hbA;have Hcw:=Lib.hid hcw.out;clear hbA hy hrow' hk' hcw;rcases Bool.eq_false_or_eq_true (Dv.bit keep k) with hb | hb
   ·have hbit:(bits BinOp.and IntKind.u64 ((keep:Int) / 2 ^ (k % 64)) 1 == 1)=true:=by rw [keep_bit hkeep]; exact hb
    have Hb:=Lib.hid hb;clear hb;go_wp2_with fail;go_region
    go_wp2_with fail;go_roundw
    case rel =>
     refine ⟨k+1,by omega,by go_num,((Hcw.out.step (HbA.out _)).setCell (.inl rfl) _).drew,?_⟩;show DevAt _ _ _ _ _ _ _;rw [Dv.keepFrom_succ Hx.out,Hb.out];exact ((hdw.out.below (HbA.out _)).setKept p hp32 s HS.out (by decide) (by decide)).below (Below.refl _ _).drew
    case measure=>simp [intOf]; omega
   ·have hbit:(bits BinOp.and IntKind.u64 ((keep:Int) / 2 ^ (k % 64)) 1 == 1)=false:=by rw [keep_bit hkeep]; exact hb
    have Hb:=Lib.hid hb;clear hb;go_wp2_with fail;go_roundw
    case rel =>
     refine ⟨k+1,by omega,by go_num,Hcw.out.step (HbA.out _),?_⟩;show DevAt _ _ _ _ _ _ _;rw [Dv.keepFrom_succ Hx.out,Hb.out];exact hdw.out.below (HbA.out _)
    case measure=>simp [intOf]; omega
  ·obtain rfl:k=d.waits.length:=by omega
   have hd:=hdw.out;rw [List.take_of_length_le (Nat.le_refl _)] at hd;generalize hK:Dv.keepFrom keep d.kept d.waits 0=K at hd;obtain ⟨wv',lv',cs',hrow',hw',hl',hcs',hok'⟩:=hd.two;have hk':K.length=32:=hd.kept;have hn':d.now.length=32:=hd.now;have HR:Hid (wr.rangeAt b 0 (K.map .string)):=range_kept hrow';have HT:Hid (wr.there b 32 (K.map Value.string).toArray.size):=there_of_row hrow' 32 _ (by rw [List.size_toArray,List.size_toArray,List.length_map,devCells_len { d with kept:=K } _ _ hk' hn']; omega);have Hs:Hid ((Tryz.prog.info? 48).map (·.size)=some (K.map Value.string).length):=show _=_ by rw [List.length_map,hk']; kernel_rfl
   have H1:Hid ((K.map Value.string).toArray.all (·.oneCell')=true):=all_oneCell_toArray (fun v hv=>by obtain ⟨s,_,rfl⟩:=List.mem_map.1 hv; rfl);have hrow1:=heap_setCells_row b _ (K.map .string) 32 wr _ hrow';rw [devCells_back { d with kept:=K } wv' lv' hk' hn'] at hrow1
   obtain ⟨W1,hW1⟩:∃ u,wr.setCells b 32 (K.map .string)=u:=⟨_,rfl⟩
   rw [hW1] at hrow1;have c64:W1.cell? ⟨b,64,none⟩=some wv':=by rw [cell_of_row _ _ _ _ _ _ hrow1]; simpa using devCells_at_w { d with kept:=K,now:=K } wv' lv' hk' hk'
   have f64:W1.frozen? ⟨b,64,none⟩=false:=frozen_of_row _ _ _ _ _ hrow1;have hrow2:=heap_setCell_same _ _ 64 _ _ (.slice none 0 0) hrow1;rw [devCells_set_w { d with kept:=K,now:=K } _ _ _ hk' hk'] at hrow2;have c65:(W1.setCell ⟨b,64,none⟩ (.slice none 0 0)).cell? ⟨b,65,none⟩=some lv':=by rw [cell_of_row _ _ _ _ _ _ hrow2]; simpa using devCells_at_l { d with kept:=K,now:=K } (.slice none 0 0) lv' hk' hk'
   have f65:(W1.setCell ⟨b,64,none⟩ (.slice none 0 0)).frozen? ⟨b,65,none⟩=false:=frozen_of_row _ _ _ _ _ hrow2;have hrow3:=heap_setCell_same _ _ 65 _ _ (.slice none 0 0) hrow2;rw [devCells_set_l { d with kept:=K,now:=K } _ _ _ hk' hk'] at hrow3;have hfb:=hd.fb;have hcr:Chg F wr W1:=hW1▸Chg.refl.setCells (.inl hfb) _ _;have hc:=(hcr.setCell (p:=⟨b,64,none⟩) (.inl hfb) (.slice none 0 0)).setCell (p:=⟨b,65,none⟩) (.inl hfb) (.slice none 0 0);have Hrow3:=Lib.hid hrow3;have Hc:=Lib.hid ((hcw.out.mono (fun q hq=>hq▸hfb)).trans (hc.mono (fun q hq=>.inl hq)));have HW:=Lib.hid hW1;have HKk:=Lib.hid hK;have Hfb:=Lib.hid hfb;clear hrow' hw' hl' hcs' hok' hrow1 hrow2 hrow3 hc hcr hW1 hd hdw hcw hK hfb
   go_wp2_with (first
    |(refine wpList_load_mid rfl 48 (.tmp 36) rfl b 0 rfl (K.map .string) _ HR.out Tryz.underlying48 rfl Hs.out ?_)
    |(refine wpList_store_mid rfl 48 (.tmp 39) (.tmp 37) rfl b 32 (K.map Value.string).toArray rfl rfl HT.out (by rw [List.size_toArray]; exact Hs.out) H1.out ?_
      rw [show wr.setCells b 32 (K.map Value.string).toArray.toList=W1 from HW.out]))
   go_end0;refine ⟨rfl,?_,Hc.out⟩;have he:d.crash keep=⟨K,K,[],[]⟩:=by unfold Dv.crash; rw [HKk.out]
   rw [he];exact ⟨Hfb.out,hk',hk',_,_,[],Hrow3.out,Ow.nil,Ow.nil,rfl,by simp⟩
end Go.Proofs.YtagndjihiklmiaaGreatDoor
