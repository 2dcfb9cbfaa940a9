/- The reference's stack: Ask. The reference's stack: NewStack. The program's stack and the reference's, over one heap. The law's map of words: read, write, sync. -/
import Derived.Test.YtlomdfbnicbceaaGreatM37
import Derived.Deep.CutRange
import Derived.Test.YtlomdfbnicbceaaGreatM31
import Derived.Test.YtlomdfbnicbceaaGreatM44
import Derived.Test.YtlomdfbnicbceaaGreatM10
set_option linter.unusedSimpArgs false
set_option linter.unusedVariables false
set_option maxRecDepth 100000
set_option maxHeartbeats 8000000
namespace Go.Proofs.YtlomdfbnicbceaaGreat
open Go.RowKit Go.Sort
def leftK (kind:Int) (l:List Bf):List Int:=if kind=3 then St.dirtyAt l else []
theorem leftK_len (kind:Int) (l:List Bf):(leftK kind l).length≤l.length:=by
 unfold leftK
 split
 ·exact dirtyAt_len l
 ·exact Nat.zero_le _
theorem row_put (x:Sv) (s:St) (bd c:Nat) (v:Value) (hc:c<3) (l:List (Option Ak)):(x.row s bd).setIfInBounds (11+c) v=(x.put c v).row { s with asks:=l } bd:=match c,hc with
 |0,_=>rfl
 |1,_=>rfl
 |2,_=>rfl
theorem rask_any (col:Nat→Nat) (w:World) (b bd N:Nat) (x:Sv) (s:St) (client kind p:Int) (d:ByteArray) (K:Int) (h:StAt Tr col w b bd N x s) (hI:Inv s) (hB:Bd K s) (h0:0≤K) (hK:K≤800000000) :
  Calls Tryz.prog 20 #[.pointer (some ⟨b,0,none⟩),.int .i64 client,.int .i64 kind,.int .i64 p,.string d] w (Ret5 Tr col w b bd N (s.ask client kind p d).1 (.int .i64 ((s.ask client kind p d).2:Nat))):=by
 have H:=Lib.hid h
 have HI:=Lib.hid hI
 have HB:=Lib.hid hB
 obtain ⟨b1,hb1⟩:∃ b:Bool,b=true↔(client<0∨3≤client∨kind<1∨3<kind):=⟨decide _,decide_eq_true_iff⟩
 obtain ⟨b3,hb3⟩:∃ b:Bool,b=true↔(p<0∨32≤p∨4<d.size∨(kind=3∧p≠0)∨(kind≠2∧d.size≠0)):=⟨decide _,decide_eq_true_iff⟩
 have Hb1:=Lib.hid hb1
 have Hb3:=Lib.hid hb3
 clear h hI hB hb1 hb3
 go_enter Tryz.func20,Tryz.ntmps20
 go_upto_region 1 with fail
 go_cut [26] from 13 to 111 (fun v wx=>v=.bool b1∧wx=w)
 case first =>
  have key:client<0∨(¬ client<0∧2<client)∨(¬ client<0∧¬ 2<client∧kind<1)∨(¬ client<0∧¬ 2<client∧¬ kind<1∧3<kind)∨(¬ client<0∧¬ 2<client∧¬ kind<1∧¬ 3<kind):=by omega
  rcases key with h1 | ⟨h1,h2⟩ | ⟨h1,h2,h3⟩ | ⟨h1,h2,h3,h4⟩ | ⟨h1,h2,h3,h4⟩
  all_goals
   go_wp2_with fail
   go_meet
   case rel=>exact ⟨congrArg Value.bool (by rw [Bool.eq_iff_iff,Hb1.out]; first | (simp; done) | (simp; omega) | omega),rfl⟩
 case rest =>
  obtain ⟨hv,hw⟩:=hcut
  subst hv
  obtain rfl:w=wc:=hw.symm
  clear hw
  cases b1 with
  |true =>
   have He:=Lib.hid (ask_shape (s:=s) (p:=p) (d:=d) (Hb1.out.1 rfl))
   go_wp2_with fail
   go_ret
   rw [He.out]
   exact ⟨col,x,rfl,H.out,Chg.refl,Rec.refl⟩
  |false =>
   have hs:¬ (client<0∨3≤client∨kind<1∨3<kind):=fun h=>by have:=Hb1.out.2 h; cases this
   have Hs:=Lib.hid hs
   go_upto_region 3 with fail
   go_cut [53] from 13 to 111 (fun v wx=>v=.bool b3∧wx=w)
   case first =>
    cases b3 with
    |true =>
     have hB:=Hb3.out.1 rfl
     have key:p<0∨(¬ p<0∧31<p)∨(¬ p<0∧¬ 31<p∧(4:Int)<(d.size:Int))∨(¬ p<0∧¬ 31<p∧¬ (4:Int)<(d.size:Int)∧kind=1∧d.size≠0)∨(¬ p<0∧¬ 31<p∧¬ (4:Int)<(d.size:Int)∧kind=3∧p≠0)∨(¬ p<0∧¬ 31<p∧¬ (4:Int)<(d.size:Int)∧kind=3∧p=0∧d.size≠0):=by omega
     clear hs Hs hB
     rcases key with h5 | ⟨h5,h6⟩ | ⟨h5,h6,h7⟩ | ⟨h5,h6,h7,rfl,h8⟩ | ⟨h5,h6,h7,rfl,h9⟩ | ⟨h5,h6,h7,rfl,rfl,h8⟩
     all_goals
      try have hse:=str_yes h8
      try clear h8
      go_wp2_with fail
      go_meet
      case rel=>exact ⟨rfl,rfl⟩
    |false =>
     have hB:¬ (p<0∨32≤p∨4<d.size∨(kind=3∧p≠0)∨(kind≠2∧d.size≠0)):=fun h=>nomatch Hb3.out.2 h
     have key:(¬ p<0∧¬ 31<p∧¬ (4:Int)<(d.size:Int)∧kind=1∧d.size=0)∨(¬ p<0∧¬ 31<p∧¬ (4:Int)<(d.size:Int)∧kind=2)∨(¬ p<0∧¬ 31<p∧¬ (4:Int)<(d.size:Int)∧kind=3∧p=0∧d.size=0):=by omega
     clear hs Hs hB
     rcases key with ⟨h5,h6,h7,rfl,h8⟩ | ⟨h5,h6,h7,rfl⟩ | ⟨h5,h6,h7,rfl,rfl,h8⟩
     all_goals
      try have hse:=str_no h8
      try clear h8
      go_wp2_with fail
      go_meet
      case rel=>exact ⟨rfl,rfl⟩
   case rest =>
    obtain ⟨hv,hw⟩:=hcut
    subst hv
    obtain rfl:w=wc:=hw.symm
    clear hw
    cases b3 with
    |true =>
     have He:=Lib.hid (ask_bound Hs.out (s:=s) (Hb3.out.1 rfl))
     go_wp2_with fail
     go_ret
     rw [He.out]
     exact ⟨col,x,rfl,H.out,Chg.refl,Rec.refl⟩
    |false =>
     have hb:¬ (p<0∨32≤p∨4<d.size∨(kind=3∧p≠0)∨(kind≠2∧d.size≠0)):=fun h=>by have:=Hb3.out.2 h; cases this
     have Hb:=Lib.hid hb
     obtain ⟨c,rfl⟩:∃ c:Nat,client=c:=⟨client.toNat,by omega⟩
     have hc:c<3:=by omega
     have hk3:(c:Int)<3:=by omega
     have hk0:¬ (c:Int)<0:=by omega
     obtain ⟨p0,ep,hn,hq⟩:=H.out.ptr c hc
     have cA:w.cell? ⟨b,11+c,none⟩=some (.pointer p0):=(H.out.cellA hc).trans (congrArg some ep)
     cases ho:s.askAt c with
     |some a =>
      obtain ⟨ba,rfl⟩:=hq a ho
      have He:=Lib.hid (ask_busy Hs.out Hb.out (s:=s) (by rw [Int.toNat_natCast,ho]; rfl))
      clear hs hb hn hq ep ho
      go_wp2_with fail
      go_ret
      rw [He.out]
      exact ⟨col,x,rfl,H.out,Chg.refl,Rec.refl⟩
     |none =>
      obtain rfl:=hn ho
      have he:=ask_ok Hs.out Hb.out (s:=s) (by rw [Int.toNat_natCast,ho])
      rw [Int.toNat_natCast] at he
      have He:Hid (s.ask (c:Int) kind p d=(({ s with asks:=s.asks.set c (some ⟨kind,p,d,leftK kind s.bufs⟩) }:St).serve,0)):=he
      have HIa:Hid (Inv { s with asks:=s.asks.set c (some ⟨kind,p,d,leftK kind s.bufs⟩) }):=HI.out.asked (by omega) (by omega) (by omega) (by
       unfold leftK
       split
       ·exact HI.out.dirtyAt_ok
       ·exact ⟨Nat.zero_le _,fun x hx=>by cases hx⟩)
      have HBa:Hid (Bd K { s with asks:=s.asks.set c (some ⟨kind,p,d,leftK kind s.bufs⟩) }):=show Bd _ _ from ⟨HB.out.use,HB.out.tag,HB.out.waits⟩
      have Hln:Hid (s.bufs.length≤8):=HI.out.len8
      obtain ⟨Ab,cb,hbv,_,_⟩:=H.out.bufs.form
      have Hbv:=Lib.hid hbv
      have Ep:=Lib.hid ep
      obtain ⟨j0,hj0,hy0,hy1,hy2⟩:=info_parts intInfo
      clear hs hb hn hq ep ho he hbv
      go_wp2_with fail
      obtain ⟨B,hBz⟩:∃ B,w.heap.size=B:=⟨_,rfl⟩
      have hbA:=(Below.refl w.heap.size w).alloc (Nat.le_refl _) (.cells #[.int .i64 kind,.int .i64 p,.string d,.slice none 0 0] Tr.A)
      have HX0:Hid ((w.alloc (.cells #[.int .i64 kind,.int .i64 p,.string d,.slice none 0 0] Tr.A)).heap[B]?=some (.cells #[.int .i64 kind,.int .i64 p,.string d,.slice none 0 0] Tr.A (0,0))):=show _=_ from hBz▸heap_alloc_new w _
      have HbA:=Lib.hid hbA
      rw [hBz]
      change Code.wp _ _ _ _ (w.alloc (.cells #[.int .i64 kind,.int .i64 p,.string d,.slice none 0 0] Tr.A))
      clear hbA cA
      generalize World.alloc _ _=w1 at HbA HX0 ⊢
      go_loopw [12] (fun i wr=>∃ (m:Nat) (lv:Value),m≤s.bufs.length∧i=.int .i64 m∧Hid (wr.heap[B]?=some (.cells #[.int .i64 kind,.int .i64 p,.string d,lv] Tr.A (0,0)))∧Hid (wr.ownsRow w.heap.size 3 1 lv (leftK kind (s.bufs.take m)).length ((leftK kind (s.bufs.take m)).map (.int .i64)))∧Hid (Below w.heap.size w wr)) (fun i _=>s.bufs.length - (intOf i).toNat)
      case atStart=>exact ⟨0,_,by omega,rfl,HX0.out,by rw [show leftK kind (s.bufs.take 0)=[] by unfold leftK; split <;> rfl]; exact World.ownsRow_nil _ _ _ _,HbA.out⟩
      case round =>
       obtain ⟨m,lv,hm,rfl,HX,HO,HBl⟩:=hrel
       have c2:wr.cell? ⟨b,2,none⟩=some (.slice Ab s.bufs.length cb):=cell_b HBl.out ((H.out.cell 2).trans (congrArg some Hbv.out))
       by_cases hlt:m<s.bufs.length∧kind=3
       ·obtain ⟨hlt,rfl⟩:=hlt
        have hlt2:(m:Int)<(s.bufs.length:Int):=by omega
        have hm8:(m:Int)<8:=by have:=Hln.out; omega
        have hm0:¬ (m:Int)<0:=by omega
        have HLT:=Lib.hid hlt
        obtain ⟨g,off,rfl,_,hgl,hcl⟩:=(Hbv.out▸H.out.bufs.below HBl.out:BufsAt _ wr _ _).at_ (by omega)
        have hx:s.bufs[m]?=some s.bufs[m]:=List.getElem?_eq_getElem hlt
        obtain ⟨_,k0,k1,k2,k3⟩:=hcl m _ hx
        have Hx:=Lib.hid hx
        have Hgl:=Lib.hid hgl
        clear hx hcl hgl
        generalize s.bufs[m]=y at *
        obtain ⟨Av,cv,rfl⟩:=own_sl (own_lo HO.out (Nat.zero_le _))
        have Hs3:Hid (leftK 3 (s.bufs.take (m+1))=leftK 3 (s.bufs.take m) ++ (if y.dirty then [y.pos] else [])):=show _=_ from dirtyAt_succ Hx.out
        have Hl8:Hid ((leftK 3 (s.bufs.take m)).length≤8):=show _≤_ from Nat.le_trans (leftK_len _ _) (Nat.le_trans (List.length_take_le' _ _) Hln.out)
        cases hd:y.dirty with
        |false =>
         have He3:Hid (leftK 3 (s.bufs.take (m+1))=leftK 3 (s.bufs.take m)):=show _=_ by rw [Hs3.out,hd]; simp
         rw [hd] at k2
         clear hd
         go_wp2_with fail
         go_roundw
         case rel=>exact ⟨m+1,_,by have:=HLT.out; omega,by go_num,HX.out,He3.out▸HO.out,HBl.out⟩
         case measure=>simp [intOf]; have:=HLT.out; omega
        |true =>
         have He3:Hid (leftK 3 (s.bufs.take (m+1))=leftK 3 (s.bufs.take m) ++ [y.pos]):=show _=_ by rw [Hs3.out,hd]; rfl
         rw [hd] at k2
         clear hd
         go_wp2_with fail
         have hBl:B<wr.heap.size:=(Array.getElem?_eq_some_iff.1 HX.out).1
         have hbl:=(H.out.below HBl.out).bl
         have hgl:=Hgl.out
         have q3:wr.cell? ⟨B,3,none⟩=some (.slice Av (leftK 3 (s.bufs.take m)).length cv):=cell_of_row _ _ 3 _ _ _ HX.out
         have f3:wr.frozen? ⟨B,3,none⟩=false:=frozen_of_row _ _ 3 _ _ HX.out
         have q3a:∀ o,(wr.alloc o).cell? ⟨B,3,none⟩=some (.slice Av (leftK 3 (s.bufs.take m)).length cv):=fun o=>(World.cell?_alloc_lt _ _ _ hBl).trans q3
         have k0a:∀ o,(wr.alloc o).cell? ⟨g,off+m * 4,none⟩=some (.int .i64 y.pos):=fun o=>(World.cell?_alloc_lt _ _ _ hgl).trans k0
         have c2a:∀ o,(wr.alloc o).cell? ⟨b,2,none⟩=some (.slice (some ⟨g,off,none⟩) s.bufs.length cb):=fun o=>(World.cell?_alloc_lt _ _ _ hbl).trans c2
         have HnB:Hid (∀ q,(Value.slice Av (leftK 3 (s.bufs.take m)).length cv).ownBlock=some q→q≠B):=own_ne (own_lo HO.out (Nat.zero_le _)) HX.out (by decide)
         have Hws:Hid (w.heap.size≤wr.heap.size):=HBl.out.size
         clear k1 k2 k3
         go_region_law (first
          |(refine step_append_rd (S:=fun _=>True) _ rfl (.tmp 91) (.tmp 100) _ rfl w.heap.size 3 j0 _ 1 8 Tryz.underlying88 hj0 hy0 hy1 hy2 rfl (by omega) (.slice Av (leftK 3 (s.bufs.take m)).length cv) (leftK 3 (s.bufs.take m)).length ((leftK 3 (s.bufs.take m)).map (.int .i64)) (by simp [Act.eval,Act.put]) (HO.out.alloc _) (.slice (some ⟨wr.heap.size,0,none⟩) 1 1) 1 [.int .i64 y.pos] (by simp [Act.eval,Act.put]) (rd_1 (heap_alloc_new _ _) trivial) (one_i1 _) (by simp only [maxLen]; have:=Hl8.out; omega) (by have:=Hl8.out; omega) (by have:=Hws.out; simp; omega) ?_
            intro v7 w7 hown7 hg7 hat7
            clear hat7
            obtain ⟨A7,c7,rfl⟩:=own_sl (own_lo hown7 (Nat.zero_le _))
            have hne7:some B≠(Value.slice Av (leftK 3 (s.bufs.take m)).length cv).ownBlock:=fun e2=>HnB.out B e2.symm rfl
            have p1:w7.cell? ⟨B,3,none⟩=some (.slice Av (leftK 3 (s.bufs.take m)).length cv):=hg7.cell (q3a _) hne7
            have p2:w7.frozen? ⟨B,3,none⟩=false:=(World.frozen?_of_block (hg7.block B (by simp; omega) hne7)).trans ((World.frozen?_alloc_past _ _ _ hBl).trans f3))
          |fail)
         all_goals
          have hbA:=((Below.refl wr.heap.size wr).alloc (Nat.le_refl _) (.cells #[.int .i64 y.pos] 3)).drew
          have hsA:(World.drew (wr.alloc (.cells #[.int .i64 y.pos] 3))).heap.size=wr.heap.size+1:=by simp
          have hc7:Chg (fun q=>w.heap.size≤q) w w7:=((Chg.of_below HBl.out).step hbA).grown hg7 (fun k hk=>.inl ((HO.out.lt k hk).1))
          have hr7:w7.heap[B]?=some _:=((hg7.block B (by rw [hsA]; omega) hne7).trans (hbA.block _ hBl)).trans HX.out
          have hr8:=heap_setCell_same _ _ 3 _ _ (.slice A7 ((leftK 3 (s.bufs.take m)).length+1) c7) hr7
          have hc8:=hc7.setCell (p:=⟨B,3,none⟩) (.inl (by show w.heap.size≤B; omega)) (.slice A7 ((leftK 3 (s.bufs.take m)).length+1) c7)
          have ho8:(w7.setCell ⟨B,3,none⟩ (.slice A7 ((leftK 3 (s.bufs.take m)).length+1) c7)).ownsRow w.heap.size 3 1 (.slice A7 ((leftK 3 (s.bufs.take m)).length+1) c7) ((leftK 3 (s.bufs.take m)).length+1) ((leftK 3 (s.bufs.take m)).map (.int .i64) ++ [.int .i64 y.pos]) :=
           own_keepD hown7 (fun q hv=>Below.heap_setCell _ _ _ _ (own_ne (own_lo hown7 (Nat.zero_le _)) hr7 (by decide) q hv))
          have Hr8:=Lib.hid hr8
          have Hb8:=Lib.hid (hc8.below (B:=w.heap.size) (fun k hk=>hk) (Nat.le_refl _))
          have Ho8:=Lib.hid ho8
          clear hr8 hc8 ho8 hc7 hr7 hbA hsA hg7 hown7 hne7 p1 p2 q3 q3a k0 k0a c2 c2a f3
          try go_wp2_with fail
          go_roundw
          case rel =>
           refine ⟨m+1,_,by have:=HLT.out; omega,by go_num,Hr8.out,?_,Hb8.out⟩
           rw [He3.out,List.length_append,List.map_append]
           exact Ho8.out
          case measure=>simp [intOf]; have:=HLT.out; omega
       ·have Hd:Hid (leftK kind (s.bufs.take m)=leftK kind s.bufs):=show _=_ by
         by_cases hk:kind=3
         ·rw [show m=s.bufs.length from by have:=fun h=>hlt ⟨h,hk⟩; omega,List.take_length]
         ·unfold leftK; rw [if_neg hk,if_neg hk]
        have key:¬ (m:Int)<(s.bufs.length:Int)∨((m:Int)<(s.bufs.length:Int)∧(kind == 3)=false):=by
         by_cases hm:m<s.bufs.length
         ·exact .inr ⟨by omega,by simp only [beq_eq_false_iff_ne]; exact fun h=>hlt ⟨hm,h⟩⟩
         ·exact .inl (by omega)
        clear hlt
        rcases key with h9 | ⟨h9,h10⟩
        all_goals
         have cA:wr.cell? ⟨b,11+c,none⟩=some (.pointer none):=cell_b HBl.out ((H.out.cellA hc).trans (congrArg some Ep.out))
         have fA:wr.frozen? ⟨b,11+c,none⟩=false:=(H.out.below HBl.out).frozen _
         have hbl:=H.out.bl
         have hrow:=heap_setCell_same _ _ (11+c) _ _ (.pointer (some ⟨B,0,none⟩)) ((HBl.out.block _ hbl).trans H.out.row)
         rw [row_put x s bd c _ hc (s.asks.set c (some ⟨kind,p,d,leftK kind s.bufs⟩))] at hrow
         have hch1:Chg (fun k=>k=b) w (wr.setCell ⟨b,11+c,none⟩ (.pointer (some ⟨B,0,none⟩))):=Chg.setCell (F:=fun k=>k=b) (p:=⟨b,11+c,none⟩) (Chg.of_below HBl.out) (.inl rfl) _
         have hXB:=(heap_setCell_other wr ⟨b,11+c,none⟩ B (.pointer (some ⟨B,0,none⟩)) (by simp; omega)).trans HX.out
         have hOB:(wr.setCell ⟨b,11+c,none⟩ (.pointer (some ⟨B,0,none⟩))).ownsRow w.heap.size 3 1 lv (leftK kind s.bufs).length ((leftK kind s.bufs).map (.int .i64)):=Hd.out▸own_keepD HO.out (fun q hq=>heap_setCell_other _ _ _ _ (by have:=(HO.out.lt q hq).1; simp; omega))
         obtain ⟨col',hst,hrec⟩:=H.out.asked hc (a:=⟨kind,p,d,leftK kind s.bufs⟩) hch1 (by omega) hXB hOB hrow
         have Hst:=Lib.hid hst
         have Hrec:=Lib.hid hrec
         have Hch:=Lib.hid (H.out.chg1 hch1)
         clear hst hrec hOB hXB hch1 hrow
         go_wp2_with fail
         clear cA fA c2
         generalize World.setCell _ _ _=w6 at Hst Hch ⊢
         refine (rserve_any col' w6 b bd N _ _ K Hst.out HIa.out HBa.out h0 hK).mono ?_
         rintro e w7 ⟨c7,y7,rfl,hst7,hc7,hr7⟩
         have Hr:=Lib.hid (Ret5.after (v:=.int .i64 0) ⟨c7,y7,rfl,hst7,hc7,hr7⟩ Hch.out ⟨Hrec.out.old,Hrec.out.grow⟩)
         clear hst7 hc7 hr7
         go_wp2_with fail
         go_ret
         rw [He.out]
         exact Hr.out
end Go.Proofs.YtlomdfbnicbceaaGreat
namespace Go.Proofs.YtlomdfbnicbceaaGreat
open Go.RowKit Go.Sort
theorem rstnew_any (S F:Nat→Prop) (w:World) (bd:Nat) (d:Dv) (h:DevAt TDr TPr S F w bd d) (hF:∀ k,F k→k<w.heap.size) (hSlt:∀ k,S k→k<w.heap.size) (hSF:∀ k,S k→¬ F k) :
  Calls Tryz.prog 9 #[.pointer (some ⟨bd,0,none⟩)] w (RetNew Tr F w bd d):=by
 classical
 have H:=Lib.hid h
 have HF:=Lib.hid hF
 have Hlt:=Lib.hid hSlt
 have HSF:=Lib.hid hSF
 clear h hF hSlt hSF
 have hmm:=@run_makeMap Tryz.prog
 go_enter Tryz.func9,Tryz.ntmps9
 go_wp2_with fail
 go_ret
 have hq1:Below w.heap.size w (w.alloc (.map #[] 0)):=(Below.refl _ _).alloc (Nat.le_refl _) _
 have hz1:(w.alloc (.map #[] 0)).heap.size=w.heap.size+1:=by simp
 have hm:=MapAt.made w
 generalize w.alloc (.map #[] 0)=W1 at hq1 hz1 hm ⊢
 have hb2:Below W1.heap.size W1 (W1.alloc (.cells #[.pointer (some ⟨bd,0,none⟩),.map (some w.heap.size)] Tr.V)):=(Below.refl _ _).alloc (Nat.le_refl _) _
 have hs2:(W1.alloc (.cells #[.pointer (some ⟨bd,0,none⟩),.map (some w.heap.size)] Tr.V)).heap.size=W1.heap.size+1:=by simp
 have hr2:(W1.alloc (.cells #[.pointer (some ⟨bd,0,none⟩),.map (some w.heap.size)] Tr.V)).heap[W1.heap.size]?=some (.cells #[.pointer (some ⟨bd,0,none⟩),.map (some w.heap.size)] Tr.V (0,0)):=heap_alloc_new _ _
 have hW:W1.alloc (.cells #[.pointer (some ⟨bd,0,none⟩),.map (some w.heap.size)] 68)=W1.alloc (.cells #[.pointer (some ⟨bd,0,none⟩),.map (some w.heap.size)] Tr.V):=rfl
 rw [hW]
 generalize W1.alloc (.cells #[.pointer (some ⟨bd,0,none⟩),.map (some w.heap.size)] Tr.V)=w1 at hb2 hs2 hr2 ⊢
 rw [hz1] at hr2
 have hbb:=hq1.trans (hb2.mono (by omega))
 have hp:DrvAt Tr.D Tr.P Tr.V S F w1 (w.heap.size+1) bd w.heap.size 0 ⟨d,fun _=>0⟩:=⟨hr2,⟨_,hm.keep (hb2.block _ (by omega)),fun k hk=>rfl⟩,H.out.below hbb,fun hf=>by have:=HF.out _ hf; omega,fun hf=>by have:=HF.out _ hf; omega,fun k hk=>by have:=Hlt.out _ hk; constructor <;> omega⟩
 have Hs1:Hid (w1.heap.size=w.heap.size+2):=(by omega:_=_)
 have HB1:=Lib.hid hbb
 obtain ⟨bv,hbv⟩:∃ n,w.heap.size+1=n:=⟨_,rfl⟩
 have Hbv:=Lib.hid hbv
 have hbw:w1.heap.size=bv+1:=by omega
 rw [hbv] at hp
 try rw [hbv]
 have Hp:=Lib.hid hp
 obtain ⟨x,hx⟩:∃ x:Sv,x=⟨bv,w.heap.size,0,.slice none 0 0,.slice none 0 0,.pointer none,.pointer none,.pointer none,noB,noB,noB,0,0,0⟩:=⟨_,rfl⟩
 clear hp hbv hbb hr2 hs2 hb2 hm hq1
 obtain ⟨o,ho⟩:∃ o:Obj,o=.cells (x.row (St.new d) bd) Tr.S:=⟨_,rfl⟩
 have hoe:o=.cells (x.row (St.new d) bd) Tr.S:=ho
 have hA:Below w1.heap.size w1 (w1.alloc o):=(Below.refl _ _).alloc (Nat.le_refl _) _
 have hnew:(w1.alloc o).heap[w1.heap.size]?=some o:=heap_alloc_new _ _
 have hsz:(w1.alloc o).heap.size=w1.heap.size+1:=by simp
 have hs1:=Hs1.out
 have hbv:=Hbv.out
 have hwo:w1.alloc (.cells #[.pointer (some ⟨bd,0,none⟩),.pointer (some ⟨bv,0,none⟩),.slice none 0 0,.slice none 0 0,.bool false,.int .i64 0,.int .i64 0,.int .i64 0,.int .i64 0,.int .i64 0,.int .i64 0,.pointer none,.pointer none,.pointer none,.string ⟨#[]⟩,.string ⟨#[]⟩,.string ⟨#[]⟩,.int .i64 0,.int .i64 0,.int .i64 0,.bool false] 73)=w1.alloc o:=by rw [hoe,hx]; rfl
 rw [hwo]
 generalize w1.alloc o=w2 at hA hnew hsz
 rw [hoe] at hnew
 obtain ⟨col,hcol⟩:∃ f:Nat→Nat,∀ k,f k=if k=w1.heap.size then 1 else if k=bv then 2 else if k=w.heap.size then 3 else if F k then 4 else 0:=⟨_,fun _=>rfl⟩
 have c1:col w1.heap.size=1:=by rw [hcol,if_pos rfl]
 have c2:col bv=2:=by rw [hcol,if_neg (by omega),if_pos rfl]
 have c3:col w.heap.size=3:=by rw [hcol,if_neg (by omega),if_neg (by omega),if_pos rfl]
 have c4:∀ k,F k→col k=4:=fun k hk=>by have:=HF.out k hk; rw [hcol,if_neg (by omega),if_neg (by omega),if_neg (by omega),if_pos hk]
 have c0:∀ k,S k→col k=0:=fun k hk=>by have:=Hlt.out k hk; rw [hcol,if_neg (by omega),if_neg (by omega),if_neg (by omega),if_neg (HSF.out k hk)]
 have hdrv:=Hp.out.below hA
 have e1:x.bv=bv:=by rw [hx]
 have e2:x.bt=w.heap.size:=by rw [hx]
 have e3:x.n=0:=by rw [hx]
 have e4:x.bufs=.slice none 0 0:=by rw [hx]
 have e5:x.wait=.slice none 0 0:=by rw [hx]
 refine ⟨w1.heap.size,col,x,by rw [hbw]; rfl,⟨hnew,?_,by rw [e3]; exact Nat.le_refl _,?_,?_,rfl,fun c hc=>?_,by rw [hx]; rfl,by rw [hx]; rfl,c1,by rw [e1]; exact c2,by rw [e2]; exact c3,fun k hk=>?_⟩,HB1.out.trans (hA.mono HB1.out.size),fun k hk=>?_,HB1.out.size⟩
 ·rw [e1,e2,e3]
  refine ⟨hdrv.row,hdrv.map,(hdrv.dev.mono c4).more (fun k hk=>⟨by have:=Hlt.out k hk; omega,c0 k hk⟩),?_,?_,?_⟩
  ·intro h1; have h2:col bv=4:=h1; rw [c2] at h2; cases h2
  ·intro h1; have h2:col w.heap.size=4:=h1; rw [c3] at h2; cases h2
  ·intro k hk
   constructor
   ·rintro rfl; have h2:=hk.2; rw [c2] at h2; cases h2
   ·rintro rfl; have h2:=hk.2; rw [c3] at h2; cases h2
 ·rw [e4]; exact BufsAt.nil
 ·rw [e5]; exact ⟨[],rfl,Rd.nil,by simp⟩
 ·match c,hc with
  |0,_=>show x.a0=_; rw [hx]
  |1,_=>show x.a1=_; rw [hx]
  |2,_=>show x.a2=_; rw [hx]
 ·rw [hcol] at hk
  split at hk
  ·omega
  ·split at hk
   ·omega
   ·split at hk
    ·omega
    ·split at hk
     ·rename_i hf; have:=HF.out k hf; omega
     ·exact absurd rfl hk
 ·have h1:col k≠0:=hk.1
  rw [hcol] at h1
  split at h1
  ·right; omega
  ·split at h1
   ·right; omega
   ·split at h1
    ·right; omega
    ·split at h1
     ·rename_i hf; exact .inl hf
     ·exact absurd rfl h1
end Go.Proofs.YtlomdfbnicbceaaGreat
namespace Go.Proofs.YtlomdfbnicbceaaGreat
open Go.RowKit Go.Sort
theorem StAt.beside2 {T1 T2:Tys} {c1 c1' c2:Nat→Nat} {w w':World} {b bd b2 bd2 M N':Nat} {x' y:Sv} {s' t:St} (h2:StAt T2 c2 w b2 bd2 M y t) (h12:∀ k,Fl c1 k→c2 k=9) (h21:∀ k,Fl c2 k→c1 k=9) (h1':StAt T1 c1' w' b bd N' x' s') (hc:Chg (Fl c1) w w') (hr:Rec c1 c1' w w') :
  ∃ c2',StAt T2 c2' w' b2 bd2 M y t∧(∀ k,Fl c1' k→c2' k=9)∧(∀ k,Fl c2' k→c1' k=9)∧(∀ k,Fl c2' k→Fl c2 k)∧∀ k,k<w.heap.size→c2' k=c2 k:=by
 classical
 have h:=h2.far9 hc h12 (fun k=>w.heap.size≤k∧Fl c1' k) (fun k hk=>⟨hk.1,h1'.lt k hk.2.1⟩)
 have hf:∀ k,Fl (fun k=>if w.heap.size≤k∧Fl c1' k then 9 else c2 k) k→Fl c2 k:=fun k hk=>by
  have h1:(if w.heap.size≤k∧Fl c1' k then 9 else c2 k)≠0∧(if w.heap.size≤k∧Fl c1' k then 9 else c2 k)≠9:=hk
  split at h1
  ·exact absurd rfl h1.2
  ·exact h1
 refine ⟨_,h,fun k hk=>?_,fun k hk=>?_,hf,fun k hk=>if_neg (fun h=>by omega)⟩
 ·show (if w.heap.size≤k∧Fl c1' k then 9 else c2 k)=9
  split
  ·rfl
  ·rename_i hn
   exact h12 k ((hr.grow k hk).elim id (fun h=>absurd ⟨h,hk⟩ hn))
 ·have h2f:=hf k hk
  rw [hr.old k (h2.lt k h2f.1)]
  exact h21 k h2f
structure PairC (W0 w:World) (c1 c2:Nat→Nat) (b bd b2 bd2 N:Nat) (x y:Sv) (s t:St) (l:List (Nat × TypeId × Array Value)):Prop where
 st1:StAt Ts c1 w b bd N x s
 st2:StAt Tr c2 w b2 bd2 N y t
 h12:∀ k,Fl c1 k→c2 k=9
 h21:∀ k,Fl c2 k→c1 k=9
 below:Below W0.heap.size W0 w
 o1:∀ k,Fl c1 k→W0.heap.size≤k
 o2:∀ k,Fl c2 k→W0.heap.size≤k
 row:∀ z ∈ l,w.heap[z.1]?=some (.cells z.2.2 z.2.1 (0,0))∧c1 z.1=0∧c2 z.1=0
def Pair (W0 w:World) (b bd b2 bd2 N:Nat) (s t:St) (l:List (Nat × TypeId × Array Value)):Prop:=∃ c1 c2 x y,PairC W0 w c1 c2 b bd b2 bd2 N x y s t l
section
variable {W0 w w':World} {b bd b2 bd2 N N':Nat} {s t s' t':St} {l:List (Nat × TypeId × Array Value)} {v:Value} {f:FuncId} {args:Array Value}
theorem Pair.below (h:Pair W0 w b bd b2 bd2 N s t l) (hb:Below w.heap.size w w'):Pair W0 w' b bd b2 bd2 N s t l:=by
 obtain ⟨c1,c2,x,y,h⟩:=h
 exact ⟨c1,c2,x,y,h.st1.below hb,h.st2.below hb,h.h12,h.h21,h.below.trans (hb.mono h.below.size),h.o1,h.o2,fun z hz=>⟨(hb.block _ (Array.getElem?_eq_some_iff.1 (h.row z hz).1).1).trans (h.row z hz).1,(h.row z hz).2⟩⟩
theorem Pair.base (h:Pair W0 w b bd b2 bd2 N s t l):Below W0.heap.size W0 w:=by
 obtain ⟨c1,c2,x,y,h⟩:=h
 exact h.below
theorem Pair.moreN (h:Pair W0 w b bd b2 bd2 N s t l) (hn:N≤N'):Pair W0 w b bd b2 bd2 N' s t l:=by
 obtain ⟨c1,c2,x,y,h⟩:=h
 exact ⟨c1,c2,x,y,h.st1.moreN hn,h.st2.moreN hn,h.h12,h.h21,h.below,h.o1,h.o2,h.row⟩
theorem Pair.drop (h:Pair W0 w b bd b2 bd2 N s t l):Pair W0 w b bd b2 bd2 N s t []:=by
 obtain ⟨c1,c2,x,y,h⟩:=h
 exact ⟨c1,c2,x,y,h.st1,h.st2,h.h12,h.h21,h.below,h.o1,h.o2,fun z hz=>by cases hz⟩
theorem Pair.alloc (h:Pair W0 w b bd b2 bd2 N s t l) (cs:Array Value) (A:TypeId):Pair W0 (w.alloc (.cells cs A)) b bd b2 bd2 N s t ((w.heap.size,A,cs) :: l):=by
 obtain ⟨c1,c2,x,y,h⟩:=h
 obtain ⟨d1,d2,x',y',h'⟩:=Pair.below ⟨c1,c2,x,y,h⟩ ((Below.refl _ _).alloc (Nat.le_refl _) (.cells cs A))
 have hb:Below w.heap.size w (w.alloc (.cells cs A)):=(Below.refl _ _).alloc (Nat.le_refl _) _
 refine ⟨c1,c2,x,y,h.st1.below hb,h.st2.below hb,h.h12,h.h21,h.below.trans (hb.mono h.below.size),h.o1,h.o2,fun z hz=>?_⟩
 rcases List.mem_cons.1 hz with rfl | hz
 ·exact ⟨heap_alloc_new _ _,h.st1.s0 _ (Nat.le_refl _),h.st2.s0 _ (Nat.le_refl _)⟩
 ·exact ⟨(hb.block _ (Array.getElem?_eq_some_iff.1 (h.row z hz).1).1).trans (h.row z hz).1,(h.row z hz).2⟩
theorem Pair.cell (h:Pair W0 w b bd b2 bd2 N s t l) (i:Nat) {n:Nat} {T:TypeId} {cs:Array Value} (hi:l[i]?=some (n,T,cs)) (k:Nat):w.cell? ⟨n,k,none⟩=cs[k]?:=by
 obtain ⟨c1,c2,x,y,h⟩:=h
 exact cell_of_row _ _ k _ _ _ (h.row _ (List.mem_of_getElem? hi)).1
theorem Pair.lcall (h:Pair W0 w b bd b2 bd2 N s t l) (hn:N≤N') (hcall:∀ c x,StAt Ts c w b bd N x s→Calls Tryz.prog f args w (Ret5 Ts c w b bd N' s' v)):Calls Tryz.prog f args w (fun e w'=>e=.returned v∧Pair W0 w' b bd b2 bd2 N' s' t l):=by
 obtain ⟨c1,c2,x,y,h⟩:=h
 refine (hcall c1 x h.st1).mono ?_
 rintro e w' ⟨d1,x',rfl,hst,hc,hr⟩
 obtain ⟨d2,g2,g12,g21,gf,go⟩:=h.st2.beside2 h.h12 h.h21 hst hc hr
 refine ⟨rfl,d1,d2,x',y,hst,g2.moreN hn,g12,g21,h.below.trans (hc.below h.o1 h.below.size),fun k hk=>(hr.grow k hk).elim (h.o1 k) (fun h1=>Nat.le_trans h.below.size h1),fun k hk=>h.o2 k (gf k hk),fun z hz=>?_⟩
 obtain ⟨r1,r2,r3⟩:=h.row z hz
 have hl:=(Array.getElem?_eq_some_iff.1 r1).1
 exact ⟨(hc.block _ hl (fun hf=>hf.1 r2)).trans r1,(hr.old _ hl).trans r2,(go _ hl).trans r3⟩
theorem Pair.rcall (h:Pair W0 w b bd b2 bd2 N s t l) (hn:N≤N') (hcall:∀ c y,StAt Tr c w b2 bd2 N y t→Calls Tryz.prog f args w (Ret5 Tr c w b2 bd2 N' t' v)):Calls Tryz.prog f args w (fun e w'=>e=.returned v∧Pair W0 w' b bd b2 bd2 N' s t' l):=by
 obtain ⟨c1,c2,x,y,h⟩:=h
 refine (hcall c2 y h.st2).mono ?_
 rintro e w' ⟨d2,y',rfl,hst,hc,hr⟩
 obtain ⟨d1,g1,g21,g12,gf,go⟩:=h.st1.beside2 h.h21 h.h12 hst hc hr
 refine ⟨rfl,d1,d2,x,y',g1.moreN hn,hst,g12,g21,h.below.trans (hc.below h.o2 h.below.size),fun k hk=>h.o1 k (gf k hk),fun k hk=>(hr.grow k hk).elim (h.o2 k) (fun h1=>Nat.le_trans h.below.size h1),fun z hz=>?_⟩
 obtain ⟨r1,r2,r3⟩:=h.row z hz
 have hl:=(Array.getElem?_eq_some_iff.1 r1).1
 exact ⟨(hc.block _ hl (fun hf=>hf.1 r3)).trans r1,(go _ hl).trans r2,(hr.old _ hl).trans r3⟩
theorem Pair.rd1 (h:Pair W0 w b bd b2 bd2 N s t l) (hcall:∀ c x,StAt Ts c w b bd N x s→Calls Tryz.prog f args w (Ret v w)):Calls Tryz.prog f args w (fun e w'=>e=.returned v∧Pair W0 w' b bd b2 bd2 N s t l):=by
 obtain ⟨c1,c2,x,y,hc⟩:=h
 refine (hcall c1 x hc.st1).mono ?_
 rintro e w' ⟨rfl,hb⟩
 exact ⟨rfl,Pair.below ⟨c1,c2,x,y,hc⟩ hb⟩
theorem Pair.rd2 (h:Pair W0 w b bd b2 bd2 N s t l) (hcall:∀ c y,StAt Tr c w b2 bd2 N y t→Calls Tryz.prog f args w (Ret v w)):Calls Tryz.prog f args w (fun e w'=>e=.returned v∧Pair W0 w' b bd b2 bd2 N s t l):=by
 obtain ⟨c1,c2,x,y,hc⟩:=h
 refine (hcall c2 y hc.st2).mono ?_
 rintro e w' ⟨rfl,hb⟩
 exact ⟨rfl,Pair.below ⟨c1,c2,x,y,hc⟩ hb⟩
end
theorem Pair.start {W0 w w2:World} {b bd b2 bd2:Nat} {c1 c2:Nat→Nat} {x y:Sv} {d1 d2:Dv} (h1:StAt Ts c1 w b bd 0 x (St.new d1)) (h2:StAt Tr c2 w2 b2 bd2 0 y (St.new d2)) (hl:d2.l=[]) (hb:Below w.heap.size w w2) (hb0:Below W0.heap.size W0 w) (ho:∀ k,Fl c1 k→W0.heap.size≤k) (hn:∀ k,Fl c2 k→w.heap.size≤k) :
  Pair W0 w2 b bd b2 bd2 0 (St.new d1) (St.new d2) []:=by
 classical
 have g1:=h1.far9 (F:=fun _=>False) ⟨hb.os,hb.tape,hb.output,hb.size,fun k hk _=>hb.block k hk⟩ (fun k hk=>hk.elim) (Fl c2) (fun k hk=>⟨hn k hk,h2.lt k hk.1⟩)
 have hd:∀ k,Fl c1 k→¬ Fl c2 k:=fun k hk h=>by have:=hn k h; have:=h1.lt k hk.1; omega
 have g2:=h2.blank hl (Fl c1) (fun k hk=>⟨hd k hk,Nat.lt_of_lt_of_le (h1.lt k hk.1) hb.size⟩)
 have f1:∀ k,Fl (fun k=>if Fl c2 k then 9 else c1 k) k→Fl c1 k∧¬ Fl c2 k:=fun k hk=>by
  have h1:(if Fl c2 k then 9 else c1 k)≠0∧(if Fl c2 k then 9 else c1 k)≠9:=hk
  split at h1
  ·exact absurd rfl h1.2
  ·rename_i hn; exact ⟨h1,hn⟩
 have f2:∀ k,Fl (fun k=>if Fl c1 k then 9 else c2 k) k→Fl c2 k:=fun k hk=>by
  have h1:(if Fl c1 k then 9 else c2 k)≠0∧(if Fl c1 k then 9 else c2 k)≠9:=hk
  split at h1
  ·exact absurd rfl h1.2
  ·exact h1
 exact ⟨_,_,x,y,g1,g2,fun k hk=>if_pos (f1 k hk).1,fun k hk=>if_pos (f2 k hk),hb0.trans (hb.mono hb0.size),fun k hk=>ho k (f1 k hk).1,fun k hk=>Nat.le_trans hb0.size (hn k (f2 k hk)),fun z hz=>by cases hz⟩
end Go.Proofs.YtlomdfbnicbceaaGreat
namespace Go.Proofs.YtlomdfbnicbceaaGreat
open Go.RowKit
abbrev tKm:TypeId:=74
theorem tKm_u:Tryz.prog.underlying tKm=some (.map 9 3):=Tryz.underlying74
theorem str_u:Tryz.prog.underlying 9=some .string:=Tryz.underlying9
abbrev wRead:ByteArray:=⟨#[114,101,97,100]⟩
abbrev wWrite:ByteArray:=⟨#[119,114,105,116,101]⟩
abbrev wSync:ByteArray:=⟨#[115,121,110,99]⟩
theorem kmap (w:World):∃ w2 w3 w4:World,(Instr.mapUpdate tKm (.map (some w.heap.size)) (.string wRead) (.int .i64 1)).run Tryz.prog (w.alloc (.map #[] 0))=.ok () w2 ∧
  (Instr.mapUpdate tKm (.map (some w.heap.size)) (.string wWrite) (.int .i64 2)).run Tryz.prog w2=.ok () w3∧(Instr.mapUpdate tKm (.map (some w.heap.size)) (.string wSync) (.int .i64 3)).run Tryz.prog w3=.ok () w4 ∧
  (Instr.lookup tKm (.map (some w.heap.size)) (.string wRead) false).run Tryz.prog w4=.ok (.int .i64 1) w4∧(Instr.lookup tKm (.map (some w.heap.size)) (.string wWrite) false).run Tryz.prog w4=.ok (.int .i64 2) w4 ∧
  (Instr.lookup tKm (.map (some w.heap.size)) (.string wSync) false).run Tryz.prog w4=.ok (.int .i64 3) w4∧Below w.heap.size w w4:=by
 have k1:keyOf Tryz.prog 9 (.string wRead)=some (.string [114,101,97,100]):=by kernel_rfl
 have k2:keyOf Tryz.prog 9 (.string wWrite)=some (.string [119,114,105,116,101]):=by kernel_rfl
 have k3:keyOf Tryz.prog 9 (.string wSync)=some (.string [115,121,110,99]):=by kernel_rfl
 have hk:=Maps.string_keyed str_u
 have h0:(w.alloc (.map #[] 0)).ownsMap Tryz.prog 9 (plainElem (H:=Unit) Tryz.prog 3) w.heap.size 0 (.map []):=World.ownsMap_made _ _ _ _
 have hm0:Maps.IsMap (H:=Unit) (.map []):=Maps.isMap_empty
 obtain ⟨w2,r1,o1,g1⟩:=h0.update hk tKm_u (by simp only [maxLen]; omega) k1 (plainElem_int int_u (wf_i64 (n:=1) (by unfold i64; omega)))
 have m1:=hm0.put (.string [114,101,97,100]) (.lit (.int .i64 1))
 obtain ⟨w3,r2,o2,g2⟩:=o1.update hk tKm_u (by simp only [maxLen]; omega) k2 (plainElem_int int_u (wf_i64 (n:=2) (by unfold i64; omega)))
 have m2:=m1.put (.string [119,114,105,116,101]) (.lit (.int .i64 2))
 obtain ⟨w4,r3,o3,g3⟩:=o2.update hk tKm_u (by simp only [maxLen]; omega) k3 (plainElem_int int_u (wf_i64 (n:=3) (by unfold i64; omega)))
 have m3:=m2.put (.string [115,121,110,99]) (.lit (.int .i64 3))
 have hlk:∀ (s:ByteArray) (l:List UInt8) (n:Int),keyOf Tryz.prog 9 (.string s)=some (.string l)→DataW.atKey _ (.string l) (.lit (.int .i64 0))=.lit (.int .i64 n)→(Instr.lookup tKm (.map (some w.heap.size)) (.string s) false).run Tryz.prog w4=.ok (.int .i64 n) w4:=fun s l n hs ha=>by
  obtain ⟨c,hrun,hat,_⟩:=o3.lookup_int hk tKm_u int_u (int_zero w4) hs
  rw [ha] at hat
  simp only [DataW.lit.injEq,Lit.int.injEq,true_and] at hat
  rw [hrun,hat]
 have hb1:Below w.heap.size w (w.alloc (.map #[] 0)):=(Below.refl _ _).alloc (Nat.le_refl _) _
 have hb2:=hb1.grown g1 (by simp) (fun k hk=>by cases hk; exact Nat.le_refl _)
 have hb3:=hb2.grown g2 hb2.size (fun k hk=>by cases hk; exact Nat.le_refl _)
 have hb4:=hb3.grown g3 hb3.size (fun k hk=>by cases hk; exact Nat.le_refl _)
 refine ⟨w2,w3,w4,r1,r2,r3,hlk _ _ 1 k1 ?_,hlk _ _ 2 k2 ?_,hlk _ _ 3 k3 ?_,hb4⟩
 ·rw [Maps.atKey_put_other (by simp),Maps.atKey_put_other (by simp),Maps.atKey_put_same hm0 (hk.key k1)]
 ·rw [Maps.atKey_put_other (by simp),Maps.atKey_put_same m1 (hk.key k2)]
 ·rw [Maps.atKey_put_same m2 (hk.key k3)]
end Go.Proofs.YtlomdfbnicbceaaGreat
