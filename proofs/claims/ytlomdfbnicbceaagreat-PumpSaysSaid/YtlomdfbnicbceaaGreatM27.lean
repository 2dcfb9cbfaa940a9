/- Ask: a sync waits for what is dirty; Ask, whatever is asked. gen_stask3.py prints this text. -/
import Derived.Test.YtlomdfbnicbceaaGreatM26
import Derived.Test.YtlomdfbnicbceaaGreatM2
set_option linter.unusedSimpArgs false
set_option linter.unusedVariables false
set_option maxRecDepth 100000
set_option maxHeartbeats 8000000
namespace Go.Proofs.YtlomdfbnicbceaaGreat
open Go.RowKit Go.Sort
theorem dirtyAt_succ {l:List Bf} {m:Nat} {x:Bf} (h:l[m]?=some x):St.dirtyAt (l.take (m+1))=St.dirtyAt (l.take m) ++ (if x.dirty then [x.pos] else []):=by
 unfold St.dirtyAt
 rw [List.take_add_one,h,List.filter_append,List.map_append]
 simp [List.filter_cons]
 cases x.dirty <;> rfl
theorem dirtyAt_len (l:List Bf):(St.dirtyAt l).length≤l.length:=by
 unfold St.dirtyAt
 rw [List.length_map]; exact List.length_filter_le _ _
theorem one_i1 (n:Int):∀ u ∈ [Value.int .i64 n],u.oneCell'=true:=by
 intro u hu; simp at hu; subst hu; rfl
theorem ask_ok_0_3 (col:Nat→Nat) (w:World) (b bd N:Nat) (x:Sv) (s:St) (d:ByteArray) (K:Int) (h:StAt Ts col w b bd N x s) (hI:Inv s) (hB:Bd K s) (h0:0≤K) (hK:K≤800000000) (h7:¬ 4<d.size) (h8:d.size=0) (ha:s.askAt 0=none) :
  Calls Tryz.prog 15 #[.pointer (some ⟨b,0,none⟩),.int .i64 0,.int .i64 3,.int .i64 0,.string d] w (Ret5 Ts col w b bd N (s.ask 0 3 0 d).1 (errV (s.ask 0 3 0 d).2)):=by
 have He:=Lib.hid (ask_ok (s:=s) (client:=0) (kind:=3) (p:=0) (d:=d) (by omega) (by omega) ha)
 have HIa:Hid (Inv { s with asks:=s.asks.set 0 (some ⟨3,0,d,St.dirtyAt s.bufs⟩) }):=hI.asked (by omega) (by omega) (by omega) hI.dirtyAt_ok
 have HBa:Hid (Bd K { s with asks:=s.asks.set 0 (some ⟨3,0,d,St.dirtyAt s.bufs⟩) }):=show Bd _ _ from ⟨hB.use,hB.tag,hB.waits⟩
 have Hln:Hid (s.bufs.length≤8):=hI.len8
 obtain ⟨p0,e0,n0,_⟩:=h.ptr 0 (by omega)
 obtain rfl:=n0 ha
 obtain ⟨Ab,cb,hbv,_,_⟩:=h.bufs.form
 have c0:w.cell? ⟨b,11,none⟩=some (.pointer none):=(h.cell 11).trans (congrArg some e0)
 have c2:w.cell? ⟨b,2,none⟩=some (.slice Ab s.bufs.length cb):=(h.cell 2).trans (congrArg some hbv)
 have Hbv:=Lib.hid hbv
 have E0:=Lib.hid e0
 have H:=Lib.hid h
 have hsz:¬ (4:Int)<(d.size:Int):=by omega
 have hse:=str_no h8
 clear h hI hB ha n0 e0 h8 hbv
 have hbl:=H.out.bl
 have c1:∀ o,(w.alloc o).cell? ⟨b,2,none⟩=some (.slice Ab s.bufs.length cb):=fun o=>(World.cell?_alloc_lt _ _ _ hbl).trans c2
 obtain ⟨j0,hj0,hy0,hy1,hy2⟩:=info_parts intInfo
 go_enter Tryz.func15,Tryz.ntmps15
 go_wp2_with fail
 obtain ⟨B,hBz⟩:∃ B,w.heap.size=B:=⟨_,rfl⟩
 have hbA:=(Below.refl w.heap.size w).alloc (Nat.le_refl _) (.cells #[.int .i64 3,.int .i64 0,.string d,.slice none 0 0] 90)
 have HX0:Hid ((w.alloc (.cells #[.int .i64 3,.int .i64 0,.string d,.slice none 0 0] 90)).heap[B]?=some (.cells #[.int .i64 3,.int .i64 0,.string d,.slice none 0 0] 90 (0,0))):=show _=_ from hBz▸heap_alloc_new w _
 have HbA:=Lib.hid hbA
 rw [hBz]
 clear c0 c1 c2 hbA
 generalize World.alloc _ _=w1 at HbA HX0 ⊢
 go_loopw [80] (fun i wr=>∃ (m:Nat) (lv:Value),m≤s.bufs.length∧i=.int .i64 m∧Hid (wr.heap[B]?=some (.cells #[.int .i64 3,.int .i64 0,.string d,lv] 90 (0,0)))∧Hid (wr.ownsRow w.heap.size 3 1 lv (St.dirtyAt (s.bufs.take m)).length ((St.dirtyAt (s.bufs.take m)).map (.int .i64)))∧Hid (Below w.heap.size w wr)) (fun i _=>s.bufs.length - (intOf i).toNat)
 case atStart=>exact ⟨0,_,by omega,rfl,HX0.out,World.ownsRow_nil _ _ _ _,HbA.out⟩
 case round =>
  obtain ⟨m,lv,hm,rfl,HX,HO,HB⟩:=hrel
  by_cases hlt:m<s.bufs.length
  ·have hlt2:(m:Int)<(s.bufs.length:Int):=by omega
   have hm8:(m:Int)<8:=by have:=Hln.out; omega
   have Hbr:Hid (BufsAt (Im w col) wr (.slice Ab s.bufs.length cb) s.bufs):=Hbv.out▸H.out.bufs.below HB.out
   obtain ⟨g,off,rfl,_,hgl,hc⟩:=Hbr.out.at_ (by omega)
   have hx:s.bufs[m]?=some s.bufs[m]:=List.getElem?_eq_getElem hlt
   obtain ⟨_,k0,k1,k2,k3⟩:=hc m _ hx
   have Hx:=Lib.hid hx
   clear hx hc
   generalize s.bufs[m]=y at *
   obtain ⟨Av,cv,rfl⟩:=own_sl (own_lo HO.out (Nat.zero_le _))
   have hdl:=dirtyAt_len (s.bufs.take m)
   have hdl2:=List.length_take_le m s.bufs
   cases hd:y.dirty with
   |false =>
    have Hd:=Lib.hid hd
    rw [hd] at k2
    clear hd
    go_wp2_with fail
    clear k0 k1 k2 k3
    have hb5:=fun o=>(Below.refl wr.heap.size wr).alloc (Nat.le_refl _) o
    go_roundw
    case rel =>
     have e:St.dirtyAt (s.bufs.take (m+1))=St.dirtyAt (s.bufs.take m):=by rw [dirtyAt_succ Hx.out,Hd.out]; simp
     exact ⟨m+1,_,by omega,by go_num,((hb5 _).block _ (Array.getElem?_eq_some_iff.1 HX.out).1).trans HX.out,by rw [e]; exact own_keepD HO.out (fun q hq=>(hb5 _).block q (HO.out.lt q hq).2),HB.out.trans ((hb5 _).mono HB.out.size)⟩
    case measure=>simp [intOf]; omega
   |true =>
    have Hd:=Lib.hid hd
    rw [hd] at k2
    clear hd
    go_wp2_with fail
    obtain ⟨Q,hQ⟩:∃ Q,wr.heap.size=Q:=⟨_,rfl⟩
    have hb5:=(Below.refl wr.heap.size wr).alloc (Nat.le_refl _) (.cells #[.int .i64 y.pos,.string y.data,.bool true,.int .i64 y.used] 92)
    have hq5:=heap_alloc_new wr (.cells #[.int .i64 y.pos,.string y.data,.bool true,.int .i64 y.used] 92)
    have hBl:B<wr.heap.size:=(Array.getElem?_eq_some_iff.1 HX.out).1
    have HX5:=Lib.hid ((hb5.block _ hBl).trans HX.out)
    have HO5:=Lib.hid (own_keepD HO.out (fun q hq=>hb5.block q (HO.out.lt q hq).2))
    have HB5:=Lib.hid (HB.out.trans (hb5.mono HB.out.size))
    rw [hQ] at hq5 ⊢
    have HQ5:=Lib.hid hq5
    clear hb5 hq5 k0 k1 k2 k3
    generalize World.alloc _ _=w5 at HX5 HO5 HB5 HQ5 ⊢
    have hB5l:B<w5.heap.size:=(Array.getElem?_eq_some_iff.1 HX5.out).1
    have hQ5l:Q<w5.heap.size:=(Array.getElem?_eq_some_iff.1 HQ5.out).1
    have q3:w5.cell? ⟨B,3,none⟩=some (.slice Av (St.dirtyAt (s.bufs.take m)).length cv):=cell_of_row _ _ 3 _ _ _ HX5.out
    have f3:w5.frozen? ⟨B,3,none⟩=false:=frozen_of_row _ _ 3 _ _ HX5.out
    have q0:w5.cell? ⟨Q,0,none⟩=some (.int .i64 y.pos):=cell_of_row _ _ 0 _ _ _ HQ5.out
    have q3a:∀ o,(w5.alloc o).cell? ⟨B,3,none⟩=some (.slice Av (St.dirtyAt (s.bufs.take m)).length cv):=fun o=>(World.cell?_alloc_lt _ _ _ hB5l).trans q3
    have q0a:∀ o,(w5.alloc o).cell? ⟨Q,0,none⟩=some (.int .i64 y.pos):=fun o=>(World.cell?_alloc_lt _ _ _ hQ5l).trans q0
    have hneB:∀ q,(Value.slice Av (St.dirtyAt (s.bufs.take m)).length cv).ownBlock=some q→q≠B:=own_ne (own_lo HO5.out (Nat.zero_le _)) HX5.out (by decide)
    have HnB:=Lib.hid hneB
    have hws:w.heap.size≤w5.heap.size:=HB5.out.size
    have Hws:=Lib.hid hws
    clear hneB hws
    go_region_law (first
     |(refine step_append_rd (S:=fun _=>True) _ rfl (.tmp 90) (.tmp 93) _ rfl w.heap.size 3 j0 _ 1 8 Tryz.underlying88 hj0 hy0 hy1 hy2 rfl (by omega) (.slice Av (St.dirtyAt (s.bufs.take m)).length cv) (St.dirtyAt (s.bufs.take m)).length ((St.dirtyAt (s.bufs.take m)).map (.int .i64)) (by simp [Act.eval,Act.put]) (HO5.out.alloc _) (.slice (some ⟨w5.heap.size,0,none⟩) 1 1) 1 [.int .i64 y.pos] (by simp [Act.eval,Act.put]) (rd_1 (heap_alloc_new _ _) trivial) (one_i1 _) (by simp only [maxLen]; have:=Hln.out; omega) (by have:=Hln.out; omega) (by have:=Hws.out; simp; omega) ?_
       intro v7 w7 hown7 hg7 hat7
       clear hat7
       obtain ⟨A7,c7,rfl⟩:=own_sl (own_lo hown7 (Nat.zero_le _))
       have hne7:some B≠(Value.slice Av (St.dirtyAt (s.bufs.take m)).length cv).ownBlock:=fun e2=>HnB.out B e2.symm rfl
       have p1:w7.cell? ⟨B,3,none⟩=some (.slice Av (St.dirtyAt (s.bufs.take m)).length cv):=hg7.cell (q3a _) hne7
       have p2:w7.frozen? ⟨B,3,none⟩=false:=(World.frozen?_of_block (hg7.block B (by simp; omega) hne7)).trans ((World.frozen?_alloc_past _ _ _ hB5l).trans f3))
     |fail)
    all_goals
     have hbA:=((Below.refl w5.heap.size w5).alloc (Nat.le_refl _) (.cells #[.int .i64 y.pos] 3)).drew
     have hsA:(World.drew (w5.alloc (.cells #[.int .i64 y.pos] 3))).heap.size=w5.heap.size+1:=by simp
     have hc7:Chg (fun q=>w.heap.size≤q) w w7:=((Chg.of_below HB5.out).step hbA).grown hg7 (fun k hk=>.inl ((HO5.out.lt k hk).1))
     have hr7:w7.heap[B]?=some _:=((hg7.block B (by rw [hsA]; omega) hne7).trans (hbA.block _ hB5l)).trans HX5.out
     have hr8:=heap_setCell_same _ _ 3 _ _ (.slice A7 ((St.dirtyAt (s.bufs.take m)).length+1) c7) hr7
     have hc8:=hc7.setCell (p:=⟨B,3,none⟩) (.inl (by show w.heap.size≤B; omega)) (.slice A7 ((St.dirtyAt (s.bufs.take m)).length+1) c7)
     have ho8:(w7.setCell ⟨B,3,none⟩ (.slice A7 ((St.dirtyAt (s.bufs.take m)).length+1) c7)).ownsRow w.heap.size 3 1 (.slice A7 ((St.dirtyAt (s.bufs.take m)).length+1) c7) ((St.dirtyAt (s.bufs.take m)).length+1) ((St.dirtyAt (s.bufs.take m)).map (.int .i64) ++ [.int .i64 y.pos]) :=
      own_keepD hown7 (fun q hv=>Below.heap_setCell _ _ _ _ (own_ne (own_lo hown7 (Nat.zero_le _)) hr7 (by decide) q hv))
     have Hr8:=Lib.hid hr8
     have Hb8:=Lib.hid (hc8.below (B:=w.heap.size) (fun k hk=>hk) (Nat.le_refl _))
     have Ho8:=Lib.hid ho8
     clear hr8 hc8 ho8 hc7 hr7 hbA hsA hg7 hown7 hne7 p1 p2 q0 q3 q0a q3a f3
     try go_wp2_with fail
     go_roundw
     case rel =>
      have e:St.dirtyAt (s.bufs.take (m+1))=St.dirtyAt (s.bufs.take m) ++ [y.pos]:=by rw [dirtyAt_succ Hx.out,Hd.out]; simp
      refine ⟨m+1,_,by omega,by go_num,Hr8.out,?_,Hb8.out⟩
      rw [e,List.length_append,List.map_append]
      exact Ho8.out
     case measure=>simp [intOf]; omega
  ·obtain rfl:m=s.bufs.length:=by omega
   have hlt2:¬ (s.bufs.length:Int)<(s.bufs.length:Int):=by omega
   have Hd:Hid (St.dirtyAt (s.bufs.take s.bufs.length)=St.dirtyAt s.bufs):=show _=_ by rw [List.take_length]
   have c0:wr.cell? ⟨b,11,none⟩=some (.pointer none):=cell_b HB.out ((H.out.cell 11).trans (congrArg some E0.out))
   have f0:wr.frozen? ⟨b,11,none⟩=false:=(H.out.below HB.out).frozen 11
   have hbB:b≠B:=by omega
   have hrow:=heap_setCell_same _ _ 11 _ _ (.pointer (some ⟨B,0,none⟩)) ((HB.out.block _ hbl).trans H.out.row)
   have hch1:Chg (fun k=>k=b) w (wr.setCell ⟨b,11,none⟩ (.pointer (some ⟨B,0,none⟩))):=Chg.setCell (F:=fun k=>k=b) (p:=⟨b,11,none⟩) (Chg.of_below HB.out) (.inl rfl) _
   have hXB:=(heap_setCell_other wr ⟨b,11,none⟩ B (.pointer (some ⟨B,0,none⟩)) (by simpa using hbB.symm)).trans HX.out
   have hOB:(wr.setCell ⟨b,11,none⟩ (.pointer (some ⟨B,0,none⟩))).ownsRow w.heap.size 3 1 lv (St.dirtyAt s.bufs).length ((St.dirtyAt s.bufs).map (.int .i64)):=Hd.out▸own_keepD HO.out (fun q hq=>heap_setCell_other _ _ _ _ (by have:=(HO.out.lt q hq).1; simp; omega))
   obtain ⟨col',hst,hrec⟩:=H.out.asked (c:=0) (by omega) (a:=⟨3,0,d,St.dirtyAt s.bufs⟩) hch1 (by omega) hXB hOB hrow
   have hch:Chg (Fl col) w _:=H.out.chg1 hch1
   have Hst:=Lib.hid hst
   have Hrec:=Lib.hid hrec
   have Hch:=Lib.hid hch
   clear hst hrec hch hOB hXB hch1 hrow
   go_wp2_with fail
   clear c0 f0
   generalize World.setCell _ _ _=w6 at Hst Hch ⊢
   refine (serve_any col' w6 b bd N _ _ K Hst.out HIa.out HBa.out h0 hK).mono ?_
   rintro e w7 ⟨y7,rfl,hst7,hc7,_⟩
   have Hst7:=Lib.hid hst7
   have HC7:=Lib.hid (Hch.out.recol hc7 Hrec.out.grow)
   clear hst7 hc7
   go_wp2_with fail
   go_ret
   rw [He.out]
   exact ⟨col',_,rfl,Hst7.out,HC7.out,Hrec.out.old,Hrec.out.grow⟩
theorem ask_ok_1_3 (col:Nat→Nat) (w:World) (b bd N:Nat) (x:Sv) (s:St) (d:ByteArray) (K:Int) (h:StAt Ts col w b bd N x s) (hI:Inv s) (hB:Bd K s) (h0:0≤K) (hK:K≤800000000) (h7:¬ 4<d.size) (h8:d.size=0) (ha:s.askAt 1=none) :
  Calls Tryz.prog 15 #[.pointer (some ⟨b,0,none⟩),.int .i64 1,.int .i64 3,.int .i64 0,.string d] w (Ret5 Ts col w b bd N (s.ask 1 3 0 d).1 (errV (s.ask 1 3 0 d).2)):=by
 have He:=Lib.hid (ask_ok (s:=s) (client:=1) (kind:=3) (p:=0) (d:=d) (by omega) (by omega) ha)
 have HIa:Hid (Inv { s with asks:=s.asks.set 1 (some ⟨3,0,d,St.dirtyAt s.bufs⟩) }):=hI.asked (by omega) (by omega) (by omega) hI.dirtyAt_ok
 have HBa:Hid (Bd K { s with asks:=s.asks.set 1 (some ⟨3,0,d,St.dirtyAt s.bufs⟩) }):=show Bd _ _ from ⟨hB.use,hB.tag,hB.waits⟩
 have Hln:Hid (s.bufs.length≤8):=hI.len8
 obtain ⟨p0,e0,n0,_⟩:=h.ptr 1 (by omega)
 obtain rfl:=n0 ha
 obtain ⟨Ab,cb,hbv,_,_⟩:=h.bufs.form
 have c0:w.cell? ⟨b,12,none⟩=some (.pointer none):=(h.cell 12).trans (congrArg some e0)
 have c2:w.cell? ⟨b,2,none⟩=some (.slice Ab s.bufs.length cb):=(h.cell 2).trans (congrArg some hbv)
 have Hbv:=Lib.hid hbv
 have E0:=Lib.hid e0
 have H:=Lib.hid h
 have hsz:¬ (4:Int)<(d.size:Int):=by omega
 have hse:=str_no h8
 clear h hI hB ha n0 e0 h8 hbv
 have hbl:=H.out.bl
 have c1:∀ o,(w.alloc o).cell? ⟨b,2,none⟩=some (.slice Ab s.bufs.length cb):=fun o=>(World.cell?_alloc_lt _ _ _ hbl).trans c2
 obtain ⟨j0,hj0,hy0,hy1,hy2⟩:=info_parts intInfo
 go_enter Tryz.func15,Tryz.ntmps15
 go_wp2_with fail
 obtain ⟨B,hBz⟩:∃ B,w.heap.size=B:=⟨_,rfl⟩
 have hbA:=(Below.refl w.heap.size w).alloc (Nat.le_refl _) (.cells #[.int .i64 3,.int .i64 0,.string d,.slice none 0 0] 90)
 have HX0:Hid ((w.alloc (.cells #[.int .i64 3,.int .i64 0,.string d,.slice none 0 0] 90)).heap[B]?=some (.cells #[.int .i64 3,.int .i64 0,.string d,.slice none 0 0] 90 (0,0))):=show _=_ from hBz▸heap_alloc_new w _
 have HbA:=Lib.hid hbA
 rw [hBz]
 clear c0 c1 c2 hbA
 generalize World.alloc _ _=w1 at HbA HX0 ⊢
 go_loopw [80] (fun i wr=>∃ (m:Nat) (lv:Value),m≤s.bufs.length∧i=.int .i64 m∧Hid (wr.heap[B]?=some (.cells #[.int .i64 3,.int .i64 0,.string d,lv] 90 (0,0)))∧Hid (wr.ownsRow w.heap.size 3 1 lv (St.dirtyAt (s.bufs.take m)).length ((St.dirtyAt (s.bufs.take m)).map (.int .i64)))∧Hid (Below w.heap.size w wr)) (fun i _=>s.bufs.length - (intOf i).toNat)
 case atStart=>exact ⟨0,_,by omega,rfl,HX0.out,World.ownsRow_nil _ _ _ _,HbA.out⟩
 case round =>
  obtain ⟨m,lv,hm,rfl,HX,HO,HB⟩:=hrel
  by_cases hlt:m<s.bufs.length
  ·have hlt2:(m:Int)<(s.bufs.length:Int):=by omega
   have hm8:(m:Int)<8:=by have:=Hln.out; omega
   have Hbr:Hid (BufsAt (Im w col) wr (.slice Ab s.bufs.length cb) s.bufs):=Hbv.out▸H.out.bufs.below HB.out
   obtain ⟨g,off,rfl,_,hgl,hc⟩:=Hbr.out.at_ (by omega)
   have hx:s.bufs[m]?=some s.bufs[m]:=List.getElem?_eq_getElem hlt
   obtain ⟨_,k0,k1,k2,k3⟩:=hc m _ hx
   have Hx:=Lib.hid hx
   clear hx hc
   generalize s.bufs[m]=y at *
   obtain ⟨Av,cv,rfl⟩:=own_sl (own_lo HO.out (Nat.zero_le _))
   have hdl:=dirtyAt_len (s.bufs.take m)
   have hdl2:=List.length_take_le m s.bufs
   cases hd:y.dirty with
   |false =>
    have Hd:=Lib.hid hd
    rw [hd] at k2
    clear hd
    go_wp2_with fail
    clear k0 k1 k2 k3
    have hb5:=fun o=>(Below.refl wr.heap.size wr).alloc (Nat.le_refl _) o
    go_roundw
    case rel =>
     have e:St.dirtyAt (s.bufs.take (m+1))=St.dirtyAt (s.bufs.take m):=by rw [dirtyAt_succ Hx.out,Hd.out]; simp
     exact ⟨m+1,_,by omega,by go_num,((hb5 _).block _ (Array.getElem?_eq_some_iff.1 HX.out).1).trans HX.out,by rw [e]; exact own_keepD HO.out (fun q hq=>(hb5 _).block q (HO.out.lt q hq).2),HB.out.trans ((hb5 _).mono HB.out.size)⟩
    case measure=>simp [intOf]; omega
   |true =>
    have Hd:=Lib.hid hd
    rw [hd] at k2
    clear hd
    go_wp2_with fail
    obtain ⟨Q,hQ⟩:∃ Q,wr.heap.size=Q:=⟨_,rfl⟩
    have hb5:=(Below.refl wr.heap.size wr).alloc (Nat.le_refl _) (.cells #[.int .i64 y.pos,.string y.data,.bool true,.int .i64 y.used] 92)
    have hq5:=heap_alloc_new wr (.cells #[.int .i64 y.pos,.string y.data,.bool true,.int .i64 y.used] 92)
    have hBl:B<wr.heap.size:=(Array.getElem?_eq_some_iff.1 HX.out).1
    have HX5:=Lib.hid ((hb5.block _ hBl).trans HX.out)
    have HO5:=Lib.hid (own_keepD HO.out (fun q hq=>hb5.block q (HO.out.lt q hq).2))
    have HB5:=Lib.hid (HB.out.trans (hb5.mono HB.out.size))
    rw [hQ] at hq5 ⊢
    have HQ5:=Lib.hid hq5
    clear hb5 hq5 k0 k1 k2 k3
    generalize World.alloc _ _=w5 at HX5 HO5 HB5 HQ5 ⊢
    have hB5l:B<w5.heap.size:=(Array.getElem?_eq_some_iff.1 HX5.out).1
    have hQ5l:Q<w5.heap.size:=(Array.getElem?_eq_some_iff.1 HQ5.out).1
    have q3:w5.cell? ⟨B,3,none⟩=some (.slice Av (St.dirtyAt (s.bufs.take m)).length cv):=cell_of_row _ _ 3 _ _ _ HX5.out
    have f3:w5.frozen? ⟨B,3,none⟩=false:=frozen_of_row _ _ 3 _ _ HX5.out
    have q0:w5.cell? ⟨Q,0,none⟩=some (.int .i64 y.pos):=cell_of_row _ _ 0 _ _ _ HQ5.out
    have q3a:∀ o,(w5.alloc o).cell? ⟨B,3,none⟩=some (.slice Av (St.dirtyAt (s.bufs.take m)).length cv):=fun o=>(World.cell?_alloc_lt _ _ _ hB5l).trans q3
    have q0a:∀ o,(w5.alloc o).cell? ⟨Q,0,none⟩=some (.int .i64 y.pos):=fun o=>(World.cell?_alloc_lt _ _ _ hQ5l).trans q0
    have hneB:∀ q,(Value.slice Av (St.dirtyAt (s.bufs.take m)).length cv).ownBlock=some q→q≠B:=own_ne (own_lo HO5.out (Nat.zero_le _)) HX5.out (by decide)
    have HnB:=Lib.hid hneB
    have hws:w.heap.size≤w5.heap.size:=HB5.out.size
    have Hws:=Lib.hid hws
    clear hneB hws
    go_region_law (first
     |(refine step_append_rd (S:=fun _=>True) _ rfl (.tmp 90) (.tmp 93) _ rfl w.heap.size 3 j0 _ 1 8 Tryz.underlying88 hj0 hy0 hy1 hy2 rfl (by omega) (.slice Av (St.dirtyAt (s.bufs.take m)).length cv) (St.dirtyAt (s.bufs.take m)).length ((St.dirtyAt (s.bufs.take m)).map (.int .i64)) (by simp [Act.eval,Act.put]) (HO5.out.alloc _) (.slice (some ⟨w5.heap.size,0,none⟩) 1 1) 1 [.int .i64 y.pos] (by simp [Act.eval,Act.put]) (rd_1 (heap_alloc_new _ _) trivial) (one_i1 _) (by simp only [maxLen]; have:=Hln.out; omega) (by have:=Hln.out; omega) (by have:=Hws.out; simp; omega) ?_
       intro v7 w7 hown7 hg7 hat7
       clear hat7
       obtain ⟨A7,c7,rfl⟩:=own_sl (own_lo hown7 (Nat.zero_le _))
       have hne7:some B≠(Value.slice Av (St.dirtyAt (s.bufs.take m)).length cv).ownBlock:=fun e2=>HnB.out B e2.symm rfl
       have p1:w7.cell? ⟨B,3,none⟩=some (.slice Av (St.dirtyAt (s.bufs.take m)).length cv):=hg7.cell (q3a _) hne7
       have p2:w7.frozen? ⟨B,3,none⟩=false:=(World.frozen?_of_block (hg7.block B (by simp; omega) hne7)).trans ((World.frozen?_alloc_past _ _ _ hB5l).trans f3))
     |fail)
    all_goals
     have hbA:=((Below.refl w5.heap.size w5).alloc (Nat.le_refl _) (.cells #[.int .i64 y.pos] 3)).drew
     have hsA:(World.drew (w5.alloc (.cells #[.int .i64 y.pos] 3))).heap.size=w5.heap.size+1:=by simp
     have hc7:Chg (fun q=>w.heap.size≤q) w w7:=((Chg.of_below HB5.out).step hbA).grown hg7 (fun k hk=>.inl ((HO5.out.lt k hk).1))
     have hr7:w7.heap[B]?=some _:=((hg7.block B (by rw [hsA]; omega) hne7).trans (hbA.block _ hB5l)).trans HX5.out
     have hr8:=heap_setCell_same _ _ 3 _ _ (.slice A7 ((St.dirtyAt (s.bufs.take m)).length+1) c7) hr7
     have hc8:=hc7.setCell (p:=⟨B,3,none⟩) (.inl (by show w.heap.size≤B; omega)) (.slice A7 ((St.dirtyAt (s.bufs.take m)).length+1) c7)
     have ho8:(w7.setCell ⟨B,3,none⟩ (.slice A7 ((St.dirtyAt (s.bufs.take m)).length+1) c7)).ownsRow w.heap.size 3 1 (.slice A7 ((St.dirtyAt (s.bufs.take m)).length+1) c7) ((St.dirtyAt (s.bufs.take m)).length+1) ((St.dirtyAt (s.bufs.take m)).map (.int .i64) ++ [.int .i64 y.pos]) :=
      own_keepD hown7 (fun q hv=>Below.heap_setCell _ _ _ _ (own_ne (own_lo hown7 (Nat.zero_le _)) hr7 (by decide) q hv))
     have Hr8:=Lib.hid hr8
     have Hb8:=Lib.hid (hc8.below (B:=w.heap.size) (fun k hk=>hk) (Nat.le_refl _))
     have Ho8:=Lib.hid ho8
     clear hr8 hc8 ho8 hc7 hr7 hbA hsA hg7 hown7 hne7 p1 p2 q0 q3 q0a q3a f3
     try go_wp2_with fail
     go_roundw
     case rel =>
      have e:St.dirtyAt (s.bufs.take (m+1))=St.dirtyAt (s.bufs.take m) ++ [y.pos]:=by rw [dirtyAt_succ Hx.out,Hd.out]; simp
      refine ⟨m+1,_,by omega,by go_num,Hr8.out,?_,Hb8.out⟩
      rw [e,List.length_append,List.map_append]
      exact Ho8.out
     case measure=>simp [intOf]; omega
  ·obtain rfl:m=s.bufs.length:=by omega
   have hlt2:¬ (s.bufs.length:Int)<(s.bufs.length:Int):=by omega
   have Hd:Hid (St.dirtyAt (s.bufs.take s.bufs.length)=St.dirtyAt s.bufs):=show _=_ by rw [List.take_length]
   have c0:wr.cell? ⟨b,12,none⟩=some (.pointer none):=cell_b HB.out ((H.out.cell 12).trans (congrArg some E0.out))
   have f0:wr.frozen? ⟨b,12,none⟩=false:=(H.out.below HB.out).frozen 12
   have hbB:b≠B:=by omega
   have hrow:=heap_setCell_same _ _ 12 _ _ (.pointer (some ⟨B,0,none⟩)) ((HB.out.block _ hbl).trans H.out.row)
   have hch1:Chg (fun k=>k=b) w (wr.setCell ⟨b,12,none⟩ (.pointer (some ⟨B,0,none⟩))):=Chg.setCell (F:=fun k=>k=b) (p:=⟨b,12,none⟩) (Chg.of_below HB.out) (.inl rfl) _
   have hXB:=(heap_setCell_other wr ⟨b,12,none⟩ B (.pointer (some ⟨B,0,none⟩)) (by simpa using hbB.symm)).trans HX.out
   have hOB:(wr.setCell ⟨b,12,none⟩ (.pointer (some ⟨B,0,none⟩))).ownsRow w.heap.size 3 1 lv (St.dirtyAt s.bufs).length ((St.dirtyAt s.bufs).map (.int .i64)):=Hd.out▸own_keepD HO.out (fun q hq=>heap_setCell_other _ _ _ _ (by have:=(HO.out.lt q hq).1; simp; omega))
   obtain ⟨col',hst,hrec⟩:=H.out.asked (c:=1) (by omega) (a:=⟨3,0,d,St.dirtyAt s.bufs⟩) hch1 (by omega) hXB hOB hrow
   have hch:Chg (Fl col) w _:=H.out.chg1 hch1
   have Hst:=Lib.hid hst
   have Hrec:=Lib.hid hrec
   have Hch:=Lib.hid hch
   clear hst hrec hch hOB hXB hch1 hrow
   go_wp2_with fail
   clear c0 f0
   generalize World.setCell _ _ _=w6 at Hst Hch ⊢
   refine (serve_any col' w6 b bd N _ _ K Hst.out HIa.out HBa.out h0 hK).mono ?_
   rintro e w7 ⟨y7,rfl,hst7,hc7,_⟩
   have Hst7:=Lib.hid hst7
   have HC7:=Lib.hid (Hch.out.recol hc7 Hrec.out.grow)
   clear hst7 hc7
   go_wp2_with fail
   go_ret
   rw [He.out]
   exact ⟨col',_,rfl,Hst7.out,HC7.out,Hrec.out.old,Hrec.out.grow⟩
theorem ask_ok_2_3 (col:Nat→Nat) (w:World) (b bd N:Nat) (x:Sv) (s:St) (d:ByteArray) (K:Int) (h:StAt Ts col w b bd N x s) (hI:Inv s) (hB:Bd K s) (h0:0≤K) (hK:K≤800000000) (h7:¬ 4<d.size) (h8:d.size=0) (ha:s.askAt 2=none) :
  Calls Tryz.prog 15 #[.pointer (some ⟨b,0,none⟩),.int .i64 2,.int .i64 3,.int .i64 0,.string d] w (Ret5 Ts col w b bd N (s.ask 2 3 0 d).1 (errV (s.ask 2 3 0 d).2)):=by
 have He:=Lib.hid (ask_ok (s:=s) (client:=2) (kind:=3) (p:=0) (d:=d) (by omega) (by omega) ha)
 have HIa:Hid (Inv { s with asks:=s.asks.set 2 (some ⟨3,0,d,St.dirtyAt s.bufs⟩) }):=hI.asked (by omega) (by omega) (by omega) hI.dirtyAt_ok
 have HBa:Hid (Bd K { s with asks:=s.asks.set 2 (some ⟨3,0,d,St.dirtyAt s.bufs⟩) }):=show Bd _ _ from ⟨hB.use,hB.tag,hB.waits⟩
 have Hln:Hid (s.bufs.length≤8):=hI.len8
 obtain ⟨p0,e0,n0,_⟩:=h.ptr 2 (by omega)
 obtain rfl:=n0 ha
 obtain ⟨Ab,cb,hbv,_,_⟩:=h.bufs.form
 have c0:w.cell? ⟨b,13,none⟩=some (.pointer none):=(h.cell 13).trans (congrArg some e0)
 have c2:w.cell? ⟨b,2,none⟩=some (.slice Ab s.bufs.length cb):=(h.cell 2).trans (congrArg some hbv)
 have Hbv:=Lib.hid hbv
 have E0:=Lib.hid e0
 have H:=Lib.hid h
 have hsz:¬ (4:Int)<(d.size:Int):=by omega
 have hse:=str_no h8
 clear h hI hB ha n0 e0 h8 hbv
 have hbl:=H.out.bl
 have c1:∀ o,(w.alloc o).cell? ⟨b,2,none⟩=some (.slice Ab s.bufs.length cb):=fun o=>(World.cell?_alloc_lt _ _ _ hbl).trans c2
 obtain ⟨j0,hj0,hy0,hy1,hy2⟩:=info_parts intInfo
 go_enter Tryz.func15,Tryz.ntmps15
 go_wp2_with fail
 obtain ⟨B,hBz⟩:∃ B,w.heap.size=B:=⟨_,rfl⟩
 have hbA:=(Below.refl w.heap.size w).alloc (Nat.le_refl _) (.cells #[.int .i64 3,.int .i64 0,.string d,.slice none 0 0] 90)
 have HX0:Hid ((w.alloc (.cells #[.int .i64 3,.int .i64 0,.string d,.slice none 0 0] 90)).heap[B]?=some (.cells #[.int .i64 3,.int .i64 0,.string d,.slice none 0 0] 90 (0,0))):=show _=_ from hBz▸heap_alloc_new w _
 have HbA:=Lib.hid hbA
 rw [hBz]
 clear c0 c1 c2 hbA
 generalize World.alloc _ _=w1 at HbA HX0 ⊢
 go_loopw [80] (fun i wr=>∃ (m:Nat) (lv:Value),m≤s.bufs.length∧i=.int .i64 m∧Hid (wr.heap[B]?=some (.cells #[.int .i64 3,.int .i64 0,.string d,lv] 90 (0,0)))∧Hid (wr.ownsRow w.heap.size 3 1 lv (St.dirtyAt (s.bufs.take m)).length ((St.dirtyAt (s.bufs.take m)).map (.int .i64)))∧Hid (Below w.heap.size w wr)) (fun i _=>s.bufs.length - (intOf i).toNat)
 case atStart=>exact ⟨0,_,by omega,rfl,HX0.out,World.ownsRow_nil _ _ _ _,HbA.out⟩
 case round =>
  obtain ⟨m,lv,hm,rfl,HX,HO,HB⟩:=hrel
  by_cases hlt:m<s.bufs.length
  ·have hlt2:(m:Int)<(s.bufs.length:Int):=by omega
   have hm8:(m:Int)<8:=by have:=Hln.out; omega
   have Hbr:Hid (BufsAt (Im w col) wr (.slice Ab s.bufs.length cb) s.bufs):=Hbv.out▸H.out.bufs.below HB.out
   obtain ⟨g,off,rfl,_,hgl,hc⟩:=Hbr.out.at_ (by omega)
   have hx:s.bufs[m]?=some s.bufs[m]:=List.getElem?_eq_getElem hlt
   obtain ⟨_,k0,k1,k2,k3⟩:=hc m _ hx
   have Hx:=Lib.hid hx
   clear hx hc
   generalize s.bufs[m]=y at *
   obtain ⟨Av,cv,rfl⟩:=own_sl (own_lo HO.out (Nat.zero_le _))
   have hdl:=dirtyAt_len (s.bufs.take m)
   have hdl2:=List.length_take_le m s.bufs
   cases hd:y.dirty with
   |false =>
    have Hd:=Lib.hid hd
    rw [hd] at k2
    clear hd
    go_wp2_with fail
    clear k0 k1 k2 k3
    have hb5:=fun o=>(Below.refl wr.heap.size wr).alloc (Nat.le_refl _) o
    go_roundw
    case rel =>
     have e:St.dirtyAt (s.bufs.take (m+1))=St.dirtyAt (s.bufs.take m):=by rw [dirtyAt_succ Hx.out,Hd.out]; simp
     exact ⟨m+1,_,by omega,by go_num,((hb5 _).block _ (Array.getElem?_eq_some_iff.1 HX.out).1).trans HX.out,by rw [e]; exact own_keepD HO.out (fun q hq=>(hb5 _).block q (HO.out.lt q hq).2),HB.out.trans ((hb5 _).mono HB.out.size)⟩
    case measure=>simp [intOf]; omega
   |true =>
    have Hd:=Lib.hid hd
    rw [hd] at k2
    clear hd
    go_wp2_with fail
    obtain ⟨Q,hQ⟩:∃ Q,wr.heap.size=Q:=⟨_,rfl⟩
    have hb5:=(Below.refl wr.heap.size wr).alloc (Nat.le_refl _) (.cells #[.int .i64 y.pos,.string y.data,.bool true,.int .i64 y.used] 92)
    have hq5:=heap_alloc_new wr (.cells #[.int .i64 y.pos,.string y.data,.bool true,.int .i64 y.used] 92)
    have hBl:B<wr.heap.size:=(Array.getElem?_eq_some_iff.1 HX.out).1
    have HX5:=Lib.hid ((hb5.block _ hBl).trans HX.out)
    have HO5:=Lib.hid (own_keepD HO.out (fun q hq=>hb5.block q (HO.out.lt q hq).2))
    have HB5:=Lib.hid (HB.out.trans (hb5.mono HB.out.size))
    rw [hQ] at hq5 ⊢
    have HQ5:=Lib.hid hq5
    clear hb5 hq5 k0 k1 k2 k3
    generalize World.alloc _ _=w5 at HX5 HO5 HB5 HQ5 ⊢
    have hB5l:B<w5.heap.size:=(Array.getElem?_eq_some_iff.1 HX5.out).1
    have hQ5l:Q<w5.heap.size:=(Array.getElem?_eq_some_iff.1 HQ5.out).1
    have q3:w5.cell? ⟨B,3,none⟩=some (.slice Av (St.dirtyAt (s.bufs.take m)).length cv):=cell_of_row _ _ 3 _ _ _ HX5.out
    have f3:w5.frozen? ⟨B,3,none⟩=false:=frozen_of_row _ _ 3 _ _ HX5.out
    have q0:w5.cell? ⟨Q,0,none⟩=some (.int .i64 y.pos):=cell_of_row _ _ 0 _ _ _ HQ5.out
    have q3a:∀ o,(w5.alloc o).cell? ⟨B,3,none⟩=some (.slice Av (St.dirtyAt (s.bufs.take m)).length cv):=fun o=>(World.cell?_alloc_lt _ _ _ hB5l).trans q3
    have q0a:∀ o,(w5.alloc o).cell? ⟨Q,0,none⟩=some (.int .i64 y.pos):=fun o=>(World.cell?_alloc_lt _ _ _ hQ5l).trans q0
    have hneB:∀ q,(Value.slice Av (St.dirtyAt (s.bufs.take m)).length cv).ownBlock=some q→q≠B:=own_ne (own_lo HO5.out (Nat.zero_le _)) HX5.out (by decide)
    have HnB:=Lib.hid hneB
    have hws:w.heap.size≤w5.heap.size:=HB5.out.size
    have Hws:=Lib.hid hws
    clear hneB hws
    go_region_law (first
     |(refine step_append_rd (S:=fun _=>True) _ rfl (.tmp 90) (.tmp 93) _ rfl w.heap.size 3 j0 _ 1 8 Tryz.underlying88 hj0 hy0 hy1 hy2 rfl (by omega) (.slice Av (St.dirtyAt (s.bufs.take m)).length cv) (St.dirtyAt (s.bufs.take m)).length ((St.dirtyAt (s.bufs.take m)).map (.int .i64)) (by simp [Act.eval,Act.put]) (HO5.out.alloc _) (.slice (some ⟨w5.heap.size,0,none⟩) 1 1) 1 [.int .i64 y.pos] (by simp [Act.eval,Act.put]) (rd_1 (heap_alloc_new _ _) trivial) (one_i1 _) (by simp only [maxLen]; have:=Hln.out; omega) (by have:=Hln.out; omega) (by have:=Hws.out; simp; omega) ?_
       intro v7 w7 hown7 hg7 hat7
       clear hat7
       obtain ⟨A7,c7,rfl⟩:=own_sl (own_lo hown7 (Nat.zero_le _))
       have hne7:some B≠(Value.slice Av (St.dirtyAt (s.bufs.take m)).length cv).ownBlock:=fun e2=>HnB.out B e2.symm rfl
       have p1:w7.cell? ⟨B,3,none⟩=some (.slice Av (St.dirtyAt (s.bufs.take m)).length cv):=hg7.cell (q3a _) hne7
       have p2:w7.frozen? ⟨B,3,none⟩=false:=(World.frozen?_of_block (hg7.block B (by simp; omega) hne7)).trans ((World.frozen?_alloc_past _ _ _ hB5l).trans f3))
     |fail)
    all_goals
     have hbA:=((Below.refl w5.heap.size w5).alloc (Nat.le_refl _) (.cells #[.int .i64 y.pos] 3)).drew
     have hsA:(World.drew (w5.alloc (.cells #[.int .i64 y.pos] 3))).heap.size=w5.heap.size+1:=by simp
     have hc7:Chg (fun q=>w.heap.size≤q) w w7:=((Chg.of_below HB5.out).step hbA).grown hg7 (fun k hk=>.inl ((HO5.out.lt k hk).1))
     have hr7:w7.heap[B]?=some _:=((hg7.block B (by rw [hsA]; omega) hne7).trans (hbA.block _ hB5l)).trans HX5.out
     have hr8:=heap_setCell_same _ _ 3 _ _ (.slice A7 ((St.dirtyAt (s.bufs.take m)).length+1) c7) hr7
     have hc8:=hc7.setCell (p:=⟨B,3,none⟩) (.inl (by show w.heap.size≤B; omega)) (.slice A7 ((St.dirtyAt (s.bufs.take m)).length+1) c7)
     have ho8:(w7.setCell ⟨B,3,none⟩ (.slice A7 ((St.dirtyAt (s.bufs.take m)).length+1) c7)).ownsRow w.heap.size 3 1 (.slice A7 ((St.dirtyAt (s.bufs.take m)).length+1) c7) ((St.dirtyAt (s.bufs.take m)).length+1) ((St.dirtyAt (s.bufs.take m)).map (.int .i64) ++ [.int .i64 y.pos]) :=
      own_keepD hown7 (fun q hv=>Below.heap_setCell _ _ _ _ (own_ne (own_lo hown7 (Nat.zero_le _)) hr7 (by decide) q hv))
     have Hr8:=Lib.hid hr8
     have Hb8:=Lib.hid (hc8.below (B:=w.heap.size) (fun k hk=>hk) (Nat.le_refl _))
     have Ho8:=Lib.hid ho8
     clear hr8 hc8 ho8 hc7 hr7 hbA hsA hg7 hown7 hne7 p1 p2 q0 q3 q0a q3a f3
     try go_wp2_with fail
     go_roundw
     case rel =>
      have e:St.dirtyAt (s.bufs.take (m+1))=St.dirtyAt (s.bufs.take m) ++ [y.pos]:=by rw [dirtyAt_succ Hx.out,Hd.out]; simp
      refine ⟨m+1,_,by omega,by go_num,Hr8.out,?_,Hb8.out⟩
      rw [e,List.length_append,List.map_append]
      exact Ho8.out
     case measure=>simp [intOf]; omega
  ·obtain rfl:m=s.bufs.length:=by omega
   have hlt2:¬ (s.bufs.length:Int)<(s.bufs.length:Int):=by omega
   have Hd:Hid (St.dirtyAt (s.bufs.take s.bufs.length)=St.dirtyAt s.bufs):=show _=_ by rw [List.take_length]
   have c0:wr.cell? ⟨b,13,none⟩=some (.pointer none):=cell_b HB.out ((H.out.cell 13).trans (congrArg some E0.out))
   have f0:wr.frozen? ⟨b,13,none⟩=false:=(H.out.below HB.out).frozen 13
   have hbB:b≠B:=by omega
   have hrow:=heap_setCell_same _ _ 13 _ _ (.pointer (some ⟨B,0,none⟩)) ((HB.out.block _ hbl).trans H.out.row)
   have hch1:Chg (fun k=>k=b) w (wr.setCell ⟨b,13,none⟩ (.pointer (some ⟨B,0,none⟩))):=Chg.setCell (F:=fun k=>k=b) (p:=⟨b,13,none⟩) (Chg.of_below HB.out) (.inl rfl) _
   have hXB:=(heap_setCell_other wr ⟨b,13,none⟩ B (.pointer (some ⟨B,0,none⟩)) (by simpa using hbB.symm)).trans HX.out
   have hOB:(wr.setCell ⟨b,13,none⟩ (.pointer (some ⟨B,0,none⟩))).ownsRow w.heap.size 3 1 lv (St.dirtyAt s.bufs).length ((St.dirtyAt s.bufs).map (.int .i64)):=Hd.out▸own_keepD HO.out (fun q hq=>heap_setCell_other _ _ _ _ (by have:=(HO.out.lt q hq).1; simp; omega))
   obtain ⟨col',hst,hrec⟩:=H.out.asked (c:=2) (by omega) (a:=⟨3,0,d,St.dirtyAt s.bufs⟩) hch1 (by omega) hXB hOB hrow
   have hch:Chg (Fl col) w _:=H.out.chg1 hch1
   have Hst:=Lib.hid hst
   have Hrec:=Lib.hid hrec
   have Hch:=Lib.hid hch
   clear hst hrec hch hOB hXB hch1 hrow
   go_wp2_with fail
   clear c0 f0
   generalize World.setCell _ _ _=w6 at Hst Hch ⊢
   refine (serve_any col' w6 b bd N _ _ K Hst.out HIa.out HBa.out h0 hK).mono ?_
   rintro e w7 ⟨y7,rfl,hst7,hc7,_⟩
   have Hst7:=Lib.hid hst7
   have HC7:=Lib.hid (Hch.out.recol hc7 Hrec.out.grow)
   clear hst7 hc7
   go_wp2_with fail
   go_ret
   rw [He.out]
   exact ⟨col',_,rfl,Hst7.out,HC7.out,Hrec.out.old,Hrec.out.grow⟩
theorem ask_any (col:Nat→Nat) (w:World) (b bd N:Nat) (x:Sv) (s:St) (client kind p:Int) (d:ByteArray) (K:Int) (h:StAt Ts col w b bd N x s) (hI:Inv s) (hB:Bd K s) (h0:0≤K) (hK:K≤800000000) :
  Calls Tryz.prog 15 #[.pointer (some ⟨b,0,none⟩),.int .i64 client,.int .i64 kind,.int .i64 p,.string d] w (Ret5 Ts col w b bd N (s.ask client kind p d).1 (errV (s.ask client kind p d).2)):=by
 by_cases h1:client<0
 ·exact ask_s1 col w b bd N x s client kind p d h h1
 by_cases h2:3≤client
 ·exact ask_s2 col w b bd N x s client kind p d h h1 h2
 by_cases h3:kind<1
 ·exact ask_s3 col w b bd N x s client kind p d h h1 h2 h3
 by_cases h4:3<kind
 ·exact ask_s4 col w b bd N x s client kind p d h h1 h2 h3 h4
 by_cases h5:p<0
 ·exact ask_b1 col w b bd N x s client kind p d h h1 h2 h3 h4 h5
 by_cases h6:32≤p
 ·exact ask_b2 col w b bd N x s client kind p d h h1 h2 h3 h4 h5 h6
 by_cases h7:4<d.size
 ·exact ask_b3 col w b bd N x s client kind p d h h1 h2 h3 h4 h5 h6 h7
 obtain rfl | rfl | rfl:kind=1∨kind=2∨kind=3:=by omega
 ·by_cases h8:d.size=0
  rotate_left
  ·exact ask_b6 col w b bd N x s client p d h h1 h2 h5 h6 h7 h8
  obtain rfl | rfl | rfl:client=0∨client=1∨client=2:=by omega
  ·cases ha:s.askAt 0 with
   |some a=>exact ask_busy_0_1 col w b bd N x s p d a h h5 h6 h7 h8 ha
   |none=>exact ask_ok_0_1 col w b bd N x s p d K h hI hB h0 hK h5 h6 h7 h8 ha
  ·cases ha:s.askAt 1 with
   |some a=>exact ask_busy_1_1 col w b bd N x s p d a h h5 h6 h7 h8 ha
   |none=>exact ask_ok_1_1 col w b bd N x s p d K h hI hB h0 hK h5 h6 h7 h8 ha
  ·cases ha:s.askAt 2 with
   |some a=>exact ask_busy_2_1 col w b bd N x s p d a h h5 h6 h7 h8 ha
   |none=>exact ask_ok_2_1 col w b bd N x s p d K h hI hB h0 hK h5 h6 h7 h8 ha
 ·obtain rfl | rfl | rfl:client=0∨client=1∨client=2:=by omega
  ·cases ha:s.askAt 0 with
   |some a=>exact ask_busy_0_2 col w b bd N x s p d a h h5 h6 h7 ha
   |none=>exact ask_ok_0_2 col w b bd N x s p d K h hI hB h0 hK h5 h6 h7 ha
  ·cases ha:s.askAt 1 with
   |some a=>exact ask_busy_1_2 col w b bd N x s p d a h h5 h6 h7 ha
   |none=>exact ask_ok_1_2 col w b bd N x s p d K h hI hB h0 hK h5 h6 h7 ha
  ·cases ha:s.askAt 2 with
   |some a=>exact ask_busy_2_2 col w b bd N x s p d a h h5 h6 h7 ha
   |none=>exact ask_ok_2_2 col w b bd N x s p d K h hI hB h0 hK h5 h6 h7 ha
 ·by_cases h9:p=0
  rotate_left
  ·exact ask_b4 col w b bd N x s client 3 p d h h1 h2 h3 h4 h5 h6 h7 rfl h9
  by_cases h8:d.size=0
  rotate_left
  ·exact ask_b5 col w b bd N x s client p d h h1 h2 h5 h6 h7 h9 h8
  subst h9
  obtain rfl | rfl | rfl:client=0∨client=1∨client=2:=by omega
  ·cases ha:s.askAt 0 with
   |some a=>exact ask_busy_0_3 col w b bd N x s d a h h7 h8 ha
   |none=>exact ask_ok_0_3 col w b bd N x s d K h hI hB h0 hK h7 h8 ha
  ·cases ha:s.askAt 1 with
   |some a=>exact ask_busy_1_3 col w b bd N x s d a h h7 h8 ha
   |none=>exact ask_ok_1_3 col w b bd N x s d K h hI hB h0 hK h7 h8 ha
  ·cases ha:s.askAt 2 with
   |some a=>exact ask_busy_2_3 col w b bd N x s d a h h7 h8 ha
   |none=>exact ask_ok_2_3 col w b bd N x s d K h hI hB h0 hK h7 h8 ha
end Go.Proofs.YtlomdfbnicbceaaGreat
