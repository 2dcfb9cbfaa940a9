/- Ask: a sync waits for what is dirty; Ask, whatever is asked. -/
import Derived.Test.YtagndjihiklmiaaGreatDoorQ23
set_option linter.unusedSimpArgs false
set_option linter.unusedVariables false
set_option maxRecDepth 100000
set_option maxHeartbeats 8000000
namespace Go.Proofs.YtagndjihiklmiaaGreatDoor
open Go.RowKit Go.Sort
theorem dirtyAt_succ {l:List Bf} {m:Nat} {x:Bf} (h:l[m]?=some x):St.dirtyAt (l.take (m+1))=St.dirtyAt (l.take m) ++ (if x.dirty then [x.pos] else []):=by
 unfold St.dirtyAt;rw [List.take_add_one,h,List.filter_append,List.map_append];simp [List.filter_cons]
 cases x.dirty <;> rfl
theorem dirtyAt_len (l:List Bf):(St.dirtyAt l).length≤l.length:=by
 unfold St.dirtyAt;rw [List.length_map]; exact List.length_filter_le _ _
theorem one_i1 (n:Int):∀ u ∈ [Value.int .i64 n],u.oneCell'=true:=by
 intro u hu; simp at hu; subst hu; rfl
theorem ask_ok3 (col:Nat→Nat) (w:World) (b bd N:Nat) (x:Sv) (s:St) (c:Nat) (hc:c<3) (d:ByteArray) (K:Int) (h:StAt Ts col w b bd N x s) (hI:Inv s) (hB:Bd K s) (h0:0≤K) (hK:K≤800000000) (h7:¬ 4<d.size) (h8:d.size=0) (ha:s.askAt c=none) :
  Calls Tryz.prog 42 #[.pointer (some ⟨b,0,none⟩),.int .i64 (c:Int),.int .i64 3,.int .i64 0,.string d] w (Ret5 Ts col w b bd N (s.ask (c:Int) 3 0 d).1 (errV (s.ask (c:Int) 3 0 d).2)):=by
 have he:=ask_ok (s:=s) (client:=(c:Int)) (kind:=3) (p:=0) (d:=d) (by omega) (by omega) (by rw [Int.toNat_natCast,ha]);rw [Int.toNat_natCast,if_pos rfl] at he;have He:=Lib.hid he;clear he;have hc0:¬ (c:Int)<0:=by omega
 have hc3:¬ 3≤(c:Int):=by omega
 have HIa:Hid (Inv { s with asks:=s.asks.set c (some ⟨3,0,d,St.dirtyAt s.bufs⟩) }):=hI.asked (by omega) (by omega) (by omega) hI.dirtyAt_ok;have HBa:Hid (Bd K { s with asks:=s.asks.set c (some ⟨3,0,d,St.dirtyAt s.bufs⟩) }):=show Bd _ _ from ⟨hB.use,hB.tag,hB.waits⟩;have Hln:Hid (s.bufs.length≤8):=hI.len8;obtain ⟨p0,e0,n0,_⟩:=h.ptr c hc;obtain rfl:=n0 ha;obtain ⟨Ab,cb,hbv,_,_⟩:=h.bufs.form;have c0:w.cell? ⟨b,11+c,none⟩=some (.pointer none):=(h.cellA hc).trans (congrArg some e0);have c2:w.cell? ⟨b,2,none⟩=some (.slice Ab s.bufs.length cb):=(h.cell 2).trans (congrArg some hbv);have Hbv:=Lib.hid hbv;have E0:=Lib.hid e0;have H:=Lib.hid h;have hsz:¬ (4:Int)<(d.size:Int):=by omega
 have hse:=str_no h8;clear h hI hB ha n0 e0 h8 hbv;have hbl:=H.out.bl;have c1:∀ o,(w.alloc o).cell? ⟨b,2,none⟩=some (.slice Ab s.bufs.length cb):=fun o=>(World.cell?_alloc_lt _ _ _ hbl).trans c2
 obtain ⟨j0,hj0,hy0,hy1,hy2⟩:=info_parts intInfo;go_enter Tryz.func42,Tryz.ntmps42;go_wp2_with fail
 obtain ⟨B,hBz⟩:∃ B,w.heap.size=B:=⟨_,rfl⟩
 have hbA:=(Below.refl w.heap.size w).alloc (Nat.le_refl _) (.cells #[.int .i64 3,.int .i64 0,.string d,.slice none 0 0] 152);have HX0:Hid ((w.alloc (.cells #[.int .i64 3,.int .i64 0,.string d,.slice none 0 0] 152)).heap[B]?=some (.cells #[.int .i64 3,.int .i64 0,.string d,.slice none 0 0] 152 (0,0))):=show _=_ from hBz▸heap_alloc_new w _;have HbA:=Lib.hid hbA;rw [hBz];clear c0 c1 c2 hbA;generalize World.alloc _ _=w1 at HbA HX0 ⊢;go_loopw [80] (fun i wr=>∃ (m:Nat) (lv:Value),m≤s.bufs.length∧i=.int .i64 m∧Hid (wr.heap[B]?=some (.cells #[.int .i64 3,.int .i64 0,.string d,lv] 152 (0,0)))∧Hid (wr.ownsRow w.heap.size 3 1 lv (St.dirtyAt (s.bufs.take m)).length ((St.dirtyAt (s.bufs.take m)).map (.int .i64)))∧Hid (Below w.heap.size w wr)) (fun i _=>s.bufs.length - (intOf i).toNat)
 case atStart=>exact ⟨0,_,by omega,rfl,HX0.out,World.ownsRow_nil _ _ _ _,HbA.out⟩
 case round =>
  obtain ⟨m,lv,hm,rfl,HX,HO,HB⟩:=hrel;by_cases hlt:m<s.bufs.length
  ·have hlt2:(m:Int)<(s.bufs.length:Int):=by omega
   have hm8:(m:Int)<8:=by have:=Hln.out; omega
   have Hbr:Hid (BufsAt (Im w col) wr (.slice Ab s.bufs.length cb) s.bufs):=Hbv.out▸H.out.bufs.below HB.out;obtain ⟨g,off,rfl,_,hgl,hc⟩:=Hbr.out.at_ (by omega);have hx:s.bufs[m]?=some s.bufs[m]:=List.getElem?_eq_getElem hlt;obtain ⟨_,k0,k1,k2,k3⟩:=hc m _ hx;have Hx:=Lib.hid hx;clear hx hc;generalize s.bufs[m]=y at *;obtain ⟨Av,cv,rfl⟩:=own_sl (own_lo HO.out (Nat.zero_le _));have hdl:=dirtyAt_len (s.bufs.take m);have hdl2:=List.length_take_le m s.bufs
   cases hd:y.dirty with
   |false =>
    have Hd:=Lib.hid hd;rw [hd] at k2;clear hd;go_wp2_with fail;clear k0 k1 k2 k3;have hb5:=fun o=>(Below.refl wr.heap.size wr).alloc (Nat.le_refl _) o
    go_roundw
    case rel =>
     have e:St.dirtyAt (s.bufs.take (m+1))=St.dirtyAt (s.bufs.take m):=by rw [dirtyAt_succ Hx.out,Hd.out]; simp
     exact ⟨m+1,_,by omega,by go_num,((hb5 _).block _ (Array.getElem?_eq_some_iff.1 HX.out).1).trans HX.out,by rw [e]; exact own_keepD HO.out (fun q hq=>(hb5 _).block q (HO.out.lt q hq).2),HB.out.trans ((hb5 _).mono HB.out.size)⟩
    case measure=>simp [intOf]; omega
   |true =>
    have Hd:=Lib.hid hd;rw [hd] at k2;clear hd;go_wp2_with fail
    obtain ⟨Q,hQ⟩:∃ Q,wr.heap.size=Q:=⟨_,rfl⟩
    have hb5:=(Below.refl wr.heap.size wr).alloc (Nat.le_refl _) (.cells #[.int .i64 y.pos,.string y.data,.bool true,.int .i64 y.used] 107);have hq5:=heap_alloc_new wr (.cells #[.int .i64 y.pos,.string y.data,.bool true,.int .i64 y.used] 107);have hBl:B<wr.heap.size:=(Array.getElem?_eq_some_iff.1 HX.out).1;have HX5:=Lib.hid ((hb5.block _ hBl).trans HX.out);have HO5:=Lib.hid (own_keepD HO.out (fun q hq=>hb5.block q (HO.out.lt q hq).2));have HB5:=Lib.hid (HB.out.trans (hb5.mono HB.out.size));rw [hQ] at hq5 ⊢;have HQ5:=Lib.hid hq5;clear hb5 hq5 k0 k1 k2 k3;generalize World.alloc _ _=w5 at HX5 HO5 HB5 HQ5 ⊢;have hB5l:B<w5.heap.size:=(Array.getElem?_eq_some_iff.1 HX5.out).1;have hQ5l:Q<w5.heap.size:=(Array.getElem?_eq_some_iff.1 HQ5.out).1;have q3:w5.cell? ⟨B,3,none⟩=some (.slice Av (St.dirtyAt (s.bufs.take m)).length cv):=cell_of_row _ _ 3 _ _ _ HX5.out;have f3:w5.frozen? ⟨B,3,none⟩=false:=frozen_of_row _ _ 3 _ _ HX5.out;have q0:w5.cell? ⟨Q,0,none⟩=some (.int .i64 y.pos):=cell_of_row _ _ 0 _ _ _ HQ5.out;have q3a:∀ o,(w5.alloc o).cell? ⟨B,3,none⟩=some (.slice Av (St.dirtyAt (s.bufs.take m)).length cv):=fun o=>(World.cell?_alloc_lt _ _ _ hB5l).trans q3
    have q0a:∀ o,(w5.alloc o).cell? ⟨Q,0,none⟩=some (.int .i64 y.pos):=fun o=>(World.cell?_alloc_lt _ _ _ hQ5l).trans q0
    have hneB:∀ q,(Value.slice Av (St.dirtyAt (s.bufs.take m)).length cv).ownBlock=some q→q≠B:=own_ne (own_lo HO5.out (Nat.zero_le _)) HX5.out (by decide);have HnB:=Lib.hid hneB;have hws:w.heap.size≤w5.heap.size:=HB5.out.size;have Hws:=Lib.hid hws;clear hneB hws
    go_region_law (first
     |(refine step_append_rd (S:=fun _=>True) _ rfl (.tmp 90) (.tmp 93) _ rfl w.heap.size 3 j0 _ 1 8 Tryz.underlying103 hj0 hy0 hy1 hy2 rfl (by omega) (.slice Av (St.dirtyAt (s.bufs.take m)).length cv) (St.dirtyAt (s.bufs.take m)).length ((St.dirtyAt (s.bufs.take m)).map (.int .i64)) (by simp [Act.eval,Act.put]) (HO5.out.alloc _) (.slice (some ⟨w5.heap.size,0,none⟩) 1 1) 1 [.int .i64 y.pos] (by simp [Act.eval,Act.put]) (rd_1 (heap_alloc_new _ _) trivial) (one_i1 _) (by simp only [maxLen]; have:=Hln.out; omega) (by have:=Hln.out; omega) (by have:=Hws.out; simp; omega) ?_
       intro v7 w7 hown7 hg7 hat7;clear hat7;obtain ⟨A7,c7,rfl⟩:=own_sl (own_lo hown7 (Nat.zero_le _));have hne7:some B≠(Value.slice Av (St.dirtyAt (s.bufs.take m)).length cv).ownBlock:=fun e2=>HnB.out B e2.symm rfl
       have p1:w7.cell? ⟨B,3,none⟩=some (.slice Av (St.dirtyAt (s.bufs.take m)).length cv):=hg7.cell (q3a _) hne7
       have p2:w7.frozen? ⟨B,3,none⟩=false:=(World.frozen?_of_block (hg7.block B (by simp; omega) hne7)).trans ((World.frozen?_alloc_past _ _ _ hB5l).trans f3))
     |fail)
    all_goals
     have hbA:=((Below.refl w5.heap.size w5).alloc (Nat.le_refl _) (.cells #[.int .i64 y.pos] 3)).drew;have hsA:(World.drew (w5.alloc (.cells #[.int .i64 y.pos] 3))).heap.size=w5.heap.size+1:=by simp
     have hc7:Chg (fun q=>w.heap.size≤q) w w7:=((Chg.of_below HB5.out).step hbA).grown hg7 (fun k hk=>.inl ((HO5.out.lt k hk).1));have hr7:w7.heap[B]?=some _:=((hg7.block B (by rw [hsA]; omega) hne7).trans (hbA.block _ hB5l)).trans HX5.out;have hr8:=heap_setCell_same _ _ 3 _ _ (.slice A7 ((St.dirtyAt (s.bufs.take m)).length+1) c7) hr7;have hc8:=hc7.setCell (p:=⟨B,3,none⟩) (.inl (by show w.heap.size≤B; omega)) (.slice A7 ((St.dirtyAt (s.bufs.take m)).length+1) c7)
     have ho8:(w7.setCell ⟨B,3,none⟩ (.slice A7 ((St.dirtyAt (s.bufs.take m)).length+1) c7)).ownsRow w.heap.size 3 1 (.slice A7 ((St.dirtyAt (s.bufs.take m)).length+1) c7) ((St.dirtyAt (s.bufs.take m)).length+1) ((St.dirtyAt (s.bufs.take m)).map (.int .i64) ++ [.int .i64 y.pos]) :=
      own_keepD hown7 (fun q hv=>Below.heap_setCell _ _ _ _ (own_ne (own_lo hown7 (Nat.zero_le _)) hr7 (by decide) q hv))
     have Hr8:=Lib.hid hr8;have Hb8:=Lib.hid (hc8.below (B:=w.heap.size) (fun k hk=>hk) (Nat.le_refl _));have Ho8:=Lib.hid ho8;clear hr8 hc8 ho8 hc7 hr7 hbA hsA hg7 hown7 hne7 p1 p2 q0 q3 q0a q3a f3;try go_wp2_with fail
     go_roundw
     case rel =>
      have e:St.dirtyAt (s.bufs.take (m+1))=St.dirtyAt (s.bufs.take m) ++ [y.pos]:=by rw [dirtyAt_succ Hx.out,Hd.out]; simp
      refine ⟨m+1,_,by omega,by go_num,Hr8.out,?_,Hb8.out⟩;rw [e,List.length_append,List.map_append];exact Ho8.out
     case measure=>simp [intOf]; omega
  ·obtain rfl:m=s.bufs.length:=by omega
   have hlt2:¬ (s.bufs.length:Int)<(s.bufs.length:Int):=by omega
   have Hd:Hid (St.dirtyAt (s.bufs.take s.bufs.length)=St.dirtyAt s.bufs):=show _=_ by rw [List.take_length]
   have c0:wr.cell? ⟨b,11+c,none⟩=some (.pointer none):=cell_b HB.out ((H.out.cellA hc).trans (congrArg some E0.out));have f0:wr.frozen? ⟨b,11+c,none⟩=false:=(H.out.below HB.out).frozen (11+c);have hbB:b≠B:=by omega
   have hrow:=heap_setCell_same _ _ (11+c) _ _ (.pointer (some ⟨B,0,none⟩)) ((HB.out.block _ hbl).trans H.out.row);rw [row_put x s bd c _ hc (s.asks.set c (some ⟨3,0,d,St.dirtyAt s.bufs⟩))] at hrow;have hch1:Chg (fun k=>k=b) w (wr.setCell ⟨b,11+c,none⟩ (.pointer (some ⟨B,0,none⟩))):=Chg.setCell (F:=fun k=>k=b) (p:=⟨b,11+c,none⟩) (Chg.of_below HB.out) (.inl rfl) _;have hXB:=(heap_setCell_other wr ⟨b,11+c,none⟩ B (.pointer (some ⟨B,0,none⟩)) (by simpa using hbB.symm)).trans HX.out;have hOB:(wr.setCell ⟨b,11+c,none⟩ (.pointer (some ⟨B,0,none⟩))).ownsRow w.heap.size 3 1 lv (St.dirtyAt s.bufs).length ((St.dirtyAt s.bufs).map (.int .i64)):=Hd.out▸own_keepD HO.out (fun q hq=>heap_setCell_other _ _ _ _ (by have:=(HO.out.lt q hq).1; simp; omega));obtain ⟨col',hst,hrec⟩:=H.out.asked (c:=c) hc (a:=⟨3,0,d,St.dirtyAt s.bufs⟩) hch1 (by omega) hXB hOB hrow;have hch:Chg (Fl col) w _:=H.out.chg1 hch1;have Hst:=Lib.hid hst;have Hrec:=Lib.hid hrec;have Hch:=Lib.hid hch;clear hst hrec hch hOB hXB hch1 hrow;go_wp2_with fail;clear c0 f0;generalize World.setCell _ _ _=w6 at Hst Hch ⊢;refine (serve_any col' w6 b bd N _ _ K Hst.out HIa.out HBa.out h0 hK).mono ?_;rintro e w7 ⟨y7,rfl,hst7,hc7,_⟩;have Hst7:=Lib.hid hst7;have HC7:=Lib.hid (Hch.out.recol hc7 Hrec.out.grow);clear hst7 hc7;go_wp2_with fail;go_ret;rw [He.out];exact ⟨col',_,rfl,Hst7.out,HC7.out,Hrec.out.old,Hrec.out.grow⟩
theorem ask_any (col:Nat→Nat) (w:World) (b bd N:Nat) (x:Sv) (s:St) (client kind p:Int) (d:ByteArray) (K:Int) (h:StAt Ts col w b bd N x s) (hI:Inv s) (hB:Bd K s) (h0:0≤K) (hK:K≤800000000) :
  Calls Tryz.prog 42 #[.pointer (some ⟨b,0,none⟩),.int .i64 client,.int .i64 kind,.int .i64 p,.string d] w (Ret5 Ts col w b bd N (s.ask client kind p d).1 (errV (s.ask client kind p d).2)):=by
 by_cases hs:client<0∨3≤client∨kind<1∨3<kind
 ·exact ask_no col w b bd N x s client kind p d 3 h (ask_shape hs) (.inl ⟨rfl,by omega⟩)
 by_cases hb:p<0∨32≤p∨4<d.size∨(kind=3∧p≠0)∨(kind≠2∧d.size≠0)
 ·exact ask_no col w b bd N x s client kind p d 1 h (ask_bound hs hb) (.inr ⟨rfl,by omega,by omega,by omega,by omega,by omega⟩)
 obtain ⟨c,rfl⟩:∃ c:Nat,client=c:=⟨client.toNat,by omega⟩
 have hc:c<3:=by omega
 obtain ⟨p0,ep,hn,hq⟩:=h.ptr c hc
 cases ho:s.askAt c with
 |some a =>
  obtain ⟨ba,rfl⟩:=hq a ho;exact ask_busy1 col w b bd N x s kind p d c ba h (by omega) ⟨by omega,by omega,by omega,by omega⟩ ((h.cellA hc).trans (congrArg some ep)) (ask_busy hs hb (by rw [Int.toNat_natCast,ho]; rfl))
 |none =>
  by_cases h3:kind=3
  ·subst h3
   obtain rfl:p=0:=by omega
   exact ask_ok3 col w b bd N x s c hc d K h hI hB h0 hK (by omega) (by omega) ho
  ·exact ask_ok12 col w b bd N x s kind p d c K h hI hB h0 hK hc (by omega) (by omega) (by omega) (by omega) ho
end Go.Proofs.YtagndjihiklmiaaGreatDoor
namespace Go.Proofs.YtagndjihiklmiaaGreatDoor
open Go.RowKit Go.Sort
theorem wrong_start {col:Nat→Nat} {w:World} {b bd N:Nat} {x:Sv} {s:St} (h:StAt Ts col w b bd N x s) (O:Obj) :
  (StAt Ts col ((w.alloc O).setCell ⟨b,20,none⟩ (.bool true)) b bd N x { s with dead:=true }∧Chg (fun k=>k=b) w ((w.alloc O).setCell ⟨b,20,none⟩ (.bool true))∧((w.alloc O).setCell ⟨b,20,none⟩ (.bool true)).heap[w.heap.size]?=some O)
  ∧ (StAt Ts col (w.alloc O) b bd N x s∧Chg (fun k=>k=b) w (w.alloc O)∧(w.alloc O).heap[w.heap.size]?=some O):=by
 have hb:=(Below.refl w.heap.size w).alloc (Nat.le_refl _) O;have h1:=h.below hb;have hO:(w.alloc O).heap[w.heap.size]?=some O:=heap_alloc_new w _;have hS:=(Same1.refl (b:=b) (w:=w.alloc O)).setCell 20 (.bool true);have hbl:=h.bl;refine ⟨⟨h1.deadd hS (n:=true) (heap_setCell_same _ _ 20 _ _ _ h1.row),(Chg.of_below hb).two (hS.chg rfl),(hS.block _ (by omega)).trans hO⟩,h1,Chg.of_below hb,hO⟩
theorem wrong1_hit {s:St} {c:Nat} {a:Ak} {r:Rq} (h:s.askAt c=some a) (hw:r.write=false) (hk:a.kind=1) (hp:hasB r.lo r.many a.pos=true):St.wrong1 r s c=s.answer c noB 8:=by unfold St.wrong1; rw [h]; simp [hk,hp,hw]
theorem wrong1_miss {s:St} {c:Nat} {a:Ak} {r:Rq} (h:s.askAt c=some a) (hn:¬ (r.write=false∧a.kind=1∧hasB r.lo r.many a.pos=true)):St.wrong1 r s c=s:=by unfold St.wrong1; rw [h]; exact if_neg hn
def wrongN (r:Rq) (s:St):Nat→St
 |0=>s
 |n+1=>St.wrong1 r (wrongN r s n) n
theorem wrongN_3 (r:Rq) (s:St):wrongN r { s with dead:=s.dead || r.write } 3=s.wrong r:=rfl
theorem wrongN_ge (r:Rq) (s:St):∀ (n j:Nat),n≤j→(wrongN r s n).askAt j=s.askAt j
 |0,_,_=>rfl
 |n+1,j,h=>by rw [wrongN,wrong1_ne _ (by omega),wrongN_ge r s n j (by omega)]
theorem wrong1_nn (r:Rq) (s:St) (c:Nat) {j:Nat} (h:s.askAt j=none):(St.wrong1 r s c).askAt j=none:=by
 by_cases hj:j=c
 ·subst hj; rw [wrong1_none h]; exact h
 ·rw [wrong1_ne s hj]; exact h
theorem wrongN_nn (r:Rq) (s:St):∀ (n j:Nat),s.askAt j=none→(wrongN r s n).askAt j=none
 |0,_,h=>h
 |n+1,j,h=>by rw [wrongN]; exact wrong1_nn _ _ _ (wrongN_nn r s n j h)
theorem wrong_b (wb:Bool) (col:Nat→Nat) (w:World) (b bd N:Nat) (x:Sv) (s:St) (r:Rq) (hw:r.write=wb) (Ad At:Option Addr) (cd ct:Nat) (h:StAt Ts col w b bd N x s) (hI:Inv s) (hr:0≤r.lo∧r.lo≤40) :
  Calls Tryz.prog 90 #[.pointer (some ⟨b,0,none⟩),.agg #[.bool wb,.int .i64 r.lo,.int .i64 r.many,.slice Ad r.data.length cd,.slice At r.tags.length ct,.int .i64 r.born]] w (Ret2 Ts col w b bd N x (s.wrong r) (.tuple #[])):=by
 obtain ⟨O,hO⟩:∃ O,Obj.cells #[.bool wb,.int .i64 r.lo,.int .i64 r.many,.slice Ad r.data.length cd,.slice At r.tags.length ct,.int .i64 r.born] 117 (0,0)=O:=⟨_,rfl⟩
 obtain ⟨P,hR,hP⟩:=h.ptrs;have hbl:=h.bl;have hb1:=fun O=>(Below.refl w.heap.size w).alloc (Nat.le_refl _) O
 have c20:∀ O,(w.alloc O).cell? ⟨b,20,none⟩=some (.bool s.dead):=fun O=>(h.below (hb1 O)).cell 20
 have f20:∀ O,(w.alloc O).frozen? ⟨b,20,none⟩=false:=fun O=>(h.below (hb1 O)).frozen 20
 obtain ⟨B,hB⟩:∃ B,w.heap.size=B:=⟨_,rfl⟩
 have d0:∀ v1 v2 v3 v4 v5,(w.alloc (.cells #[.bool wb,v1,v2,v3,v4,v5] 117)).cell? ⟨B,0,none⟩=some (.bool wb):=fun _ _ _ _ _=>cell_of_row _ _ 0 _ _ _ (hB▸heap_alloc_new w _)
 have hR':∀ {u:World} {t:St},StAt Ts col u b bd N x t→u.rangeAt b 11 [.pointer (P 0),.pointer (P 1),.pointer (P 2)]:=fun hu=>asks_range hu (hP 0 (by omega)).1 (hP 1 (by omega)).1 (hP 2 (by omega)).1
 have HR1:=Lib.hid (fun O=>hR' (wrong_start h O).1.1);have HR2:=Lib.hid (fun O=>hR' (wrong_start h O).2.1)
 obtain ⟨s',hs'⟩:∃ s',(if wb then { s with dead:=true } else s)=s':=⟨_,rfl⟩
 have HL:Hid (∀ W,W=(if wb then (w.alloc O).setCell ⟨b,20,none⟩ (.bool true) else w.alloc O)→StAt Ts col W b bd N x s'∧Chg (fun k=>k=b) w W∧W.heap[B]?=some O):=show ∀ W,_→_ by
  intro W hW;rw [hW,← hs',← hB]
  cases wb
  ·exact (wrong_start h O).2
  ·exact (wrong_start h O).1
 have HW3:Hid (s.wrong r=wrongN r s' 3):=show _=_ by
  have e:({ s with dead:=s.dead || r.write }:St)=s':=by rw [← hs',hw]; cases wb <;> simp
  rw [← wrongN_3,e]
 have HA':Hid (∀ c,s'.askAt c=s.askAt c):=show ∀ _,_ by intro c; rw [← hs']; cases wb <;> rfl
 have HO:=Lib.hid hO;have HP:=Lib.hid hP;have HI:=Lib.hid hI;have Hw:=Lib.hid hw;have Hr:=Lib.hid hr;have Hne:Hid (B≠b):=show _≠_ by omega
 have Hs:Hid ((Tryz.prog.info? 142).map (·.size)=some 3):=show _=_ by kernel_rfl
 clear h hI hP hR hR' hw hb1 hbl hs' hO hr
 cases wb
 all_goals
  go_enter Tryz.func90,Tryz.ntmps90;go_wp2_with (first | refine wpList_load_mid rfl 142 (.tmp 13) rfl b 11 rfl [.pointer (P 0),.pointer (P 1),.pointer (P 2)] _ (HR1.out _) Tryz.underlying142 rfl Hs.out ?_ | refine wpList_load_mid rfl 142 (.tmp 13) rfl b 11 rfl [.pointer (P 0),.pointer (P 1),.pointer (P 2)] _ (HR2.out _) Tryz.underlying142 rfl Hs.out ?_);clear c20 f20 d0 HR1 HR2 hB;rw [HO.out]
  first
   |(generalize hW:World.setCell _ _ _=W; have hL:=HL.out W hW.symm)
   |(generalize hW:World.alloc _ _=W; have hL:=HL.out W hW.symm)
  obtain ⟨H2,HC2,HX2⟩:=hL;clear hW HL;go_loopw [15] (fun i wr=>∃ (k:Nat) (y:Sv),k≤3∧i=.int .i64 k∧Hid (StAt Ts col wr b bd N y (wrongN r s' k))∧Hid (Chg (fun k=>k=b) w wr)∧Hid (Avs x y (wrongN r s' k))∧Hid (wr.heap[B]?=some O)) (fun i _=>3 - (intOf i).toNat)
  case atStart=>exact ⟨0,x,by omega,rfl,H2,HC2,Avs.refl,HX2⟩
  case round =>
   obtain ⟨k,y,hk,rfl,HS,HC,HA,HX⟩:=hrel;clear H2 HC2 HX2;by_cases h3:k<3
   ·obtain ⟨E,N0,Q⟩:=HP.out k h3
    have i0:=idx_c P h3;have hk3:(k:Int)<3:=by omega
    have hX:=HX.out;rw [← HO.out] at hX;have d0:=cell_of_row _ _ 0 _ _ _ hX;have d1:=cell_of_row _ _ 1 _ _ _ hX;have d2:=cell_of_row _ _ 2 _ _ _ hX;clear hX
    cases ho:s.askAt k
    ·rw [N0 ho] at i0
     have He:Hid (wrongN r s' (k+1)=wrongN r s' k):=show _=_ from wrong1_none (wrongN_nn r s' k k ((HA'.out k).trans ho));clear ho N0 Q E;go_wp2_with fail;have g0:=fun d os=>cell_regrown d0 d os
     have g1:=fun d os=>cell_regrown d1 d os
     have g2:=fun d os=>cell_regrown d2 d os
     clear d0 d1 d2;refine wp_region_quiet_below mixed (by kernel_rfl) ?_;repeat (first | go_big_quiet_step ((fail)) | quiet_step ((fail)))
     refine wpQuiet_nil ?_;intro _ hw';obtain ⟨⟨dq,osq⟩,hw''⟩:=hw';subst hw'';have hb4:=below_regrown wr dq osq;clear g0 g1 g2;generalize grow (redrawn wr dq) osq=w4 at hb4 ⊢;have HB4:=Lib.hid hb4;clear hb4;go_wp2_with fail;go_roundw
     case rel=>exact ⟨k+1,y,by omega,by go_num,(show wrongN r s' (k+1)=_ from He.out)▸HS.out.below HB4.out,HC.out.two (Chg.of_below HB4.out),(show wrongN r s' (k+1)=_ from He.out)▸HA.out,(HB4.out.block _ (Array.getElem?_eq_some_iff.1 HX.out).1).trans HX.out⟩
     case measure=>simp [intOf]; omega
    ·rename_i a
     obtain ⟨ba,hp⟩:=Q a ho;rw [hp] at i0 E;have Ho:Hid ((wrongN r s' k).askAt k=some a):=show _=_ from (wrongN_ge r s' k k (by omega)).trans ((HA'.out k).trans ho);have Hy:Hid (y.av k=.pointer (some ⟨ba,0,none⟩)):=show _=_ from ((HA.out k h3).elim id (fun h=>by rw [Ho.out] at h; cases h)).trans E;obtain ⟨lv,hrow,_,_⟩:=HS.out.askc h3 Ho.out Hy.out;have k0:wr.cell? ⟨ba,0,none⟩=some (.int .i64 a.kind):=cell_of_row _ _ 0 _ _ _ hrow;have k1:wr.cell? ⟨ba,1,none⟩=some (.int .i64 a.pos):=cell_of_row _ _ 1 _ _ _ hrow;have Hok:=Lib.hid (HI.out.ask k a ho);clear ho hrow N0 Q E hp;have Hcall:∀ hb,hasB r.lo r.many a.pos=hb→Hid (∀ u,Calls Tryz.prog 121 #[spanV r.lo r.many,.int .i64 a.pos] u (Ret (.bool hb) u)):=fun hb e u=>e▸has_any r.lo r.many a.pos u Hr.out.1 Hr.out.2 (by have:=Hok.out.lo; omega) (by have:=Hok.out.hi; omega)
     have He1:=fun h=>Lib.hid (wrong1_miss (r:=r) Ho.out h)
     have He2:=fun h1 h2 h3=>Lib.hid (wrong1_hit (r:=r) Ho.out h1 h2 h3)
     cases hh:hasB r.lo r.many a.pos
     all_goals
      have Hcall:=Hcall _ hh;by_cases h1:a.kind=1
      all_goals
       have h2:(a.kind == 1)=decide (a.kind=1):=rfl;simp only [h1,decide_true,decide_false] at h2;try rw [h1] at k0
       first
        |have He:=He2 Hw.out h1 hh
        |have He:=He1 (fun h=>by first | exact absurd (Hw.out.symm.trans h.1) (by decide) | exact absurd (hh.symm.trans h.2.2) (by decide) | exact h1 h.2.1)
       clear He1 He2 hh h1;go_wp2_with fail;have g0:=fun d os=>cell_regrown d0 d os
       have g1:=fun d os=>cell_regrown d1 d os
       have g2:=fun d os=>cell_regrown d2 d os
       have g3:=fun d os=>cell_regrown k0 d os
       have g4:=fun d os=>cell_regrown k1 d os
       clear d0 d1 d2 k0 k1;refine wp_region_quiet_below mixed (by kernel_rfl) ?_;repeat (first | go_big_quiet_step ((exact Calls.rg (Hcall.out _))) | quiet_step ((exact Calls.rg (Hcall.out _))))
       refine wpQuiet_nil ?_;intro _ hw';obtain ⟨⟨dq,osq⟩,hw''⟩:=hw';subst hw'';have hb4:=below_regrown wr dq osq;clear g0 g1 g2 g3 g4;generalize grow (redrawn wr dq) osq=w4 at hb4 ⊢;have HB4:=Lib.hid hb4;clear hb4;go_wp2_with fail
       first
        |(refine (answer_any col w4 b bd N y _ k noB 8 (HS.out.below HB4.out) h3).mono ?_
          rintro e w5 ⟨rfl,hs5,hst5⟩;have Hst5:=Lib.hid hst5;have HC5:=Lib.hid (hs5.chg (F:=fun k=>k=b) rfl);have HX5:Hid (w5.heap[B]?=_):=show _=_ from (hs5.block B Hne.out).trans ((HB4.out.block _ (Array.getElem?_eq_some_iff.1 HX.out).1).trans HX.out);clear hst5 hs5;go_wp2_with fail;go_roundw
          case rel=>exact ⟨k+1,_,by omega,by go_num,(show wrongN r s' (k+1)=_ from He.out)▸Hst5.out,(HC.out.two (Chg.of_below HB4.out)).two HC5.out,(show wrongN r s' (k+1)=_ from He.out)▸Avs.ans HA.out HS.out.asks h3,HX5.out⟩
          case measure=>simp [intOf]; omega)
        |(go_roundw
          case rel=>exact ⟨k+1,y,by omega,by go_num,(show wrongN r s' (k+1)=_ from He.out)▸HS.out.below HB4.out,HC.out.two (Chg.of_below HB4.out),(show wrongN r s' (k+1)=_ from He.out)▸HA.out,(HB4.out.block _ (Array.getElem?_eq_some_iff.1 HX.out).1).trans HX.out⟩
          case measure=>simp [intOf]; omega)
   ·obtain rfl:k=3:=by omega
    have hi:((3:Nat):Int)=3:=rfl;go_wp2_with fail;go_end0;rw [HW3.out];exact ⟨_,rfl,HS.out,HC.out,HA.out⟩
theorem wrong_any (col:Nat→Nat) (w:World) (b bd N:Nat) (x:Sv) (s:St) (S:Nat→Prop) (rv:Value) (r:Rq) (h:StAt Ts col w b bd N x s) (hI:Inv s) (hr:ReqAt S w rv r) (hok:ReqOk r) :
  Calls Tryz.prog 90 #[.pointer (some ⟨b,0,none⟩),rv] w (Ret2 Ts col w b bd N x (s.wrong r) (.tuple #[])):=by
 obtain ⟨Ad,cd,At,ct,rfl,_,_,_,_,_,_,_⟩:=hr.opened;obtain ⟨a1,a2,a3,a4,a5⟩:=hok.span;unfold rqV;rcases Bool.eq_false_or_eq_true r.write with hw | hw
 ·rw [hw]; exact wrong_b _ col w b bd N x s r hw Ad At cd ct h hI ⟨by omega,by omega⟩
 ·rw [hw]; exact wrong_b _ col w b bd N x s r hw Ad At cd ct h hI ⟨by omega,by omega⟩
end Go.Proofs.YtagndjihiklmiaaGreatDoor
namespace Go.Proofs.YtagndjihiklmiaaGreatDoor
open Go.RowKit Go.Sort
def RetSe (T:Tys) (col:Nat→Nat) (w:World) (b bd N:Nat) (x:Sv) (s:St) (v':Drv) (rs:Rs) (done:Bool) (ev:Value):Ending→World→Prop :=
 fun e w'=>∃ (col':Nat→Nat) (c:Rc) (ov:Value),e=.returned (.tuple #[.agg (rsCells c ov rs.err),.bool done,ev])∧c.r=rs.req∧RcOk (Im w' col') w' c∧StrsAt (Im w' col') w' ov rs.data ∧
  StAt T col' w' b bd (N+1) { x with n:=x.n+1 } { s with v:=v' }∧Chg (Fl col) w w'∧Rec col col' w w'
theorem stend_any (col:Nat→Nat) (w:World) (b bd N:Nat) (x:Sv) (s:St) (i:Int) (f:Bool) (h:StAt Ts col w b bd N x s) (hI:Inv s) (hw:s.v.d.waits.length≤900000000) (hN:N≤900000000) :
  Calls Tryz.prog 89 #[.pointer (some ⟨x.bv,0,none⟩),.int .i64 i,.bool f] w (RetSe Ts col w b bd N x s (s.v.endAt i f).1 (s.v.endAt i f).2.1 (s.v.endAt i f).2.2.1 (errV (s.v.endAt i f).2.2.2)):=by
 have hn:=h.n;refine (drvend_any (Im w col) (Fd col) w x.bv bd x.bt x.n s.v i f h.drv hI.dv hw (by omega) (fun j _=>hI.tries j) (fun k (hk:col k=4)=>h.lt k (by omega)) StAt.imfd (fun k hk=>hk.1)).mono ?_;rintro e w' ⟨v,F',S',rfl,⟨c,ov,rfl,hc,hok,hov⟩,hp,hch,hF,hSS,hS,hSF⟩;obtain ⟨col',hst,hrec,him⟩:=h.drvd hp hch hF hS hSF (show x.n+1≤N+1 by omega);exact ⟨col',c,ov,rfl,hc,hok.more him,hov.more him,hst,hch.mono (fun k hk=>hk.elim (Fl.of_d k) (fun e=>by subst e; show col x.bt≠0∧col x.bt≠9; rw [h.ct]; decide)),hrec⟩
theorem Ret4.five {T:Tys} {col col':Nat→Nat} {w w1 w':World} {b bd N:Nat} {y:Sv} {t:St} {v:Value} {e:Ending} (hr:Ret4 T col' w1 b bd N y t v e w') (hc:Chg (Fl col) w w1) (hrec:Rec col col' w w1):Ret5 T col w b bd N t v e w':=by
 obtain ⟨z,h1,h2,h3,_⟩:=hr;exact ⟨col',z,h1,h2,hc.recol h3 hrec.grow,hrec.old,hrec.grow⟩
theorem end_none (col:Nat→Nat) (w:World) (b bd N:Nat) (x:Sv) (s:St) (i:Int) (f:Bool) (h:StAt Ts col w b bd N x s) (hI:Inv s) (hw:s.v.d.waits.length≤900000000) (hN:N≤900000000) (hi:i<0∨(s.v.d.l.length:Int)≤i) :
  Calls Tryz.prog 48 #[.pointer (some ⟨b,0,none⟩),.int .i64 i,.bool f] w (Ret5 Ts col w b bd (N+1) (s.end_ i f).1 (errV (s.end_ i f).2)):=by
 have hcall:=stend_any col w b bd N x s i f h hI hw hN;rw [drvEndAt_none _ _ _ hi] at hcall;have He:Hid (s.end_ i f=(s,5)):=St.end_none s f hi;have Hcall:=Lib.hid hcall;have H:=Lib.hid h;have c1:w.cell? ⟨b,1,none⟩=some (.pointer (some ⟨x.bv,0,none⟩)):=h.cell 1;clear h hI hw hN hi hcall;go_enter Tryz.func48,Tryz.ntmps48;go_wp2_with fail;refine Hcall.out.mono ?_;rintro e w1 ⟨col',c,ov,rfl,hc,hok,hov,hst,hch,hrec⟩;obtain ⟨Ad,cd,e1,_,_⟩:=hok.data.form;obtain ⟨At,ct,e2,_,_⟩:=hok.tags.form;obtain ⟨Ao,co,e3,_,_⟩:=hov.form;obtain ⟨rr,rdv,rtv⟩:=c;simp only at e1 e2 hc;subst e1 e2 e3;have Hst:=Lib.hid hst;have Hch:=Lib.hid hch;have Hrec:=Lib.hid hrec;clear hc hok hov hst hch hrec c1;unfold rsCells;go_wp2_with fail;go_ret;rw [He.out];have hb1:=fun o=>(Below.refl w1.heap.size w1).alloc (Nat.le_refl _) o
 exact ⟨col',_,rfl,Hst.out.below (hb1 _),Hch.out.two (Chg.of_below (hb1 _)),Hrec.out.old,Hrec.out.grow⟩
theorem end_again (col:Nat→Nat) (w:World) (b bd N:Nat) (x:Sv) (s:St) (k:Nat) (r:Rq) (h:StAt Ts col w b bd N x s) (hI:Inv s) (hw:s.v.d.waits.length≤900000000) (hN:N≤900000000) (hk:s.v.d.l[k]?=some r) (h3:s.v.tries (tagOf r)+1<3) :
  Calls Tryz.prog 48 #[.pointer (some ⟨b,0,none⟩),.int .i64 (k:Int),.bool true] w (Ret5 Ts col w b bd (N+1) (s.end_ k true).1 (errV (s.end_ k true).2)):=by
 have hcall:=stend_any col w b bd N x s k true h hI hw hN;rw [drvEndAt_again _ _ _ hk hI.dv.two h3,St.start_again hk hI.dv.two] at hcall;have He:Hid (s.end_ k true=(s.again k r,0)):=St.end_again hk hI.dv.two h3;have Hcall:=Lib.hid hcall;have H:=Lib.hid h;have c1:w.cell? ⟨b,1,none⟩=some (.pointer (some ⟨x.bv,0,none⟩)):=h.cell 1;clear h hI hw hN hk h3 hcall;go_enter Tryz.func48,Tryz.ntmps48;go_wp2_with fail;refine Hcall.out.mono ?_;rintro e w1 ⟨col',c,ov,rfl,hc,hok,hov,hst,hch,hrec⟩;obtain ⟨Ad,cd,e1,_,_⟩:=hok.data.form;obtain ⟨At,ct,e2,_,_⟩:=hok.tags.form;obtain ⟨Ao,co,e3,_,_⟩:=hov.form;obtain ⟨rr,rdv,rtv⟩:=c;simp only at e1 e2 hc;subst e1 e2 e3;have Hst:=Lib.hid hst;have Hch:=Lib.hid hch;have Hrec:=Lib.hid hrec;clear hc hok hov hst hch hrec c1;unfold rsCells;go_wp2_with fail;go_ret;rw [He.out];have hb1:=fun o=>(Below.refl w1.heap.size w1).alloc (Nat.le_refl _) o
 exact ⟨col',_,rfl,Hst.out.below (hb1 _),Hch.out.two (Chg.of_below (hb1 _)),Hrec.out.old,Hrec.out.grow⟩
theorem end_gone (col:Nat→Nat) (w:World) (b bd N:Nat) (x:Sv) (s:St) (k:Nat) (r:Rq) (K:Int) (h:StAt Ts col w b bd N x s) (hI:Inv s) (hB:Bd K s) (h0:0≤K) (hK:K≤800000000) (hN:N≤900000000) (hk:s.v.d.l[k]?=some r) (h3:¬ s.v.tries (tagOf r)+1<3) :
  Calls Tryz.prog 48 #[.pointer (some ⟨b,0,none⟩),.int .i64 (k:Int),.bool true] w (Ret5 Ts col w b bd (N+1) (s.end_ k true).1 (errV (s.end_ k true).2)):=by
 have hcall:=stend_any col w b bd N x s k true h hI (by have:=hB.waits; omega) hN;rw [drvEndAt_gone _ _ _ hk h3] at hcall;have He:Hid (s.end_ k true=(((s.gone k r).wrong r).serve,0)):=St.end_gone hk h3;have HIg:Hid (Inv (s.gone k r)):=hI.gone hk;have HBg:Hid (Bd K (s.gone k r)):=show Bd _ _ from ⟨hB.use,hB.tag,hB.waits⟩;have Hrok:Hid (ReqOk r):=reqF_zero (hI.dv.l r (List.mem_of_getElem? hk));have Hcall:=Lib.hid hcall;have H:=Lib.hid h;have c1:w.cell? ⟨b,1,none⟩=some (.pointer (some ⟨x.bv,0,none⟩)):=h.cell 1;clear h hI hB hN hk h3 hcall;go_enter Tryz.func48,Tryz.ntmps48;go_wp2_with fail;refine Hcall.out.mono ?_;rintro e w1 ⟨col',c,ov,rfl,hc,hok,hov,hst,hch,hrec⟩;obtain ⟨Ad,cd,e1,_,_⟩:=hok.data.form;obtain ⟨At,ct,e2,_,_⟩:=hok.tags.form;obtain ⟨Ao,co,e3,_,_⟩:=hov.form;obtain ⟨rr,rdv,rtv⟩:=c;simp only at e1 e2 hc;subst e1 e2 e3;subst hc;have Hst:=Lib.hid hst;have Hch:=Lib.hid hch;have Hrec:=Lib.hid hrec;have Hok:=Lib.hid hok;have hb1:=fun o=>(Below.refl w1.heap.size w1).alloc (Nat.le_refl _) o
 have HB1:=Lib.hid hb1;clear hok hov hst hch hrec c1 hb1;unfold rsCells;go_wp2_with fail;have HB2:=Lib.hid (HB1.out (.cells #[.bool rr.write,.int .i64 rr.lo,.int .i64 rr.many,.slice Ad rr.data.length cd,.slice At rr.tags.length ct,.int .i64 rr.born,.slice Ao (0:Nat) co,.int .i64 8] 123));clear HB1;refine (wrong_any col' _ b bd (N+1) _ (s.gone k rr) (Im w1 col') _ rr (Hst.out.below HB2.out) HIg.out (Hok.out.below HB2.out).req Hrok.out).mono ?_;rintro e w3 ⟨y3,rfl,hst3,hc3,_⟩;have Hst3:=Lib.hid hst3;have HC3:Hid (Chg (Fl col) w w3):=show Chg _ _ _ from (Hch.out.two (Chg.of_below HB2.out)).recol (hst3.chg1 hc3) Hrec.out.grow;have HIw:=Lib.hid (HIg.out.wrong rr);have HBw:=Lib.hid (HBg.out.wrong rr);clear hst3 hc3;go_wp2_with fail;refine (serve_any col' w3 b bd (N+1) _ _ K Hst3.out HIw.out HBw.out h0 hK).mono ?_;rintro e w4 ⟨y4,rfl,hst4,hc4,_⟩;have Hst4:=Lib.hid hst4;have HC4:=Lib.hid (HC3.out.recol hc4 Hrec.out.grow);clear hst4 hc4;go_wp2_with fail;go_ret;rw [He.out];exact ⟨col',_,rfl,Hst4.out,HC4.out,Hrec.out.old,Hrec.out.grow⟩
end Go.Proofs.YtagndjihiklmiaaGreatDoor
