/- The reference's stack: Dispatch. The reference's stack: Quiet. The reference's stack: Round, Settle. -/
import Derived.Test.YtlomdfbnicbceaaGreatM37
import Derived.Test.YtlomdfbnicbceaaGreatM43
import Derived.Test.YtlomdfbnicbceaaGreatM30
import Derived.Test.YtlomdfbnicbceaaGreatM38
import Derived.Test.YtlomdfbnicbceaaGreatM31
import Derived.Test.YtlomdfbnicbceaaGreatM24
import Derived.Test.YtlomdfbnicbceaaGreatM41
set_option linter.unusedSimpArgs false
set_option linter.unusedVariables false
set_option maxRecDepth 100000
set_option maxHeartbeats 8000000
namespace Go.Proofs.YtlomdfbnicbceaaGreat
open Go.RowKit Go.Sort
theorem rwithout_st {S:Nat→Prop} {l:List Rq} {v:Value} {k:Nat} {w:World} (h:ReqsAt S w v l) (hS:∀ b,w.heap.size≤b→S b) (hk:k<l.length) (hn:l.length≤65536) :
  Calls Tryz.prog 57 #[v,.int .i64 (k:Int)] w (RetReqs S (l.eraseIdx k) w):=by
 obtain ⟨cs,rfl,hrd,hok⟩:=h
 rw [List.length_map] at hk hn
 obtain ⟨A,cap,rfl,_,_⟩:=hrd.form
 obtain ⟨b,off,rfl,_,_,_⟩:=hrd.at_ (by omega) (by omega)
 refine (without_any S b off _ cap k _ w hrd (cells_one hok) hk hn).mono ?_
 rintro e w' ⟨v',rfl,hown,hb⟩
 rw [drop_flat] at hown
 have hl3:(cs.take k ++ cs.drop (k+1)).length=cs.length - 1:=by simp; omega
 have hr:ReqsAt S w' v' ((cs.take k ++ cs.drop (k+1)).map (·.r)):=reqs_of_own hS (by rw [hl3]; exact hown) (fun c hm=>by
  have:c ∈ cs:=by rcases List.mem_append.1 hm with hm | hm; exact List.mem_of_mem_take hm; exact List.mem_of_mem_drop hm
  exact (hok c this).below hb)
 refine ⟨v',rfl,?_,hb⟩
 rw [show (cs.map (·.r)).eraseIdx k=(cs.take k ++ cs.drop (k+1)).map (·.r) by rw [List.eraseIdx_eq_take_drop_succ]; simp]
 exact hr.more (fun k hk=>.inl hk)
theorem StAt.devg {T:Tys} {col:Nat→Nat} {w w':World} {b bd N:Nat} {x:Sv} {s:St} (h:StAt T col w b bd N x s) {d':Dv} (hd:DevAt T.D T.P (Im w col) (Grow (Fd col) w w') w' bd d') (hc:Chg (Fd col) w w'):DrvAt T.D T.P T.V (Im w col) (Grow (Fd col) w w') w' x.bv bd x.bt x.n { s.v with d:=d' }:=by
 obtain ⟨f,hf,hv⟩:=h.drv.map
 have lv:=h.lt x.bv (by rw [h.cv]; decide)
 have lt:=h.lt x.bt (by rw [h.ct]; decide)
 have n2:¬ Fd col x.bv:=fun hf=>by have h1:col x.bv=4:=hf; rw [h.cv] at h1; cases h1
 have n3:¬ Fd col x.bt:=fun hf=>by have h1:col x.bt=4:=hf; rw [h.ct] at h1; cases h1
 exact ⟨(hc.block _ lv n2).trans h.drv.row,⟨f,hf.keep (hc.block _ lt n3),hv⟩,hd,fun hf=>hf.elim n2 (fun h=>by have:=h.1; omega),fun hf=>hf.elim n3 (fun h=>by have:=h.1; omega),h.nv⟩
theorem rdispatch_any (col:Nat→Nat) (w:World) (b bd N:Nat) (x:Sv) (s:St) (h:StAt Tr col w b bd N x s) (hI:Inv s) :
  Calls Tryz.prog 26 #[.pointer (some ⟨b,0,none⟩)] w (Ret5 Tr col w b bd N s.dispatch.1 (.bool s.dispatch.2)):=by
 have H:=Lib.hid h
 have HI:=Lib.hid hI
 obtain ⟨A,cap,hwv,_,_⟩:=h.wait.form
 obtain ⟨_,hk32,hn32,wv,lv,ds,hrowd,_,hld,hds,_⟩:=h.drv.dev
 obtain ⟨Ad,cd,hlv,_,_⟩:=hld.form
 subst hlv
 have hdl:ds.length=s.v.d.l.length:=by rw [← hds,List.length_map]
 have c0:w.cell? ⟨b,0,none⟩=some (.pointer (some ⟨bd,0,none⟩)):=h.cell 0
 have c3:w.cell? ⟨b,3,none⟩=some (.slice A s.wait.length cap):=(h.cell 3).trans (congrArg some hwv)
 have c65:w.cell? ⟨bd,65,none⟩=some (.slice Ad s.v.d.l.length cd):=by rw [← hdl,cell_of_row _ _ _ _ _ _ hrowd]; simpa using devCells_at_l s.v.d wv _ hk32 hn32
 have Hwv:=Lib.hid hwv
 clear h hrowd hld hds hdl hk32 hn32 hwv
 go_enter Tryz.func26,Tryz.ntmps26
 by_cases hno:s.wait=[]∨2≤s.v.d.l.length
 ·have Hd:=Lib.hid (Inv.dispatch_no (s:=s) hno)
  by_cases hne:s.wait=[]
  ·have hl0:s.wait.length=0:=by rw [hne]; rfl
   rw [hl0] at c3
   clear hne hl0 hno hI
   go_wp2_with fail
   go_ret
   rw [Hd.out]
   exact ⟨_,_,rfl,H.out,Chg.refl,.refl⟩
  ·have hl1:(((s.wait.length:Nat):Int) == 0)=false:=by simp only [beq_eq_false_iff_ne]; have:=List.length_pos_iff.2 hne; omega
   have hl2:s.v.d.l.length=2:=by have:=hI.dv.two; have:=hno.resolve_left hne; omega
   rw [hl2] at c65
   clear hne hl2 hno hI
   go_wp2_with fail
   go_ret
   rw [Hd.out]
   exact ⟨_,_,rfl,H.out,Chg.refl,.refl⟩
 ·have hne:¬ s.wait=[]:=fun h=>hno (.inl h)
  have h2:s.v.d.l.length<2:=by omega
  obtain ⟨j,r,t',hx,hde⟩:=hI.dispatched hne h2
  have hl1:(((s.wait.length:Nat):Int) == 0)=false:=by simp only [beq_eq_false_iff_ne]; have:=List.length_pos_iff.2 hne; omega
  have hl2:(((s.v.d.l.length:Nat):Int) == 2)=false:=by simp only [beq_eq_false_iff_ne]; omega
  have Hne:=Lib.hid hne
  have H2:=Lib.hid h2
  have Hx:=Lib.hid hx
  have Hde:=Lib.hid hde
  clear hno hne h2 hx hde hI
  go_wp2_with fail
  clear hl1 hl2 c0 c65
  have c4:w.cell? ⟨b,4,none⟩=some (.bool s.turn.write):=H.out.cell 4
  have c5:w.cell? ⟨b,5,none⟩=some (.int .i64 s.turn.gone):=H.out.cell 5
  have c6:w.cell? ⟨b,6,none⟩=some (.int .i64 s.turn.starved):=H.out.cell 6
  have c7:w.cell? ⟨b,7,none⟩=some (.int .i64 s.turn.wh):=H.out.cell 7
  have c8:w.cell? ⟨b,8,none⟩=some (.int .i64 s.now):=H.out.cell 8
  have Hw0:Hid (ReqsAt (Im w col) w (.slice A s.wait.length cap) s.wait):=show ReqsAt _ _ _ _ from Hwv.out▸H.out.wait
  have Hcall:Hid (∀ u,Below w.heap.size w u→Calls Tryz.prog 56 #[(.slice A s.wait.length cap),.agg #[.bool s.turn.write,.int .i64 s.turn.gone,.int .i64 s.turn.starved,.int .i64 s.turn.wh],.int .i64 s.now] u (Ret (.tuple #[.int .i64 (j:Int),.agg #[.bool t'.write,.int .i64 t'.gone,.int .i64 t'.starved,.int .i64 t'.wh]]) u)):=fun u hu=>by
   have:=rnext_any (Im w col) s.wait (.slice A s.wait.length cap) s.turn s.now u (Hw0.out.below hu) (good_app.1 HI.out.good).1 Hne.out (by have:=HI.out.turn; unfold i64; omega) HI.out.now.1 HI.out.now.2
   unfold nextV at this
   rw [Hx.out.eq] at this
   exact this
  obtain ⟨FB,hFB⟩:∃ F:Array Value,F=#[.bool t'.write,.int .i64 t'.gone,.int .i64 t'.starved,.int .i64 t'.wh]:=⟨_,rfl⟩
  refine wp_region_ev mixed [(24,fun v _=>v=(.pointer (some ⟨b,0,none⟩))),(25,fun v _=>v=(.pointer (some ⟨b,0,none⟩))),(26,fun v _=>v=(.pointer (some ⟨b,3,none⟩))),(27,fun v _=>v=(.slice A s.wait.length cap)),(28,fun v _=>v=(.pointer (some ⟨b,0,none⟩))),(29,fun v _=>v=(.pointer (some ⟨b,0,none⟩))),(30,fun v _=>v=(.pointer (some ⟨b,4,none⟩))),(31,fun v _=>v=(.agg #[.bool s.turn.write,.int .i64 s.turn.gone,.int .i64 s.turn.starved,.int .i64 s.turn.wh])),(32,fun v _=>v=(.pointer (some ⟨b,0,none⟩))),(33,fun v _=>v=(.pointer (some ⟨b,0,none⟩))),(34,fun v _=>v=(.pointer (some ⟨b,8,none⟩))),(35,fun v _=>v=(.int .i64 s.now)),(36,fun v _=>v=(.tuple #[.int .i64 (j:Int),.agg #[.bool t'.write,.int .i64 t'.gone,.int .i64 t'.starved,.int .i64 t'.wh]])),(23,fun v _=>v=(.tuple #[.int .i64 (j:Int),.agg #[.bool t'.write,.int .i64 t'.gone,.int .i64 t'.starved,.int .i64 t'.wh]])),(37,fun v _=>v=(.int .i64 (j:Int))),(38,fun v _=>v=(.agg #[.bool t'.write,.int .i64 t'.gone,.int .i64 t'.starved,.int .i64 t'.wh])),(4,BxF 54 FB w.heap.size),(3,fun v _=>v=(.int .i64 (j:Int)))] (fun u=>Below w.heap.size w u) (BR 54 FB w.heap.size) (BxE 54 FB 18) (by kernel_rfl) rfl (by decide) (Below.refl _ _).drew ?st3 (fun k vs u u' h hr=>h.step hr) ?steps3 ?fin3
  case st3=>repeat' first | exact trivial | exact fun v u u' h hr=>h.step hr | exact fun v u u' h _=>h | refine ⟨?_,?_⟩
  case steps3 =>
   refine ⟨?_,?_,?_,?_,?_,?_,?_,?_,?_,?_,?_,?_,?a3,?_,?_,?_,?b3,?_,?c3,trivial⟩
   case a3 =>
    intro ρ u hp hJ hr
    have r1:ρ _=(.slice A s.wait.length cap):=hr.1
    have r2:ρ _=.agg #[.bool s.turn.write,.int .i64 s.turn.gone,.int .i64 s.turn.starved,.int .i64 s.turn.wh]:=hr.2.1
    have r3:ρ _=.int .i64 s.now:=hr.2.2.1
    clear hr
    refine gives_enter (f:=56) (args:=#[(.slice A s.wait.length cap),.agg #[.bool s.turn.write,.int .i64 s.turn.gone,.int .i64 s.turn.starved,.int .i64 s.turn.wh],.int .i64 s.now]) (w':=u) ?_ ((Hcall.out u hJ).mono ?_)
    ·have hpf:=hp.func 56
     go_simp
    rintro e u' ⟨rfl,hb⟩
    exact ⟨_,rfl,rfl,hJ.trans (hb.mono hJ.size),BR.below hb,fun h=>absurd h (by decide)⟩
   case b3 =>
    intro ρ u hp hJ hr
    clear hr
    refine gives_value (v:=.pointer (some ⟨u.heap.size,0,none⟩)) (w':=u.alloc (.cells #[.bool false,.int .i64 0,.int .i64 0,.int .i64 0] 54)) ?_ ⟨⟨_,rfl,hJ.size,⟨_,by rw [hFB]; rfl,heap_alloc_new _ _⟩⟩,hJ.trans (((Below.refl _ _).alloc (Nat.le_refl _) _).mono hJ.size),BR.below ((Below.refl _ _).alloc (Nat.le_refl _) _),fun h=>absurd h (by decide)⟩
    go_simp
   case c3 =>
    intro ρ u hp hJ hr
    have r1:BxF 54 FB w.heap.size (ρ (.tmp 4)) u:=hr.1
    have r2:ρ _=.agg #[.bool t'.write,.int .i64 t'.gone,.int .i64 t'.starved,.int .i64 t'.wh]:=hr.2.1
    clear hr
    obtain ⟨bb,e1,hbb,hbx⟩:=r1
    rw [show FB.size=4 by rw [hFB]; rfl] at hbx
    obtain ⟨g1,g2,g3⟩:=bx_put4 (v0:=.bool t'.write) (v1:=.int .i64 t'.gone) (v2:=.int .i64 t'.starved) (v3:=.int .i64 t'.wh) hbb hbx _ rfl
    rw [← hFB] at g1 g2
    refine gives_skip (w':=_) ?_ ⟨trivial,hJ.trans g3,g1,BxE.at e1 rfl g2⟩
    obtain ⟨z0,z1,z2,z3,hz⟩:=bx4 hbx
    have z0:u.cell? ⟨bb,0,none⟩=some _:=cell_of_row _ _ 0 _ _ _ hz
    have z1:u.cell? ⟨bb,1,none⟩=some _:=cell_of_row _ _ 1 _ _ _ hz
    have z2:u.cell? ⟨bb,2,none⟩=some _:=cell_of_row _ _ 2 _ _ _ hz
    have z3:u.cell? ⟨bb,3,none⟩=some _:=cell_of_row _ _ 3 _ _ _ hz
    have f0:∀ j,u.frozen? ⟨bb,j,none⟩=false:=fun j=>frozen_of_row _ _ j _ _ hz
    clear g1 g2 g3 hz hbx
    go_simp
   all_goals
    intro ρ u hp hJ hr
    have r1:ρ _=_:=hr.1
    clear hr
    have d3:=cell_b hJ c3
    have d4:=cell_b hJ c4
    have d5:=cell_b hJ c5
    have d6:=cell_b hJ c6
    have d7:=cell_b hJ c7
    have d8:=cell_b hJ c8
    refine gives_value (v:=_) (w':=u) ?_ ⟨rfl,hJ,BR.refl _,fun h=>absurd h (by decide)⟩
    go_simp
  case fin3 =>
   intro f u hF hJ hU hE
   have f4:BxF 54 FB w.heap.size (f 4) u:=hF.2.2.2.2.2.2.2.2.2.2.2.2.2.2.2.2.1
   have f3:f 3=.int .i64 (j:Int):=hF.2.2.2.2.2.2.2.2.2.2.2.2.2.2.2.2.2.1
   obtain ⟨bb,e4,hbb,hbz⟩:=f4
   have hbx:u.heap[bb]?=some (.cells FB 54 (0,0)):=hE 18 _ rfl rfl bb (by rw [argsOf_store rfl,e4]; rfl)
   clear hF hU hE c3 c4 c5 c6 c7 c8 Hcall
   rw [hFB] at hbx
   clear hbz hFB FB
   have H3:=Lib.hid (H.out.below hJ)
   have Hbx:=Lib.hid hbx
   have HJ:=Lib.hid hJ
   have hbne:bb≠b:=by have:=H.out.bl; omega
   simp only [laid]
   rw [f3,e4]
   have hjl:(j:Int)<(s.wait.length:Int):=by have:=Hx.out.lt; omega
   have hj0:¬ (j:Int)<0:=by omega
   obtain ⟨q,off,rfl,_,_,hc⟩:=(Hw0.out.below hJ).at_ (by have:=Hx.out.lt; omega)
   obtain ⟨Ad,cd,At,ct,hrq,k0,k1,k2,k3,k4,k5⟩:=hc j r Hx.out.get
   have Hrq:=Lib.hid hrq
   have c3:u.cell? ⟨b,3,none⟩=some (.slice (some ⟨q,off,none⟩) s.wait.length cap):=(H3.out.cell 3).trans (congrArg some Hwv.out)
   have c3a:∀ o,(u.alloc o).cell? ⟨b,3,none⟩=some (.slice (some ⟨q,off,none⟩) s.wait.length cap):=fun o=>(World.cell?_alloc_lt _ _ _ H3.out.bl).trans c3
   clear hc hrq hJ hbx hbb f3 e4
   go_wp2_with fail
   clear c3a c3
   obtain ⟨b6,hb6⟩:∃ n,u.heap.size=n:=⟨_,rfl⟩
   have Hc6:Hid (col b6=0):=H3.out.s0 b6 (by omega)
   have hbA:=(Below.refl u.heap.size u).alloc (Nat.le_refl _) (.cells #[.bool r.write,.int .i64 r.lo,.int .i64 r.many,.slice Ad r.data.length cd,.slice At r.tags.length ct,.int .i64 r.born] 110)
   have hx6:(u.alloc (.cells #[.bool r.write,.int .i64 r.lo,.int .i64 r.many,.slice Ad r.data.length cd,.slice At r.tags.length ct,.int .i64 r.born] 110)).heap[b6]?=some (.cells #[.bool r.write,.int .i64 r.lo,.int .i64 r.many,.slice Ad r.data.length cd,.slice At r.tags.length ct,.int .i64 r.born] 110 (0,0)):=hb6▸heap_alloc_new u _
   have hlt6:b6<(u.alloc (.cells #[.bool r.write,.int .i64 r.lo,.int .i64 r.many,.slice Ad r.data.length cd,.slice At r.tags.length ct,.int .i64 r.born] 110)).heap.size:=by simp; omega
   have hb6ne:b6≠b:=by have:=H3.out.bl; omega
   rw [hb6]
   have HBA:=Lib.hid hbA
   have Hx6:=Lib.hid hx6
   have Hl6:=Lib.hid hlt6
   clear hbA hx6 hlt6 hb6 k0 k1 k2 k3 k4 k5
   generalize u.alloc _=w5 at HBA Hx6 Hl6 ⊢
   have H5:=Lib.hid (H3.out.below HBA.out)
   have Hbx5:=Lib.hid ((HBA.out.block _ (Array.getElem?_eq_some_iff.1 Hbx.out).1).trans Hbx.out)
   refine (rwithout_st (S:=S0 col) (k:=j) ((Hwv.out▸H5.out.wait:ReqsAt (Im w5 col) w5 _ s.wait).more (fun k hk=>hk.2)) H5.out.s0 Hx.out.lt (by have:=HI.out.wait6; omega)).mono ?_
   rintro e w6 ⟨v6,rfl,hW6,hB6⟩
   have hW6:ReqsAt (S0 col) w6 v6 (s.wait.eraseIdx j):=hW6.more (fun k hk=>hk.elim id (H5.out.s0 k))
   obtain ⟨A6,cap6,hv6,_,_⟩:=hW6.form
   subst hv6
   have HW6:=Lib.hid hW6
   have H6:=Lib.hid (H5.out.below hB6)
   have HB06:Hid (Below w.heap.size w w6):=show Below _ _ _ from HJ.out.trans ((HBA.out.trans (hB6.mono HBA.out.size)).mono HJ.out.size)
   have hbx6:=(hB6.block _ (Array.getElem?_eq_some_iff.1 Hbx5.out).1).trans Hbx5.out
   have Hy6:=Lib.hid ((hB6.block _ Hl6.out).trans Hx6.out)
   have Hrq6:Hid (ReqAt (S0 col) w6 (.agg #[.bool r.write,.int .i64 r.lo,.int .i64 r.many,.slice Ad r.data.length cd,.slice At r.tags.length ct,.int .i64 r.born]) r):=show ReqAt _ _ _ _ from (((Hrq.out.below HBA.out).below hB6).more (fun k hk=>hk.2))
   have Hs6:Hid (w5.heap.size≤w6.heap.size):=hB6.size
   have c3:w6.cell? ⟨b,3,none⟩=some (.slice (some ⟨q,off,none⟩) s.wait.length cap):=(H6.out.cell 3).trans (congrArg some Hwv.out)
   have c4:w6.cell? ⟨b,4,none⟩=some (.bool s.turn.write):=H6.out.cell 4
   have c5:w6.cell? ⟨b,5,none⟩=some (.int .i64 s.turn.gone):=H6.out.cell 5
   have c6:w6.cell? ⟨b,6,none⟩=some (.int .i64 s.turn.starved):=H6.out.cell 6
   have c7:w6.cell? ⟨b,7,none⟩=some (.int .i64 s.turn.wh):=H6.out.cell 7
   have hfr:=fun k=>H6.out.frozen k
   have d0:w6.cell? ⟨bb,0,none⟩=some (.bool t'.write):=cell_of_row _ _ 0 _ _ _ hbx6
   have d1:w6.cell? ⟨bb,1,none⟩=some (.int .i64 t'.gone):=cell_of_row _ _ 1 _ _ _ hbx6
   have d2:w6.cell? ⟨bb,2,none⟩=some (.int .i64 t'.starved):=cell_of_row _ _ 2 _ _ _ hbx6
   have d3:w6.cell? ⟨bb,3,none⟩=some (.int .i64 t'.wh):=cell_of_row _ _ 3 _ _ _ hbx6
   clear hW6 hB6 hbx6
   go_wp2_with fail
   have hS7:=(((((Same1.refl (b:=b) (w:=w6)).setCell 3 (.slice A6 (s.wait.eraseIdx j).length cap6)).setCell 4 (.bool t'.write)).setCell 5 (.int .i64 t'.gone)).setCell 6 (.int .i64 t'.starved)).setCell 7 (.int .i64 t'.wh)
   have H7:=Lib.hid (H6.out.taken hS7 HW6.out (t:=t') (heap_setCell_same _ _ 7 _ _ _ (heap_setCell_same _ _ 6 _ _ _ (heap_setCell_same _ _ 5 _ _ _ (heap_setCell_same _ _ 4 _ _ _ (heap_setCell_same _ _ 3 _ _ _ H6.out.row))))))
   have HS7:=Lib.hid hS7
   clear hS7 c3 c4 c5 c6 c7 hfr d0 d1 d2 d3
   generalize World.setCell _ _ _=w7 at H7 HS7 ⊢
   have H8:=Lib.hid (H7.out.below (Below.refl _ _).drew)
   have Hb8:Hid (w7.drew.heap[b6]?=_):=show _=_ from (HS7.out.block b6 hb6ne).trans Hy6.out
   have Hrq8:Hid (ReqAt (Im w7.drew col) w7.drew (.agg #[.bool r.write,.int .i64 r.lo,.int .i64 r.many,.slice Ad r.data.length cd,.slice At r.tags.length ct,.int .i64 r.born]) r):=show ReqAt _ _ _ _ from
    ((Hrq6.out.lt.keep (fun k hk _=>HS7.out.block k (fun e=>by have h1:col k=0:=hk.1; rw [e,H6.out.cb] at h1; cases h1))).below (Below.refl _ _).drew).more (fun k hk=>⟨by
     have h2:=hk.2
     show k<w7.heap.size
     rw [HS7.out.size]; exact h2,hk.1⟩)
   have Hfl:Hid (∀ k,Fd col k→k<w7.drew.heap.size):=fun k (hk:col k=4)=>H8.out.lt k (by omega)
   have Him:Hid (∀ k,Im w7.drew col k→¬ Fd col k):=StAt.imfd
   have hst:s.v.d.start r=({ s.v.d with l:=s.v.d.l ++ [r] },0):=by unfold Dv.start; rw [if_neg (by have:=H2.out; omega)]
   have Hcl:Hid (Calls Tryz.prog 58 #[.pointer (some ⟨bd,0,none⟩),.agg #[.bool r.write,.int .i64 r.lo,.int .i64 r.many,.slice Ad r.data.length cd,.slice At r.tags.length ct,.int .i64 r.born]] w7.drew (RetDev TDr TPr (Im w7.drew col) (Fd col) w7.drew bd { s.v.d with l:=s.v.d.l ++ [r] } (.int .i64 0))):=show Calls _ _ _ _ _ from by
    have:=rdevstart_any (Im w7.drew col) (Fd col) w7.drew bd s.v.d r _ H8.out.drv.dev Hrq8.out Hfl.out Him.out HI.out.dv.two
    rw [hst] at this
    exact this
   clear hst
   have K0:w7.drew.cell? ⟨b,0,none⟩=some (.pointer (some ⟨bd,0,none⟩))∧w7.drew.cell? ⟨b6,0,none⟩=some (.bool r.write)∧w7.drew.cell? ⟨b6,1,none⟩=some (.int .i64 r.lo)∧w7.drew.cell? ⟨b6,2,none⟩=some (.int .i64 r.many)∧w7.drew.cell? ⟨b6,3,none⟩=some (.slice Ad r.data.length cd)∧w7.drew.cell? ⟨b6,4,none⟩=some (.slice At r.tags.length ct)∧w7.drew.cell? ⟨b6,5,none⟩=some (.int .i64 r.born):=⟨H8.out.cell 0,cell_of_row _ _ 0 _ _ _ Hb8.out,cell_of_row _ _ 1 _ _ _ Hb8.out,cell_of_row _ _ 2 _ _ _ Hb8.out,cell_of_row _ _ 3 _ _ _ Hb8.out,cell_of_row _ _ 4 _ _ _ Hb8.out,cell_of_row _ _ 5 _ _ _ Hb8.out⟩
   go_region_held3 (fun q=>q.cell? ⟨b,0,none⟩=some (.pointer (some ⟨bd,0,none⟩))∧q.cell? ⟨b6,0,none⟩=some (.bool r.write)∧q.cell? ⟨b6,1,none⟩=some (.int .i64 r.lo)∧q.cell? ⟨b6,2,none⟩=some (.int .i64 r.many)∧q.cell? ⟨b6,3,none⟩=some (.slice Ad r.data.length cd)∧q.cell? ⟨b6,4,none⟩=some (.slice At r.tags.length ct)∧q.cell? ⟨b6,5,none⟩=some (.int .i64 r.born))
    (first | exact K1 | exact K0)
    (first
     |((with_reducible refine Hcl.out.mono ?_); rintro e u1 ⟨rfl,hp1,hc1⟩; have HP1:=Lib.hid hp1; have HC1:=Lib.hid hc1; have K1:u1.cell? ⟨b,0,none⟩=some (.pointer (some ⟨bd,0,none⟩))∧u1.cell? ⟨b6,0,none⟩=some (.bool r.write)∧u1.cell? ⟨b6,1,none⟩=some (.int .i64 r.lo)∧u1.cell? ⟨b6,2,none⟩=some (.int .i64 r.many)∧u1.cell? ⟨b6,3,none⟩=some (.slice Ad r.data.length cd)∧u1.cell? ⟨b6,4,none⟩=some (.slice At r.tags.length ct)∧u1.cell? ⟨b6,5,none⟩=some (.int .i64 r.born):=⟨(World.cell?_of_block (hc1.block b H8.out.bl (fun hf=>by have h1:col b=4:=hf; rw [H8.out.cb] at h1; cases h1))).trans K0.1,(by have hbb:=(hc1.block b6 (Array.getElem?_eq_some_iff.1 Hb8.out).1 (fun hf=>by have h1:col b6=4:=hf; rw [Hc6.out] at h1; cases h1)).trans Hb8.out; exact ⟨cell_of_row _ _ 0 _ _ _ hbb,cell_of_row _ _ 1 _ _ _ hbb,cell_of_row _ _ 2 _ _ _ hbb,cell_of_row _ _ 3 _ _ _ hbb,cell_of_row _ _ 4 _ _ _ hbb,cell_of_row _ _ 5 _ _ _ hbb⟩)⟩; clear hp1 hc1)
     |fail)
   all_goals
    clear K0 K1
    try go_wp2_with fail
    go_ret
    obtain ⟨col',hst',hrec,_⟩:=H8.out.drvd (H8.out.devg HP1.out HC1.out) (HC1.out.mono (fun k hk=>.inl hk)) (fun k hk=>hk) (fun k hk=>.inl hk) (fun k hk hg=>hg.elim (Him.out k hk) (fun h2=>by have h3:=hk.1; omega)) H8.out.n
    rw [Hde.out]
    have HC07:Chg (Fl col) w w7.drew:=((Chg.of_below HB06.out).two (H6.out.chg1 (HS7.out.chg (F:=fun k=>k=b) rfl))).drew
    exact ⟨col',_,rfl,hst',HC07.two (HC1.out.mono Fl.of_d),Rec.refl.trans hrec HC07.size⟩
end Go.Proofs.YtlomdfbnicbceaaGreat
namespace Go.Proofs.YtlomdfbnicbceaaGreat
open Go.RowKit
theorem rquiet_any (col:Nat→Nat) (w:World) (b bd N:Nat) (x:Sv) (s:St) (h:StAt Tr col w b bd N x s) :
  Calls Tryz.prog 14 #[.pointer (some ⟨b,0,none⟩)] w (Ret (.bool s.quiet) w):=by
 obtain ⟨p0,e0,n0,q0⟩:=h.ptr 0 (by omega)
 obtain ⟨p1,e1,n1,q1⟩:=h.ptr 1 (by omega)
 obtain ⟨p2,e2,n2,q2⟩:=h.ptr 2 (by omega)
 obtain ⟨Aw,cw,hxw,_,_⟩:=h.wait.form
 obtain ⟨_,hk32,hn32,wv,lv,ds,hrowd,_,hld,hds,_⟩:=h.drv.dev
 obtain ⟨Ad,cd,hlv,_,_⟩:=hld.form
 subst hlv
 have hdl:ds.length=s.v.d.l.length:=by rw [← hds,List.length_map]
 have c0:w.cell? ⟨b,0,none⟩=some (.pointer (some ⟨bd,0,none⟩)):=h.cell 0
 have c3:w.cell? ⟨b,3,none⟩=some (.slice Aw s.wait.length cw):=(h.cell 3).trans (by rw [← hxw]; rfl)
 have c11:w.cell? ⟨b,11,none⟩=some (.pointer p0):=(h.cell 11).trans (by rw [← e0]; rfl)
 have c12:w.cell? ⟨b,12,none⟩=some (.pointer p1):=(h.cell 12).trans (by rw [← e1]; rfl)
 have c13:w.cell? ⟨b,13,none⟩=some (.pointer p2):=(h.cell 13).trans (by rw [← e2]; rfl)
 have c65:w.cell? ⟨bd,65,none⟩=some (.slice Ad s.v.d.l.length cd):=by rw [← hdl,cell_of_row _ _ _ _ _ _ hrowd]; simpa using devCells_at_l s.v.d wv _ hk32 hn32
 have HQ:=Lib.hid (quiet_iff h.asks)
 have Q0:=Lib.hid q0
 have Q1:=Lib.hid q1
 have Q2:=Lib.hid q2
 clear h e0 e1 e2 q0 q1 q2 hxw hrowd hld hds hdl hk32 hn32
 have hno:∀ c,c<3→(∃ a,s.askAt c=some a)→s.quiet=false:=fun c hc ⟨a,ha⟩=>by
  rw [Bool.eq_false_iff]
  intro hq
  rw [(HQ.out.1 hq).1 c hc] at ha
  cases ha
 have Hno:=Lib.hid hno
 clear hno
 cases ho0:s.askAt 0 with
 |some a =>
  obtain ⟨ba,rfl⟩:=Q0.out a ho0
  have HE:=Lib.hid (Hno.out 0 (by omega) ⟨a,ho0⟩)
  clear ho0 n0 n1 n2
  go_enter Tryz.func14,Tryz.ntmps14
  go_wp2_with fail
  go_ret
  rw [HE.out]
  exact ⟨rfl,Below.refl _ _⟩
 |none =>
  obtain rfl:=n0 ho0
  have Ho0:=Lib.hid ho0
  clear ho0 n0
  cases ho1:s.askAt 1 with
  |some a =>
   obtain ⟨ba,rfl⟩:=Q1.out a ho1
   have HE:=Lib.hid (Hno.out 1 (by omega) ⟨a,ho1⟩)
   clear ho1 n1 n2
   go_enter Tryz.func14,Tryz.ntmps14
   go_wp2_with fail
   go_ret
   rw [HE.out]
   exact ⟨rfl,Below.refl _ _⟩
  |none =>
   obtain rfl:=n1 ho1
   have Ho1:=Lib.hid ho1
   clear ho1 n1
   cases ho2:s.askAt 2 with
   |some a =>
    obtain ⟨ba,rfl⟩:=Q2.out a ho2
    have HE:=Lib.hid (Hno.out 2 (by omega) ⟨a,ho2⟩)
    clear ho2 n2
    go_enter Tryz.func14,Tryz.ntmps14
    go_wp2_with fail
    go_ret
    rw [HE.out]
    exact ⟨rfl,Below.refl _ _⟩
   |none =>
    obtain rfl:=n2 ho2
    have Ho2:=Lib.hid ho2
    clear ho2 n2
    by_cases hw:s.wait=[]
    ·have hl0:s.wait.length=0:=by rw [hw]; rfl
     rw [hl0] at c3
     have Hw:=Lib.hid hw
     clear hw hl0
     by_cases hd:s.v.d.l=[]
     ·have hl0:s.v.d.l.length=0:=by rw [hd]; rfl
      rw [hl0] at c65
      have HE:Hid (s.quiet=true):=show _=_ from HQ.out.2 ⟨fun c hc=>by
       match c,hc with
       |0,_=>exact Ho0.out
       |1,_=>exact Ho1.out
       |2,_=>exact Ho2.out,Hw.out,hd⟩
      clear hd hl0
      go_enter Tryz.func14,Tryz.ntmps14
      go_wp2_with fail
      go_ret
      rw [HE.out]
      exact ⟨rfl,Below.refl _ _⟩
     ·have hl1:(((s.v.d.l.length:Nat):Int) == 0)=false:=by simp only [beq_eq_false_iff_ne]; have:=List.length_pos_iff.2 hd; omega
      have HE:Hid (s.quiet=false):=show _=_ by
       rw [Bool.eq_false_iff]; exact fun hq=>hd (HQ.out.1 hq).2.2
      clear hd
      generalize s.v.d.l.length=n at *
      go_enter Tryz.func14,Tryz.ntmps14
      go_wp2_with fail
      go_ret
      rw [HE.out]
      exact ⟨rfl,Below.refl _ _⟩
    ·have hl1:(((s.wait.length:Nat):Int) == 0)=false:=by simp only [beq_eq_false_iff_ne]; have:=List.length_pos_iff.2 hw; omega
     have HE:Hid (s.quiet=false):=show _=_ by
      rw [Bool.eq_false_iff]; exact fun hq=>hw (HQ.out.1 hq).2.1
     clear hw
     generalize s.wait.length=n at *
     go_enter Tryz.func14,Tryz.ntmps14
     go_wp2_with fail
     go_ret
     rw [HE.out]
     exact ⟨rfl,Below.refl _ _⟩
end Go.Proofs.YtlomdfbnicbceaaGreat
namespace Go.Proofs.YtlomdfbnicbceaaGreat
open Go.RowKit Go.Sort
theorem rround_any (col:Nat→Nat) (w:World) (b bd N:Nat) (x:Sv) (s:St) (K:Int) (h:StAt Tr col w b bd N x s) (hI:Inv s) (hB:Bd K s) (h0:0≤K) (hK:K≤600000000) (hN:N≤900000000) :
  Calls Tryz.prog 30 #[.pointer (some ⟨b,0,none⟩)] w (Ret5 Tr col w b bd (N+2) s.round (.tuple #[])):=by
 have H:=Lib.hid h
 have HI:=Lib.hid hI
 have HB:=Lib.hid hB
 clear h hI hB
 go_enter Tryz.func30,Tryz.ntmps30
 go_wp2_with fail
 refine (rtick_any col w b bd N x s K H.out HI.out HB.out h0 (by omega)).mono ?_
 rintro e w1 ⟨col1,y1,rfl,hst1,hc1,hr1⟩
 have HR1:=Lib.hid hr1
 have Hst1:=Lib.hid hst1
 have HC1:=Lib.hid hc1
 have HI1:=Lib.hid HI.out.tick
 have HB1:=Lib.hid (HB.out.tick h0)
 clear hst1 hc1 hr1
 go_wp2_with fail
 refine (rclean_st col1 w1 b bd N y1 s.tick Hst1.out HI1.out ⟨by have:=HB1.out.use; omega,by have:=HB1.out.tag; omega⟩).mono ?_
 rintro e w2 ⟨y2,rfl,hst2,hc2,_⟩
 have Hst2:=Lib.hid hst2
 have HC2:=Lib.hid (HC1.out.recol (Hst1.out.chg1 hc2) HR1.out.grow)
 have HI2:=Lib.hid HI1.out.clean
 have HB2:=Lib.hid HB1.out.clean
 clear hst2 hc2
 go_wp2_with fail
 go_loopw [] (fun wr=>∃ (k:Nat) (col':Nat→Nat) (y:Sv),Hid (StAt Tr col' wr b bd N y (goN s.tick.clean.1 k))∧Hid (Chg (Fl col) w wr)∧Hid (Rec col col' w wr)∧Hid (∀ j,j<k→(goN s.tick.clean.1 j).dispatch.2=true)) (fun wr=>roomAt bd wr)
 case atStart=>exact ⟨0,col1,y2,Hst2.out,HC2.out,⟨HR1.out.old,HR1.out.grow⟩,fun j hj=>by omega⟩
 case round =>
  obtain ⟨k,col',y,HS,HC,HR,HD⟩:=hrel
  have HIk:=Lib.hid (HI2.out.goN k)
  have HBk:=Lib.hid (HB2.out.goN k)
  go_wp2_with fail
  refine (rdispatch_any col' wr b bd N y _ HS.out HIk.out).mono ?_
  rintro e w3 ⟨c3,y3,rfl,hst3,hc3,hr3⟩
  have HC3:=Lib.hid (HC.out.recol hc3 HR.out.grow)
  have HR3:=Lib.hid (HR.out.trans hr3 HC.out.size)
  cases hd:(goN s.tick.clean.1 k).dispatch.2 with
  |true =>
   have Hst3:Hid (StAt Tr c3 w3 b bd N y3 (goN s.tick.clean.1 (k+1))):=hst3
   have HD3:Hid (∀ j,j<k+1→(goN s.tick.clean.1 j).dispatch.2=true):=fun j hj=>by
    rcases Nat.lt_or_ge j k with h | h
    ·exact HD.out j h
    ·obtain rfl:j=k:=by omega
     exact hd
   have Hm:Hid (roomAt bd w3<roomAt bd wr):=show _<_ by
    rw [Hst3.out.room,HS.out.room]
    have h1:=dispatch_len HIk.out hd
    have h2:=(HI2.out.goN (k+1)).dv.two
    show 3 - (goN s.tick.clean.1 k).dispatch.1.v.d.l.length<_
    have h2':(goN s.tick.clean.1 k).dispatch.1.v.d.l.length≤2:=h2
    omega
   clear hd hst3 hc3 hr3
   go_wp2_with fail
   go_roundw
   case rel=>exact ⟨k+1,c3,y3,Hst3.out,HC3.out,HR3.out,HD3.out⟩
   case measure=>exact Hm.out
  |false =>
   have He:=Lib.hid (goN_end HI2.out HD.out hd)
   have hst4:=hst3
   rw [dispatch_false hd,He.out] at hst4
   have Hst4:=Lib.hid hst4
   have HI4:=Lib.hid (HI2.out.go)
   have HB4:Hid (Bd (K+3+1) s.tick.clean.1.go):=He.out▸HBk.out
   clear hd hst3 hc3 hr3 hst4
   go_wp2_with fail
   refine (rend_any c3 w3 b bd N y3 s.tick.clean.1.go 0 false (K+3+1) Hst4.out HI4.out HB4.out (by omega) (by omega) hN).mono ?_
   rintro e w4 hr4
   have Hr4:=Lib.hid (Ret5.after hr4 HC3.out HR3.out)
   obtain ⟨c4,y4,rfl,_⟩:=hr4
   go_wp2_with fail
   go_end0
   obtain ⟨c5,y5,_,h5,h6,h7⟩:=Hr4.out
   exact ⟨c5,y5,rfl,h5,h6,h7⟩
theorem rsettle_any (col:Nat→Nat) (w:World) (b bd N:Nat) (x:Sv) (s:St) (K:Int) (most:Nat) (h:StAt Tr col w b bd N x s) (hI:Inv s) (hB:Bd K s) (h0:0≤K) (hK:K+15 * most≤600000000) (hN:N+2 * most≤900000000) (hm:most≤1000000) :
  Calls Tryz.prog 32 #[.pointer (some ⟨b,0,none⟩),.int .i64 (most:Int)] w (Ret5 Tr col w b bd (N+2 * most) (St.settle most s).1 (.tuple #[.int .i64 ((St.settle most s).2:Nat),.bool (St.settle most s).1.quiet])):=by
 have H:=Lib.hid h
 have HI:=Lib.hid hI
 have HB:=Lib.hid hB
 clear h hI hB
 go_enter Tryz.func32,Tryz.ntmps32
 go_wp2_with fail
 go_loopw [6,7] (fun i _ wr=>∃ (k:Nat) (col':Nat→Nat) (y:Sv) (t:St),k≤most∧i=.int .i64 k∧Hid (StAt Tr col' wr b bd (N+2 * k) y t)∧Hid (Chg (Fl col) w wr)∧Hid (Rec col col' w wr)∧Hid (Inv t)∧Hid (Bd (K+15 * k) t)∧Hid (St.settle most s=((St.settle (most - k) t).1,(St.settle (most - k) t).2+k))) (fun i _ _=>most - (intOf i).toNat)
 case atStart=>exact ⟨0,col,x,s,by omega,rfl,H.out,Chg.refl,.refl,HI.out,HB.out.mono (by omega),rfl⟩
 case round =>
  obtain ⟨k,col',y,t,hk,rfl,HS,HC,HR,HIt,HBt,HE⟩:=hrel
  by_cases hlt:k<most
  ·have hlt2:(k:Int)<(most:Int):=by omega
   have hkk:(k:Int)<1000000:=by omega
   have HLT:=Lib.hid hlt
   go_wp2_with fail
   refine (rquiet_any col' wr b bd (N+2 * k) y t HS.out).mono ?_
   rintro e w1 ⟨rfl,hb1⟩
   have HS1:=Lib.hid (HS.out.below hb1)
   have HC1:=Lib.hid (HC.out.two (Chg.of_below hb1))
   clear hb1
   by_cases hq:t.quiet=true
   ·have HX:Hid (St.settle most s=(t,k)):=show _=_ by rw [HE.out,settle_quiet hq]; simp
    rw [hq]
    clear hq
    go_wp2_with fail
    refine (rquiet_any col' w1 b bd (N+2 * k) y t HS1.out).mono ?_
    rintro e w2 ⟨rfl,hb2⟩
    have HB2:=Lib.hid hb2
    clear hb2
    go_wp2_with fail
    go_ret2
    rw [HX.out]
    exact ⟨col',y,rfl,(HS1.out.below HB2.out).moreN (by have:=HLT.out; omega),HC1.out.two (Chg.of_below HB2.out),HR.out.old,HR.out.grow⟩
   ·have hq':t.quiet=false:=by simpa using hq
    rw [hq']
    have HX:Hid (St.settle most s=((St.settle (most - (k+1)) t.round).1,(St.settle (most - (k+1)) t.round).2+(k+1))):=show _=_ by
     rw [HE.out,show most - k=(most - (k+1))+1 by omega,settle_step hq']
     simp only [Prod.mk.injEq,true_and]
     omega
    clear hq hq'
    go_wp2_with fail
    refine (rround_any col' w1 b bd (N+2 * k) y t (K+15 * k) HS1.out HIt.out HBt.out (by omega) (by have:=HLT.out; omega) (by have:=HLT.out; omega)).mono ?_
    rintro e w2 hr2
    have Hr2:=Lib.hid (Ret5.after hr2 HC1.out ⟨HR.out.old,HR.out.grow⟩)
    obtain ⟨c2,y2,rfl,_⟩:=hr2
    obtain ⟨c3,y3,_,h3,h4,h5⟩:=Hr2.out
    have HS3:=Lib.hid h3
    have HC3:=Lib.hid h4
    have HR3:=Lib.hid h5
    have HI3:=Lib.hid HIt.out.round
    have HB3:=Lib.hid (HBt.out.round (by omega) HIt.out)
    clear h3 h4 h5 Hr2
    go_wp2_with fail
    go_roundw
    case rel=>exact ⟨k+1,c3,y3,_,by have:=HLT.out; omega,by go_num,HS3.out,HC3.out,HR3.out,HI3.out,HB3.out.mono (by omega),HX.out⟩
    case measure=>simp [intOf]; have:=HLT.out; omega
  ·obtain rfl:k=most:=by omega
   have hlt2:¬ (k:Int)<(k:Int):=by omega
   have HX:Hid (St.settle k s=(t,k)):=show _=_ by rw [HE.out,Nat.sub_self]; simp [St.settle]
   go_wp2_with fail
   refine (rquiet_any col' wr b bd (N+2 * k) y t HS.out).mono ?_
   rintro e w2 ⟨rfl,hb2⟩
   have HB2:=Lib.hid hb2
   clear hb2
   go_wp2_with fail
   go_ret2
   rw [HX.out]
   exact ⟨col',y,rfl,HS.out.below HB2.out,HC.out.two (Chg.of_below HB2.out),HR.out.old,HR.out.grow⟩
end Go.Proofs.YtlomdfbnicbceaaGreat
