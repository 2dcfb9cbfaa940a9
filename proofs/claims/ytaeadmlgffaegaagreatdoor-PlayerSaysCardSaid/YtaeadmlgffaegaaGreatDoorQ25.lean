/- wrong: who reads a sector that can't be read is told. -/
import Derived.Test.YtaeadmlgffaegaaGreatDoorQ24
set_option linter.unusedSimpArgs false
set_option linter.unusedVariables false
set_option maxRecDepth 100000
set_option maxHeartbeats 8000000
namespace Go.Proofs.YtaeadmlgffaegaaGreatDoor
open Go.RowKit Go.Sort
theorem wrong_start {col:Nat→Nat} {w:World} {b bd N:Nat} {x:Sv} {s:St} (h:StAt Ts col w b bd N x s) (O:Obj) :
  (StAt Ts col ((w.alloc O).setCell ⟨b,20,none⟩ (.bool true)) b bd N x { s with dead:=true }∧Chg (fun k=>k=b) w ((w.alloc O).setCell ⟨b,20,none⟩ (.bool true))∧((w.alloc O).setCell ⟨b,20,none⟩ (.bool true)).heap[w.heap.size]?=some O)
  ∧ (StAt Ts col (w.alloc O) b bd N x s∧Chg (fun k=>k=b) w (w.alloc O)∧(w.alloc O).heap[w.heap.size]?=some O):=by
 have hb:=(Below.refl w.heap.size w).alloc (Nat.le_refl _) O
 have h1:=h.below hb
 have hO:(w.alloc O).heap[w.heap.size]?=some O:=heap_alloc_new w _
 have hS:=(Same1.refl (b:=b) (w:=w.alloc O)).setCell 20 (.bool true)
 have hbl:=h.bl
 refine ⟨⟨h1.deadd hS (n:=true) (heap_setCell_same _ _ 20 _ _ _ h1.row),(Chg.of_below hb).two (hS.chg rfl),(hS.block _ (by omega)).trans hO⟩,h1,Chg.of_below hb,hO⟩
theorem wrong1_hit {s:St} {c:Nat} {a:Ak} {r:Rq} (h:s.askAt c=some a) (hw:r.write=false) (hk:a.kind=1) (hp:hasB r.lo r.many a.pos=true):St.wrong1 r s c=s.answer c noB 8:=by unfold St.wrong1; rw [h]; simp [hk,hp,hw]
theorem wrong1_miss {s:St} {c:Nat} {a:Ak} {r:Rq} (h:s.askAt c=some a) (hn:¬ (r.write=false∧a.kind=1∧hasB r.lo r.many a.pos=true)):St.wrong1 r s c=s:=by unfold St.wrong1; rw [h]; exact if_neg hn
def wrongN (r:Rq) (s:St):Nat→St
 |0=>s
 |n+1=>St.wrong1 r (wrongN r s n) n
theorem wrongN_3 (r:Rq) (s:St):wrongN r { s with dead:=s.dead || r.write } 3=s.wrong r:=rfl
theorem wrongN_ge (r:Rq) (s:St):∀ (n j:Nat),n≤j→(wrongN r s n).askAt j=s.askAt j
 |0,_,_=>rfl
 |n+1,j,h=>by rw [wrongN,wrong1_ne _ (by omega),wrongN_ge r s n j (by omega)]
theorem wrong1_nn (r:Rq) (s:St) (c:Nat) {j:Nat} (h:s.askAt j=none):(St.wrong1 r s c).askAt j=none:=by
 by_cases hj:j=c
 ·subst hj; rw [wrong1_none h]; exact h
 ·rw [wrong1_ne s hj]; exact h
theorem wrongN_nn (r:Rq) (s:St):∀ (n j:Nat),s.askAt j=none→(wrongN r s n).askAt j=none
 |0,_,h=>h
 |n+1,j,h=>by rw [wrongN]; exact wrong1_nn _ _ _ (wrongN_nn r s n j h)
theorem wrong_b (wb:Bool) (col:Nat→Nat) (w:World) (b bd N:Nat) (x:Sv) (s:St) (r:Rq) (hw:r.write=wb) (Ad At:Option Addr) (cd ct:Nat) (h:StAt Ts col w b bd N x s) (hI:Inv s) (hr:0≤r.lo∧r.lo≤40) :
  Calls Tryz.prog 66 #[.pointer (some ⟨b,0,none⟩),.agg #[.bool wb,.int .i64 r.lo,.int .i64 r.many,.slice Ad r.data.length cd,.slice At r.tags.length ct,.int .i64 r.born]] w (Ret2 Ts col w b bd N x (s.wrong r) (.tuple #[])):=by
 obtain ⟨O,hO⟩:∃ O,Obj.cells #[.bool wb,.int .i64 r.lo,.int .i64 r.many,.slice Ad r.data.length cd,.slice At r.tags.length ct,.int .i64 r.born] 123 (0,0)=O:=⟨_,rfl⟩
 obtain ⟨P,hR,hP⟩:=h.ptrs
 have hbl:=h.bl
 have hb1:=fun O=>(Below.refl w.heap.size w).alloc (Nat.le_refl _) O
 have c20:∀ O,(w.alloc O).cell? ⟨b,20,none⟩=some (.bool s.dead):=fun O=>(h.below (hb1 O)).cell 20
 have f20:∀ O,(w.alloc O).frozen? ⟨b,20,none⟩=false:=fun O=>(h.below (hb1 O)).frozen 20
 obtain ⟨B,hB⟩:∃ B,w.heap.size=B:=⟨_,rfl⟩
 have d0:∀ v1 v2 v3 v4 v5,(w.alloc (.cells #[.bool wb,v1,v2,v3,v4,v5] 123)).cell? ⟨B,0,none⟩=some (.bool wb):=fun _ _ _ _ _=>cell_of_row _ _ 0 _ _ _ (hB▸heap_alloc_new w _)
 have hR':∀ {u:World} {t:St},StAt Ts col u b bd N x t→u.rangeAt b 11 [.pointer (P 0),.pointer (P 1),.pointer (P 2)]:=fun hu=>asks_range hu (hP 0 (by omega)).1 (hP 1 (by omega)).1 (hP 2 (by omega)).1
 have HR1:=Lib.hid (fun O=>hR' (wrong_start h O).1.1)
 have HR2:=Lib.hid (fun O=>hR' (wrong_start h O).2.1)
 obtain ⟨s',hs'⟩:∃ s',(if wb then { s with dead:=true } else s)=s':=⟨_,rfl⟩
 have HL:Hid (∀ W,W=(if wb then (w.alloc O).setCell ⟨b,20,none⟩ (.bool true) else w.alloc O)→StAt Ts col W b bd N x s'∧Chg (fun k=>k=b) w W∧W.heap[B]?=some O):=show ∀ W,_→_ by
  intro W hW
  rw [hW,← hs',← hB]
  cases wb
  ·exact (wrong_start h O).2
  ·exact (wrong_start h O).1
 have HW3:Hid (s.wrong r=wrongN r s' 3):=show _=_ by
  have e:({ s with dead:=s.dead || r.write }:St)=s':=by rw [← hs',hw]; cases wb <;> simp
  rw [← wrongN_3,e]
 have HA':Hid (∀ c,s'.askAt c=s.askAt c):=show ∀ _,_ by intro c; rw [← hs']; cases wb <;> rfl
 have HO:=Lib.hid hO
 have HP:=Lib.hid hP
 have HI:=Lib.hid hI
 have Hw:=Lib.hid hw
 have Hr:=Lib.hid hr
 have Hne:Hid (B≠b):=show _≠_ by omega
 have Hs:Hid ((Tryz.prog.info? 98).map (·.size)=some 3):=show _=_ by kernel_rfl
 clear h hI hP hR hR' hw hb1 hbl hs' hO hr
 cases wb
 all_goals
  go_enter Tryz.func66,Tryz.ntmps66
  go_wp2_with (first | refine wpList_load_mid rfl 98 (.tmp 13) rfl b 11 rfl [.pointer (P 0),.pointer (P 1),.pointer (P 2)] _ (HR1.out _) Tryz.underlying98 rfl Hs.out ?_ | refine wpList_load_mid rfl 98 (.tmp 13) rfl b 11 rfl [.pointer (P 0),.pointer (P 1),.pointer (P 2)] _ (HR2.out _) Tryz.underlying98 rfl Hs.out ?_)
  clear c20 f20 d0 HR1 HR2 hB
  rw [HO.out]
  first
   |(generalize hW:World.setCell _ _ _=W; have hL:=HL.out W hW.symm)
   |(generalize hW:World.alloc _ _=W; have hL:=HL.out W hW.symm)
  obtain ⟨H2,HC2,HX2⟩:=hL
  clear hW HL
  go_loopw [15] (fun i wr=>∃ (k:Nat) (y:Sv),k≤3∧i=.int .i64 k∧Hid (StAt Ts col wr b bd N y (wrongN r s' k))∧Hid (Chg (fun k=>k=b) w wr)∧Hid (Avs x y (wrongN r s' k))∧Hid (wr.heap[B]?=some O)) (fun i _=>3 - (intOf i).toNat)
  case atStart=>exact ⟨0,x,by omega,rfl,H2,HC2,Avs.refl,HX2⟩
  case round =>
   obtain ⟨k,y,hk,rfl,HS,HC,HA,HX⟩:=hrel
   clear H2 HC2 HX2
   by_cases h3:k<3
   ·obtain ⟨E,N0,Q⟩:=HP.out k h3
    have i0:=idx_c P h3
    have hk3:(k:Int)<3:=by omega
    have hX:=HX.out
    rw [← HO.out] at hX
    have d0:=cell_of_row _ _ 0 _ _ _ hX
    have d1:=cell_of_row _ _ 1 _ _ _ hX
    have d2:=cell_of_row _ _ 2 _ _ _ hX
    clear hX
    cases ho:s.askAt k
    ·rw [N0 ho] at i0
     have He:Hid (wrongN r s' (k+1)=wrongN r s' k):=show _=_ from wrong1_none (wrongN_nn r s' k k ((HA'.out k).trans ho))
     clear ho N0 Q E
     go_wp2_with fail
     have g0:=fun d os=>cell_regrown d0 d os
     have g1:=fun d os=>cell_regrown d1 d os
     have g2:=fun d os=>cell_regrown d2 d os
     clear d0 d1 d2
     refine wp_region_quiet_below mixed (by kernel_rfl) ?_
     repeat (first | go_big_quiet_step ((fail)) | quiet_step ((fail)))
     refine wpQuiet_nil ?_
     intro _ hw'
     obtain ⟨⟨dq,osq⟩,hw''⟩:=hw'
     subst hw''
     have hb4:=below_regrown wr dq osq
     clear g0 g1 g2
     generalize grow (redrawn wr dq) osq=w4 at hb4 ⊢
     have HB4:=Lib.hid hb4
     clear hb4
     go_wp2_with fail
     go_roundw
     case rel=>exact ⟨k+1,y,by omega,by go_num,(show wrongN r s' (k+1)=_ from He.out)▸HS.out.below HB4.out,HC.out.two (Chg.of_below HB4.out),(show wrongN r s' (k+1)=_ from He.out)▸HA.out,(HB4.out.block _ (Array.getElem?_eq_some_iff.1 HX.out).1).trans HX.out⟩
     case measure=>simp [intOf]; omega
    ·rename_i a
     obtain ⟨ba,hp⟩:=Q a ho
     rw [hp] at i0 E
     have Ho:Hid ((wrongN r s' k).askAt k=some a):=show _=_ from (wrongN_ge r s' k k (by omega)).trans ((HA'.out k).trans ho)
     have Hy:Hid (y.av k=.pointer (some ⟨ba,0,none⟩)):=show _=_ from ((HA.out k h3).elim id (fun h=>by rw [Ho.out] at h; cases h)).trans E
     obtain ⟨lv,hrow,_,_⟩:=HS.out.askc h3 Ho.out Hy.out
     have k0:wr.cell? ⟨ba,0,none⟩=some (.int .i64 a.kind):=cell_of_row _ _ 0 _ _ _ hrow
     have k1:wr.cell? ⟨ba,1,none⟩=some (.int .i64 a.pos):=cell_of_row _ _ 1 _ _ _ hrow
     have Hok:=Lib.hid (HI.out.ask k a ho)
     clear ho hrow N0 Q E hp
     have Hcall:∀ hb,hasB r.lo r.many a.pos=hb→Hid (∀ u,Calls Tryz.prog 100 #[spanV r.lo r.many,.int .i64 a.pos] u (Ret (.bool hb) u)):=fun hb e u=>e▸has_any r.lo r.many a.pos u Hr.out.1 Hr.out.2 (by have:=Hok.out.lo; omega) (by have:=Hok.out.hi; omega)
     have He1:=fun h=>Lib.hid (wrong1_miss (r:=r) Ho.out h)
     have He2:=fun h1 h2 h3=>Lib.hid (wrong1_hit (r:=r) Ho.out h1 h2 h3)
     cases hh:hasB r.lo r.many a.pos
     all_goals
      have Hcall:=Hcall _ hh
      by_cases h1:a.kind=1
      all_goals
       have h2:(a.kind == 1)=decide (a.kind=1):=rfl
       simp only [h1,decide_true,decide_false] at h2
       try rw [h1] at k0
       first
        |have He:=He2 Hw.out h1 hh
        |have He:=He1 (fun h=>by first | exact absurd (Hw.out.symm.trans h.1) (by decide) | exact absurd (hh.symm.trans h.2.2) (by decide) | exact h1 h.2.1)
       clear He1 He2 hh h1
       go_wp2_with fail
       have g0:=fun d os=>cell_regrown d0 d os
       have g1:=fun d os=>cell_regrown d1 d os
       have g2:=fun d os=>cell_regrown d2 d os
       have g3:=fun d os=>cell_regrown k0 d os
       have g4:=fun d os=>cell_regrown k1 d os
       clear d0 d1 d2 k0 k1
       refine wp_region_quiet_below mixed (by kernel_rfl) ?_
       repeat (first | go_big_quiet_step ((exact Calls.rg (Hcall.out _))) | quiet_step ((exact Calls.rg (Hcall.out _))))
       refine wpQuiet_nil ?_
       intro _ hw'
       obtain ⟨⟨dq,osq⟩,hw''⟩:=hw'
       subst hw''
       have hb4:=below_regrown wr dq osq
       clear g0 g1 g2 g3 g4
       generalize grow (redrawn wr dq) osq=w4 at hb4 ⊢
       have HB4:=Lib.hid hb4
       clear hb4
       go_wp2_with fail
       first
        |(refine (answer_any col w4 b bd N y _ k noB 8 (HS.out.below HB4.out) h3).mono ?_
          rintro e w5 ⟨rfl,hs5,hst5⟩
          have Hst5:=Lib.hid hst5
          have HC5:=Lib.hid (hs5.chg (F:=fun k=>k=b) rfl)
          have HX5:Hid (w5.heap[B]?=_):=show _=_ from (hs5.block B Hne.out).trans ((HB4.out.block _ (Array.getElem?_eq_some_iff.1 HX.out).1).trans HX.out)
          clear hst5 hs5
          go_wp2_with fail
          go_roundw
          case rel=>exact ⟨k+1,_,by omega,by go_num,(show wrongN r s' (k+1)=_ from He.out)▸Hst5.out,(HC.out.two (Chg.of_below HB4.out)).two HC5.out,(show wrongN r s' (k+1)=_ from He.out)▸Avs.ans HA.out HS.out.asks h3,HX5.out⟩
          case measure=>simp [intOf]; omega)
        |(go_roundw
          case rel=>exact ⟨k+1,y,by omega,by go_num,(show wrongN r s' (k+1)=_ from He.out)▸HS.out.below HB4.out,HC.out.two (Chg.of_below HB4.out),(show wrongN r s' (k+1)=_ from He.out)▸HA.out,(HB4.out.block _ (Array.getElem?_eq_some_iff.1 HX.out).1).trans HX.out⟩
          case measure=>simp [intOf]; omega)
   ·obtain rfl:k=3:=by omega
    have hi:((3:Nat):Int)=3:=rfl
    go_wp2_with fail
    go_end0
    rw [HW3.out]
    exact ⟨_,rfl,HS.out,HC.out,HA.out⟩
theorem wrong_any (col:Nat→Nat) (w:World) (b bd N:Nat) (x:Sv) (s:St) (S:Nat→Prop) (rv:Value) (r:Rq) (h:StAt Ts col w b bd N x s) (hI:Inv s) (hr:ReqAt S w rv r) (hok:ReqOk r) :
  Calls Tryz.prog 66 #[.pointer (some ⟨b,0,none⟩),rv] w (Ret2 Ts col w b bd N x (s.wrong r) (.tuple #[])):=by
 obtain ⟨Ad,cd,At,ct,rfl,_,_,_,_,_,_,_⟩:=hr.opened
 obtain ⟨a1,a2,a3,a4,a5⟩:=hok.span
 unfold rqV
 rcases Bool.eq_false_or_eq_true r.write with hw | hw
 ·rw [hw]; exact wrong_b _ col w b bd N x s r hw Ad At cd ct h hI ⟨by omega,by omega⟩
 ·rw [hw]; exact wrong_b _ col w b bd N x s r hw Ad At cd ct h hI ⟨by omega,by omega⟩
end Go.Proofs.YtaeadmlgffaegaaGreatDoor
namespace Go.Proofs.YtaeadmlgffaegaaGreatDoor
open Go.RowKit Go.Sort
def RetSe (T:Tys) (col:Nat→Nat) (w:World) (b bd N:Nat) (x:Sv) (s:St) (v':Drv) (rs:Rs) (done:Bool) (ev:Value):Ending→World→Prop :=
 fun e w'=>∃ (col':Nat→Nat) (c:Rc) (ov:Value),e=.returned (.tuple #[.agg (rsCells c ov rs.err),.bool done,ev])∧c.r=rs.req∧RcOk (Im w' col') w' c∧StrsAt (Im w' col') w' ov rs.data ∧
  StAt T col' w' b bd (N+1) { x with n:=x.n+1 } { s with v:=v' }∧Chg (Fl col) w w'∧Rec col col' w w'
theorem stend_any (col:Nat→Nat) (w:World) (b bd N:Nat) (x:Sv) (s:St) (i:Int) (f:Bool) (h:StAt Ts col w b bd N x s) (hI:Inv s) (hw:s.v.d.waits.length≤900000000) (hN:N≤900000000) :
  Calls Tryz.prog 65 #[.pointer (some ⟨x.bv,0,none⟩),.int .i64 i,.bool f] w (RetSe Ts col w b bd N x s (s.v.endAt i f).1 (s.v.endAt i f).2.1 (s.v.endAt i f).2.2.1 (errV (s.v.endAt i f).2.2.2)):=by
 have hn:=h.n
 refine (drvend_any (Im w col) (Fd col) w x.bv bd x.bt x.n s.v i f h.drv hI.dv hw (by omega) (fun j _=>hI.tries j) (fun k (hk:col k=4)=>h.lt k (by omega)) StAt.imfd (fun k hk=>hk.1)).mono ?_
 rintro e w' ⟨v,F',S',rfl,⟨c,ov,rfl,hc,hok,hov⟩,hp,hch,hF,hSS,hS,hSF⟩
 obtain ⟨col',hst,hrec,him⟩:=h.drvd hp hch hF hS hSF (show x.n+1≤N+1 by omega)
 exact ⟨col',c,ov,rfl,hc,hok.more him,hov.more him,hst,hch.mono (fun k hk=>hk.elim (Fl.of_d k) (fun e=>by subst e; show col x.bt≠0∧col x.bt≠9; rw [h.ct]; decide)),hrec⟩
theorem Ret4.five {T:Tys} {col col':Nat→Nat} {w w1 w':World} {b bd N:Nat} {y:Sv} {t:St} {v:Value} {e:Ending} (hr:Ret4 T col' w1 b bd N y t v e w') (hc:Chg (Fl col) w w1) (hrec:Rec col col' w w1):Ret5 T col w b bd N t v e w':=by
 obtain ⟨z,h1,h2,h3,_⟩:=hr
 exact ⟨col',z,h1,h2,hc.recol h3 hrec.grow,hrec.old,hrec.grow⟩
theorem end_none (col:Nat→Nat) (w:World) (b bd N:Nat) (x:Sv) (s:St) (i:Int) (f:Bool) (h:StAt Ts col w b bd N x s) (hI:Inv s) (hw:s.v.d.waits.length≤900000000) (hN:N≤900000000) (hi:i<0∨(s.v.d.l.length:Int)≤i) :
  Calls Tryz.prog 26 #[.pointer (some ⟨b,0,none⟩),.int .i64 i,.bool f] w (Ret5 Ts col w b bd (N+1) (s.end_ i f).1 (errV (s.end_ i f).2)):=by
 have hcall:=stend_any col w b bd N x s i f h hI hw hN
 rw [drvEndAt_none _ _ _ hi] at hcall
 have He:Hid (s.end_ i f=(s,5)):=St.end_none s f hi
 have Hcall:=Lib.hid hcall
 have H:=Lib.hid h
 have c1:w.cell? ⟨b,1,none⟩=some (.pointer (some ⟨x.bv,0,none⟩)):=h.cell 1
 clear h hI hw hN hi hcall
 go_enter Tryz.func26,Tryz.ntmps26
 go_wp2_with fail
 refine Hcall.out.mono ?_
 rintro e w1 ⟨col',c,ov,rfl,hc,hok,hov,hst,hch,hrec⟩
 obtain ⟨Ad,cd,e1,_,_⟩:=hok.data.form
 obtain ⟨At,ct,e2,_,_⟩:=hok.tags.form
 obtain ⟨Ao,co,e3,_,_⟩:=hov.form
 obtain ⟨rr,rdv,rtv⟩:=c
 simp only at e1 e2 hc
 subst e1 e2 e3
 have Hst:=Lib.hid hst
 have Hch:=Lib.hid hch
 have Hrec:=Lib.hid hrec
 clear hc hok hov hst hch hrec c1
 unfold rsCells
 go_wp2_with fail
 go_ret
 rw [He.out]
 have hb1:=fun o=>(Below.refl w1.heap.size w1).alloc (Nat.le_refl _) o
 exact ⟨col',_,rfl,Hst.out.below (hb1 _),Hch.out.two (Chg.of_below (hb1 _)),Hrec.out.old,Hrec.out.grow⟩
theorem end_again (col:Nat→Nat) (w:World) (b bd N:Nat) (x:Sv) (s:St) (k:Nat) (r:Rq) (h:StAt Ts col w b bd N x s) (hI:Inv s) (hw:s.v.d.waits.length≤900000000) (hN:N≤900000000) (hk:s.v.d.l[k]?=some r) (h3:s.v.tries (tagOf r)+1<3) :
  Calls Tryz.prog 26 #[.pointer (some ⟨b,0,none⟩),.int .i64 (k:Int),.bool true] w (Ret5 Ts col w b bd (N+1) (s.end_ k true).1 (errV (s.end_ k true).2)):=by
 have hcall:=stend_any col w b bd N x s k true h hI hw hN
 rw [drvEndAt_again _ _ _ hk hI.dv.two h3,St.start_again hk hI.dv.two] at hcall
 have He:Hid (s.end_ k true=(s.again k r,0)):=St.end_again hk hI.dv.two h3
 have Hcall:=Lib.hid hcall
 have H:=Lib.hid h
 have c1:w.cell? ⟨b,1,none⟩=some (.pointer (some ⟨x.bv,0,none⟩)):=h.cell 1
 clear h hI hw hN hk h3 hcall
 go_enter Tryz.func26,Tryz.ntmps26
 go_wp2_with fail
 refine Hcall.out.mono ?_
 rintro e w1 ⟨col',c,ov,rfl,hc,hok,hov,hst,hch,hrec⟩
 obtain ⟨Ad,cd,e1,_,_⟩:=hok.data.form
 obtain ⟨At,ct,e2,_,_⟩:=hok.tags.form
 obtain ⟨Ao,co,e3,_,_⟩:=hov.form
 obtain ⟨rr,rdv,rtv⟩:=c
 simp only at e1 e2 hc
 subst e1 e2 e3
 have Hst:=Lib.hid hst
 have Hch:=Lib.hid hch
 have Hrec:=Lib.hid hrec
 clear hc hok hov hst hch hrec c1
 unfold rsCells
 go_wp2_with fail
 go_ret
 rw [He.out]
 have hb1:=fun o=>(Below.refl w1.heap.size w1).alloc (Nat.le_refl _) o
 exact ⟨col',_,rfl,Hst.out.below (hb1 _),Hch.out.two (Chg.of_below (hb1 _)),Hrec.out.old,Hrec.out.grow⟩
theorem end_gone (col:Nat→Nat) (w:World) (b bd N:Nat) (x:Sv) (s:St) (k:Nat) (r:Rq) (K:Int) (h:StAt Ts col w b bd N x s) (hI:Inv s) (hB:Bd K s) (h0:0≤K) (hK:K≤800000000) (hN:N≤900000000) (hk:s.v.d.l[k]?=some r) (h3:¬ s.v.tries (tagOf r)+1<3) :
  Calls Tryz.prog 26 #[.pointer (some ⟨b,0,none⟩),.int .i64 (k:Int),.bool true] w (Ret5 Ts col w b bd (N+1) (s.end_ k true).1 (errV (s.end_ k true).2)):=by
 have hcall:=stend_any col w b bd N x s k true h hI (by have:=hB.waits; omega) hN
 rw [drvEndAt_gone _ _ _ hk h3] at hcall
 have He:Hid (s.end_ k true=(((s.gone k r).wrong r).serve,0)):=St.end_gone hk h3
 have HIg:Hid (Inv (s.gone k r)):=hI.gone hk
 have HBg:Hid (Bd K (s.gone k r)):=show Bd _ _ from ⟨hB.use,hB.tag,hB.waits⟩
 have Hrok:Hid (ReqOk r):=reqF_zero (hI.dv.l r (List.mem_of_getElem? hk))
 have Hcall:=Lib.hid hcall
 have H:=Lib.hid h
 have c1:w.cell? ⟨b,1,none⟩=some (.pointer (some ⟨x.bv,0,none⟩)):=h.cell 1
 clear h hI hB hN hk h3 hcall
 go_enter Tryz.func26,Tryz.ntmps26
 go_wp2_with fail
 refine Hcall.out.mono ?_
 rintro e w1 ⟨col',c,ov,rfl,hc,hok,hov,hst,hch,hrec⟩
 obtain ⟨Ad,cd,e1,_,_⟩:=hok.data.form
 obtain ⟨At,ct,e2,_,_⟩:=hok.tags.form
 obtain ⟨Ao,co,e3,_,_⟩:=hov.form
 obtain ⟨rr,rdv,rtv⟩:=c
 simp only at e1 e2 hc
 subst e1 e2 e3
 subst hc
 have Hst:=Lib.hid hst
 have Hch:=Lib.hid hch
 have Hrec:=Lib.hid hrec
 have Hok:=Lib.hid hok
 have hb1:=fun o=>(Below.refl w1.heap.size w1).alloc (Nat.le_refl _) o
 have HB1:=Lib.hid hb1
 clear hok hov hst hch hrec c1 hb1
 unfold rsCells
 go_wp2_with fail
 have HB2:=Lib.hid (HB1.out (.cells #[.bool rr.write,.int .i64 rr.lo,.int .i64 rr.many,.slice Ad rr.data.length cd,.slice At rr.tags.length ct,.int .i64 rr.born,.slice Ao (0:Nat) co,.int .i64 8] 128))
 clear HB1
 refine (wrong_any col' _ b bd (N+1) _ (s.gone k rr) (Im w1 col') _ rr (Hst.out.below HB2.out) HIg.out (Hok.out.below HB2.out).req Hrok.out).mono ?_
 rintro e w3 ⟨y3,rfl,hst3,hc3,_⟩
 have Hst3:=Lib.hid hst3
 have HC3:Hid (Chg (Fl col) w w3):=show Chg _ _ _ from (Hch.out.two (Chg.of_below HB2.out)).recol (hst3.chg1 hc3) Hrec.out.grow
 have HIw:=Lib.hid (HIg.out.wrong rr)
 have HBw:=Lib.hid (HBg.out.wrong rr)
 clear hst3 hc3
 go_wp2_with fail
 refine (serve_any col' w3 b bd (N+1) _ _ K Hst3.out HIw.out HBw.out h0 hK).mono ?_
 rintro e w4 ⟨y4,rfl,hst4,hc4,_⟩
 have Hst4:=Lib.hid hst4
 have HC4:=Lib.hid (HC3.out.recol hc4 Hrec.out.grow)
 clear hst4 hc4
 go_wp2_with fail
 go_ret
 rw [He.out]
 exact ⟨col',_,rfl,Hst4.out,HC4.out,Hrec.out.old,Hrec.out.grow⟩
end Go.Proofs.YtaeadmlgffaegaaGreatDoor
namespace Go.Proofs.YtaeadmlgffaegaaGreatDoor
open Go.RowKit Go.Sort
theorem strs_cell {S:Nat→Prop} {w:World} {A:Option Addr} {n cap k:Nat} {l:List ByteArray} (h:StrsAt S w (.slice A n cap) l) (hk:k<l.length):∃ g off,A=some ⟨g,off,none⟩∧S g∧g<w.heap.size∧w.cell? ⟨g,off+k,none⟩=some (.string (l.getD k noB)):=by
 obtain ⟨g,off,e,hS,hlt,hc⟩:=h.at_ (by omega)
 refine ⟨g,off,e,hS,hlt,?_⟩
 have hx:l[k]?=some (l.getD k noB):=by rw [List.getD_eq_getElem?_getD,List.getElem?_eq_getElem hk]; rfl
 exact (hc k _ hx).1
theorem end_ok_w (col:Nat→Nat) (w:World) (b bd N:Nat) (x:Sv) (s:St) (k:Nat) (r:Rq) (K:Int) (h:StAt Ts col w b bd N x s) (hI:Inv s) (hB:Bd K s) (h0:0≤K) (hK:K≤700000000) (hN:N≤900000000) (hk:s.v.d.l[k]?=some r) (hwr:r.write=true) :
  Calls Tryz.prog 26 #[.pointer (some ⟨b,0,none⟩),.int .i64 (k:Int),.bool false] w (Ret5 Ts col w b bd (N+1) (s.end_ k false).1 (errV (s.end_ k false).2)):=by
 have hcall:=stend_any col w b bd N x s k false h hI (by have:=hB.waits; omega) hN
 rw [drvEndAt_ok _ _ _ hk,St.ended_res] at hcall
 have He:Hid (s.end_ k false=(((s.did k r).endedN r.write r.lo (s.outs r) r.many.toNat).serve,0)):=St.end_ok hk
 have Hrok:Hid (ReqOk r):=reqF_zero (hI.dv.l r (List.mem_of_getElem? hk))
 have Hdb:Hid (Bd (K+4) (s.did k r)):=show Bd _ _ from by
  have h1:=(hI.dv.ended Hrok.out k false).2
  exact ⟨by have:=hB.use; show s.use≤_; omega,by have:=hB.tag; show s.tag≤_; omega,by have:=hB.waits; show ((s.v.d.ended r k false).1.waits.length:Int)≤_; omega⟩
 have HIn:Hid (∀ n,n≤r.many.toNat→Inv ((s.did k r).endedN r.write r.lo (s.outs r) n)):=fun n hn=>hI.endedN hk n hn
 have Hout:Hid (s.outs r=r.data):=show _=_ by unfold St.outs; rw [if_pos hwr]
 have Hcall:=Lib.hid hcall
 have H:=Lib.hid h
 have c1:w.cell? ⟨b,1,none⟩=some (.pointer (some ⟨x.bv,0,none⟩)):=h.cell 1
 clear h hI hB hN hk hcall
 go_enter Tryz.func26,Tryz.ntmps26
 go_wp2_with fail
 refine Hcall.out.mono ?_
 rintro e w1 ⟨col',c,ov,rfl,hc,hok,hov,hst,hch,hrec⟩
 obtain ⟨Ad,cd,e1,_,_⟩:=hok.data.form
 obtain ⟨At,ct,e2,_,_⟩:=hok.tags.form
 obtain ⟨Ao,co,e3,_,_⟩:=hov.form
 obtain ⟨rr,rdv,rtv⟩:=c
 simp only at e1 e2 hc
 subst e1 e2 e3
 subst hc
 have Hwr:=Lib.hid hwr
 have Hst:=Lib.hid hst
 have Hch:=Lib.hid hch
 have Hrec:=Lib.hid hrec
 have Hok:=Lib.hid hok
 have hb1:=fun o=>(Below.refl w1.heap.size w1).alloc (Nat.le_refl _) o
 have HB1:=Lib.hid hb1
 clear hok hov hst hch hrec c1 hb1 hwr
 unfold rsCells
 simp only [Hwr.out]
 go_wp2_with fail
 obtain ⟨B,hBz⟩:∃ B,w1.heap.size=B:=⟨_,rfl⟩
 have HB2:=Lib.hid (HB1.out (.cells #[.bool true,.int .i64 rr.lo,.int .i64 rr.many,.slice Ad rr.data.length cd,.slice At rr.tags.length ct,.int .i64 rr.born,.slice Ao (0:Nat) co,.int .i64 0] 128))
 have HX:Hid ((w1.alloc (.cells #[.bool true,.int .i64 rr.lo,.int .i64 rr.many,.slice Ad rr.data.length cd,.slice At rr.tags.length ct,.int .i64 rr.born,.slice Ao (0:Nat) co,.int .i64 0] 128)).heap[B]?=some (.cells #[.bool true,.int .i64 rr.lo,.int .i64 rr.many,.slice Ad rr.data.length cd,.slice At rr.tags.length ct,.int .i64 rr.born,.slice Ao (0:Nat) co,.int .i64 0] 128 (0,0))):=show _=_ from hBz▸heap_alloc_new w1 _
 have HcB:Hid (col' B=0):=show _=_ by
  rcases Nat.eq_zero_or_pos (col' B) with h1 | h1
  ·exact h1
  ·have:=Hst.out.lt B (by omega); omega
 rw [hBz]
 have Hst2:=Lib.hid (Hst.out.below HB2.out)
 have Hch2:=Lib.hid (Hch.out.two (Chg.of_below HB2.out))
 have Hok2:=Lib.hid ((Hok.out.below HB2.out).data)
 clear HB1 HB2 hBz
 generalize World.alloc _ _=w2 at HX Hst2 Hch2 Hok2 ⊢
 obtain ⟨n,hn⟩:∃ n:Nat,rr.many.toNat=n:=⟨_,rfl⟩
 obtain ⟨a1,a2,a3,a4,a5⟩:=Hrok.out.span
 have hmn:rr.many=(n:Int):=by omega
 have Hmn:=Lib.hid hmn
 have Hn:=Lib.hid hn
 have Hlen:Hid (rr.data.length=n):=show _=_ by have:=Hrok.out.len Hwr.out; omega
 have hn4:n≤4:=by omega
 clear hmn hn
 go_loopw [47] (fun i wr=>∃ (m:Nat) (y:Sv),m≤n∧i=.int .i64 m∧Hid (StAt Ts col' wr b bd (N+1) y ((s.did k rr).endedN rr.write rr.lo (s.outs rr) m))∧Hid (Chg (Fl col') w2 wr)) (fun i _=>n - (intOf i).toNat)
 case atStart=>exact ⟨0,_,by omega,rfl,Hst2.out,Chg.refl⟩
 case round =>
  obtain ⟨m,y,hm,rfl,HS,HC⟩:=hrel
  have HXr:Hid (wr.heap[B]?=_):=show _=_ from (HC.out.block B (Array.getElem?_eq_some_iff.1 HX.out).1 (fun hf=>hf.1 HcB.out)).trans HX.out
  have d0:wr.cell? ⟨B,0,none⟩=some (.bool true):=cell_of_row _ _ 0 _ _ _ HXr.out
  have d1:wr.cell? ⟨B,1,none⟩=some (.int .i64 rr.lo):=cell_of_row _ _ 1 _ _ _ HXr.out
  have d3:wr.cell? ⟨B,3,none⟩=some (.slice Ad rr.data.length cd):=cell_of_row _ _ 3 _ _ _ HXr.out
  by_cases hlt:m<n
  ·have hlt2:(m:Int)<rr.many:=by rw [Hmn.out]; omega
   obtain ⟨g,off,eA,hSg,hgl,hgc⟩:=strs_cell (k:=m) Hok2.out (by rw [Hlen.out]; exact hlt)
   subst eA
   have hmd:m<rr.data.length:=by rw [Hlen.out]; exact hlt
   have dg:wr.cell? ⟨g,off+m,none⟩=some (.string (rr.data.getD m noB)):=by
    rw [← hgc]
    exact World.cell?_of_block (HC.out.block g hgl (fun hf=>by have h1:=hSg.2; exact hf.1 h1))
   obtain ⟨sd,hsd⟩:∃ z,rr.data.getD m noB=z:=⟨_,rfl⟩
   rw [hsd] at dg
   have Hsd:=Lib.hid hsd
   clear hsd
   have HE:Hid ((s.did k rr).endedN rr.write rr.lo (s.outs rr) (m+1)={ (s.did k rr).endedN rr.write rr.lo (s.outs rr) m with bufs:=cleanB ((s.did k rr).endedN rr.write rr.lo (s.outs rr) m).bufs (rr.lo+(m:Int)) sd }):=show _=_ by
    rw [St.endedN,Hout.out,Hsd.out]
    unfold St.ended1
    rw [if_pos Hwr.out]
   have hwrap:IntKind.i64.wrap (rr.lo+(m:Int))=rr.lo+(m:Int):=IntWalk.i64_in _ (by omega)
   have c2:wr.cell? ⟨b,2,none⟩=some y.bufs:=HS.out.cell 2
   have f2:=HS.out.frozen 2
   have HIm:=Lib.hid (HIn.out m (by rw [Hn.out]; omega))
   have HIm1:=Lib.hid (HIn.out (m+1) (by rw [Hn.out]; omega))
   have HSd:=Lib.hid (HS.out.below (Below.refl _ _).drew)
   have Hln:Hid (((s.did k rr).endedN rr.write rr.lo (s.outs rr) m).bufs.length≤65536):=show _≤_ by have:=HIm.out.len8; omega
   clear hgc hgl hSg
   go_wp2_with fail
   go_region_law
    (first
     |(go_simp
       go_at_call 67
       (with_reducible refine (clean_any (Im wr.drew col') _ y.bufs (rr.lo+(m:Int)) sd wr.drew HSd.out.bufs HIm.out.rises Hln.out).mono ?_)
       rintro e u2 ⟨v2,rfl,ho2,hb2⟩
       obtain ⟨A2,n2,m2,e2,en⟩:=own_slice' ho2
       subst e2
       subst en
       have Ho2:=Lib.hid ho2
       have HB2:=Lib.hid hb2
       have Hst3:=Lib.hid (HSd.out.below hb2)
       have f3:=Hst3.out.frozen 2
       have q3:u2.cell? ⟨b,2,none⟩=some y.bufs:=cell_b hb2 c2
       clear ho2 hb2)
     |fail)
   all_goals
    have hS3:=(Same1.refl (b:=b) (w:=u2)).setCell 2 (.slice A2 (cleanB ((s.did k rr).endedN rr.write rr.lo (s.outs rr) m).bufs (rr.lo+(m:Int)) sd).length m2)
    have hI3:=HIm1.out
    rw [HE.out] at hI3
    have hv3:BufsAt (S0 col') u2 (.slice A2 (cleanB ((s.did k rr).endedN rr.write rr.lo (s.outs rr) m).bufs (rr.lo+(m:Int)) sd).length m2) (cleanB ((s.did k rr).endedN rr.write rr.lo (s.outs rr) m).bufs (rr.lo+(m:Int)) sd):=bufs_of_own (fun k hk=>HSd.out.s0 k hk) Ho2.out (hI3.bok (by have:=(Hdb.out.endedN rr.write rr.lo (s.outs rr) m).use; show ((s.did k rr).endedN rr.write rr.lo (s.outs rr) m).use≤_; omega))
    have Hst4:=Lib.hid (Hst3.out.bufd hS3 hv3 (heap_setCell_same _ _ 2 _ _ _ Hst3.out.row))
    have HC4:Hid (Chg (Fl col') w2 (u2.setCell ⟨b,2,none⟩ (.slice A2 (cleanB ((s.did k rr).endedN rr.write rr.lo (s.outs rr) m).bufs (rr.lo+(m:Int)) sd).length m2))):=show Chg _ _ _ from (HC.out.drew.two (Chg.of_below HB2.out)).two (HSd.out.chg1 (hS3.chg (F:=fun k=>k=b) rfl))
    clear hS3 hI3 hv3 f3 q3 c2 f2 dg d0 d1 d3 hwrap
    generalize World.setCell _ _ _=u3 at Hst4 HC4 ⊢
    go_wp2_with fail
    go_roundw
    case rel=>exact ⟨m+1,_,by omega,by go_num,HE.out▸Hst4.out,HC4.out⟩
    case measure=>simp [intOf]; omega
  ·obtain rfl:m=n:=by omega
   have hlt2:¬ (m:Int)<rr.many:=by rw [Hmn.out]; omega
   have HIm:=Lib.hid (HIn.out m (by rw [Hn.out]; omega))
   have HBm:Hid (Bd (K+10) ((s.did k rr).endedN rr.write rr.lo (s.outs rr) m)):=show Bd _ _ from (Hdb.out.endedN rr.write rr.lo (s.outs rr) m).mono (by omega)
   clear d0 d1 d3
   go_wp2_with fail
   refine (serve_any col' wr b bd (N+1) y _ (K+10) HS.out HIm.out HBm.out (by omega) (by omega)).mono ?_
   rintro e w4 ⟨y4,rfl,hst4,hc4,_⟩
   have Hst4:=Lib.hid hst4
   have HC4:=Lib.hid ((Hch2.out.recol HC.out Hrec.out.grow).recol hc4 Hrec.out.grow)
   clear hst4 hc4
   go_wp2_with fail
   go_ret
   rw [He.out,Hn.out]
   exact ⟨col',_,rfl,Hst4.out,HC4.out,Hrec.out.old,Hrec.out.grow⟩
end Go.Proofs.YtaeadmlgffaegaaGreatDoor
