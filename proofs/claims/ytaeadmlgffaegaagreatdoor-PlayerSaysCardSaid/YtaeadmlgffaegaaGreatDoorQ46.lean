/- The reference's Play. -/
import Derived.Test.YtaeadmlgffaegaaGreatDoorQ45
import Derived.Test.YtaeadmlgffaegaaGreatDoorQ39
set_option linter.unusedSimpArgs false
set_option linter.unusedVariables false
set_option maxRecDepth 100000
set_option maxHeartbeats 8000000
namespace Go.Proofs.YtaeadmlgffaegaaGreatDoor
open Go.RowKit Go.Sort
abbrev rplayG (W0:World) (col:Nat→Nat) (w:World) (p bd N:Nat) (s:St) (z:Stp) (K:Int):Prop:=Calls Tryz.prog 10 #[.pointer (some ⟨p,0,none⟩),stpV z] w (RetPlay Tr tPr W0 col w p bd N K s z)
section
variable {W0 w w1:World} {col:Nat→Nat} {p b bd bb N:Nat} {K:Int} {x:Sv} {s:St} {z:Stp}
theorem rplay_read (P:Pre Tr tPr 31 W0 col w w1 p b bd bb N x s z K) (hc:pcOf z.word=.read):rplayG W0 col w p bd N s z K:=by
 obtain ⟨hbb,HW,pc0,pc1,H1,KS,HX,Hpl,Hbl,Hbn,Hcb,HEE,Ha,H0,q0,hK,hN,HD,KD,HXD,c0,c1,d0,d1,d2,d3⟩:=P
 obtain ⟨h0,_⟩:=Wd.of hc
 have He:Hid (playM s z=((s.ask z.a 1 z.b noB).1,doneB (s.ask z.a 1 z.b noB).2)):=show _=_ by unfold playM; rw [hc]
 clear hc
 go_enter Tryz.func10,Tryz.ntmps10
 go_wp2_with fail
 rw [HW.out]
 go_region_held3 (fun u=>u.cell? ⟨p,0,none⟩=some (.pointer (some ⟨bd,0,none⟩))∧u.cell? ⟨p,1,none⟩=some (.pointer (some ⟨b,0,none⟩))∧u.cell? ⟨bb,0,none⟩=some (.string z.word)∧u.cell? ⟨bb,1,none⟩=some (.int .i64 z.a)∧u.cell? ⟨bb,2,none⟩=some (.int .i64 z.b)∧u.cell? ⟨bb,3,none⟩=some (.string z.data))
  (first | exact K2 | exact K1 | exact KD.out | exact KS.out)
  (first
   |(go_at_call 36; refine (rask_any col w1.drew b bd N x s z.a 1 z.b noB K HD.out.st HD.out.inv HD.out.bnd q0 (by omega)).mono ?_; rintro e u1 hr; obtain ⟨rfl,col2,y2,h2,hp2⟩:=HD.out.five hr (HD.out.inv.ask_ ..) (HD.out.bnd.ask q0 ..) (by omega); have hl1:=HD.out.call_cells h2 hp2 KD.out Hcb.out Hbn.out Hbl.out; have K1:=hl1.1; have H2:=Lib.hid h2; have HP:=Lib.hid hp2; have HL:=Lib.hid hl1.2; clear hr h2 hp2 hl1)
   |(go_at_call 35; refine (rdone_any _ u1 (ask_err ..)).mono ?_; rintro e u2 ⟨rfl,hb2⟩; have K2:=Ks.below K1 hb2 HL.out.1 HL.out.2; have HB2:=Lib.hid hb2; clear hb2))
 go_wp2_with fail
 go_ret
 unfold RetPlay
 rw [He.out]
 exact ⟨rfl,play_done H2.out HXD.out HP.out HB2.out H0.out.c9 (by omega) (by omega)⟩
theorem rplay_write (P:Pre Tr tPr 31 W0 col w w1 p b bd bb N x s z K) (hc:pcOf z.word=.write):rplayG W0 col w p bd N s z K:=by
 obtain ⟨hbb,HW,pc0,pc1,H1,KS,HX,Hpl,Hbl,Hbn,Hcb,HEE,Ha,H0,q0,hK,hN,HD,KD,HXD,c0,c1,d0,d1,d2,d3⟩:=P
 obtain ⟨h0,h1,_⟩:=Wd.of hc
 have He:Hid (playM s z=((s.ask z.a 2 z.b z.data).1,doneB (s.ask z.a 2 z.b z.data).2)):=show _=_ by unfold playM; rw [hc]
 clear hc
 go_enter Tryz.func10,Tryz.ntmps10
 go_wp2_with fail
 rw [HW.out]
 go_region_held3 (fun u=>u.cell? ⟨p,0,none⟩=some (.pointer (some ⟨bd,0,none⟩))∧u.cell? ⟨p,1,none⟩=some (.pointer (some ⟨b,0,none⟩))∧u.cell? ⟨bb,0,none⟩=some (.string z.word)∧u.cell? ⟨bb,1,none⟩=some (.int .i64 z.a)∧u.cell? ⟨bb,2,none⟩=some (.int .i64 z.b)∧u.cell? ⟨bb,3,none⟩=some (.string z.data))
  (first | exact K2 | exact K1 | exact KD.out | exact KS.out)
  (first
   |(go_at_call 36; refine (rask_any col w1.drew b bd N x s z.a 2 z.b z.data K HD.out.st HD.out.inv HD.out.bnd q0 (by omega)).mono ?_; rintro e u1 hr; obtain ⟨rfl,col2,y2,h2,hp2⟩:=HD.out.five hr (HD.out.inv.ask_ ..) (HD.out.bnd.ask q0 ..) (by omega); have hl1:=HD.out.call_cells h2 hp2 KD.out Hcb.out Hbn.out Hbl.out; have K1:=hl1.1; have H2:=Lib.hid h2; have HP:=Lib.hid hp2; have HL:=Lib.hid hl1.2; clear hr h2 hp2 hl1)
   |(go_at_call 35; refine (rdone_any _ u1 (ask_err ..)).mono ?_; rintro e u2 ⟨rfl,hb2⟩; have K2:=Ks.below K1 hb2 HL.out.1 HL.out.2; have HB2:=Lib.hid hb2; clear hb2))
 go_wp2_with fail
 go_ret
 unfold RetPlay
 rw [He.out]
 exact ⟨rfl,play_done H2.out HXD.out HP.out HB2.out H0.out.c9 (by omega) (by omega)⟩
theorem rplay_sync (P:Pre Tr tPr 31 W0 col w w1 p b bd bb N x s z K) (hc:pcOf z.word=.sync):rplayG W0 col w p bd N s z K:=by
 obtain ⟨hbb,HW,pc0,pc1,H1,KS,HX,Hpl,Hbl,Hbn,Hcb,HEE,Ha,H0,q0,hK,hN,HD,KD,HXD,c0,c1,d0,d1,d2,d3⟩:=P
 obtain ⟨h0,h1,h2,_⟩:=Wd.of hc
 have He:Hid (playM s z=((s.ask z.a 3 0 noB).1,doneB (s.ask z.a 3 0 noB).2)):=show _=_ by unfold playM; rw [hc]
 clear hc
 go_enter Tryz.func10,Tryz.ntmps10
 go_wp2_with fail
 rw [HW.out]
 go_region_held3 (fun u=>u.cell? ⟨p,0,none⟩=some (.pointer (some ⟨bd,0,none⟩))∧u.cell? ⟨p,1,none⟩=some (.pointer (some ⟨b,0,none⟩))∧u.cell? ⟨bb,0,none⟩=some (.string z.word)∧u.cell? ⟨bb,1,none⟩=some (.int .i64 z.a)∧u.cell? ⟨bb,2,none⟩=some (.int .i64 z.b)∧u.cell? ⟨bb,3,none⟩=some (.string z.data))
  (first | exact K2 | exact K1 | exact KD.out | exact KS.out)
  (first
   |(go_at_call 36; refine (rask_any col w1.drew b bd N x s z.a 3 0 noB K HD.out.st HD.out.inv HD.out.bnd q0 (by omega)).mono ?_; rintro e u1 hr; obtain ⟨rfl,col2,y2,h2,hp2⟩:=HD.out.five hr (HD.out.inv.ask_ ..) (HD.out.bnd.ask q0 ..) (by omega); have hl1:=HD.out.call_cells h2 hp2 KD.out Hcb.out Hbn.out Hbl.out; have K1:=hl1.1; have H2:=Lib.hid h2; have HP:=Lib.hid hp2; have HL:=Lib.hid hl1.2; clear hr h2 hp2 hl1)
   |(go_at_call 35; refine (rdone_any _ u1 (ask_err ..)).mono ?_; rintro e u2 ⟨rfl,hb2⟩; have K2:=Ks.below K1 hb2 HL.out.1 HL.out.2; have HB2:=Lib.hid hb2; clear hb2))
 go_wp2_with fail
 go_ret
 unfold RetPlay
 rw [He.out]
 exact ⟨rfl,play_done H2.out HXD.out HP.out HB2.out H0.out.c9 (by omega) (by omega)⟩
theorem rplay_got (P:Pre Tr tPr 31 W0 col w w1 p b bd bb N x s z K) (hc:pcOf z.word=.got):rplayG W0 col w p bd N s z K:=by
 obtain ⟨hbb,HW,pc0,pc1,H1,KS,HX,Hpl,Hbl,Hbn,Hcb,HEE,Ha,H0,q0,hK,hN,HD,KD,HXD,c0,c1,d0,d1,d2,d3⟩:=P
 obtain ⟨h0,h1,h2,h3,_⟩:=Wd.of hc
 have He:Hid (playM s z=(s,gotM s z.a)):=show _=_ by unfold playM; rw [hc]
 clear hc
 obtain ⟨zw,za,zb,zd⟩:=z
 obtain ⟨c,rfl⟩:∃ c:Nat,za=(c:Int):=⟨za.toNat,by have:=Ha.out.1; dsimp only at this; omega⟩
 dsimp only at *
 by_cases h3:3≤(c:Int)
 ·have He:Hid (playM s ⟨zw,(c:Int),zb,zd⟩=(s,doneB 5)):=show _=_ by rw [He.out]; unfold gotM; rw [if_pos h3]
  have g2:(2:Int)<(c:Int):=by omega
  go_enter Tryz.func10,Tryz.ntmps10
  go_wp2_with fail
  rw [HW.out]
  refine (rdone_any 5 w1 (by decide)).mono ?_
  rintro e u1 ⟨rfl,hb1⟩
  have HB1:=Lib.hid hb1
  clear hb1
  go_wp2_with fail
  go_ret
  unfold RetPlay
  rw [He.out]
  exact ⟨rfl,play_done H1.out HX.out (Pr.rest (Below.refl _ _)) HB1.out H0.out.c9 (by omega) (by omega)⟩
 have hc3:c<3:=by omega
 have g2:¬ (2:Int)<(c:Int):=by omega
 have g0:¬ (c:Int)<0:=by omega
 have HG:Hid (gotM s (c:Int)=if (s.askAt c).isSome then p_waitsB else if (s.got c).2≠0 then doneB (s.got c).2 else p_dataB ++ (s.got c).1):=show _=_ by unfold gotM; rw [if_neg h3,Int.toNat_natCast]
 obtain ⟨pa,ep,hn,hq⟩:=H1.out.st.ptr c hc3
 have cA:w1.cell? ⟨b,11+c,none⟩=some (.pointer pa):=(H1.out.st.cellA hc3).trans (congrArg some ep)
 have gA:=cell_regrown cA
 have gd:=cell_regrown d1
 have gc:=cell_regrown c1
 have key:((s.askAt c).isSome=false∧pa=none)∨((s.askAt c).isSome=true∧∃ ba:Nat,pa=some ⟨ba,0,none⟩):=by
  cases ho:s.askAt c with
  |none=>exact .inl ⟨rfl,hn ho⟩
  |some a=>exact .inr ⟨rfl,hq a ho⟩
 have G9:=Lib.hid (got_err H1.out.inv c)
 have G16:=Lib.hid (got_size H1.out.inv c)
 clear ep hn hq h3
 rcases key with ⟨e1,rfl⟩ | ⟨e1,ba,rfl⟩
 all_goals
  have HN:=Lib.hid e1
  clear e1
  go_enter Tryz.func10,Tryz.ntmps10
  go_wp2_with fail
  rw [HW.out]
  refine wp_region_quiet_below mixed (by kernel_rfl) ?_
  repeat (first | go_big_quiet_step (fail) | quiet_step (fail))
  refine wpQuiet_nil ?_
  intro _ hw'
  obtain ⟨⟨dq,osq⟩,hw''⟩:=hw'
  subst hw''
  have H4:=Lib.hid (below_regrown w1 dq osq)
  clear gA gd gc
  generalize grow (redrawn w1 dq) osq=w4 at H4 ⊢
  go_wp2_with fail
 rotate_left
 ·go_ret
  unfold RetPlay
  rw [He.out]
  dsimp only
  rw [HG.out,HN.out]
  exact ⟨rfl,play_done H1.out HX.out (Pr.rest (Below.refl _ _)) H4.out H0.out.c9 (by omega) (by omega)⟩
 have H5:=Lib.hid (H4.out.trans (((Below.refl w4.heap.size w4).drew).mono H4.out.size))
 have K4:w4.drew.cell? ⟨p,1,none⟩=some (.pointer (some ⟨b,0,none⟩))∧w4.drew.cell? ⟨bb,1,none⟩=some (.int .i64 (c:Int)):=⟨cell_b H5.out c1,cell_b H5.out d1⟩
 go_region_held3 (fun u=>u.cell? ⟨p,1,none⟩=some (.pointer (some ⟨b,0,none⟩))∧u.cell? ⟨bb,1,none⟩=some (.int .i64 (c:Int)))
  (first | exact K1 | exact K4)
  (first
   |(go_at_call 37; refine (rgot_any col w4.drew b bd N x s c (H1.out.st.below H5.out) hc3).mono ?_; rintro e u1 ⟨rfl,hb1⟩; have K1:=And.intro (cell_b hb1 K4.1) (cell_b hb1 K4.2); have HB1:=Lib.hid (H5.out.trans (hb1.mono H5.out.size)); clear hb1)
   |fail)
 clear K1
 generalize (s.got c).1=dd at *
 generalize (s.got c).2=n at *
 have g9:=G9.out
 have g16:=G16.out
 have z1:¬ (9223372036854775807<5+dd.size):=by omega
 by_cases he:n=0
 ·have He:Hid (playM s ⟨zw,(c:Int),zb,zd⟩=(s,(⟨#[100,97,116,97,32]⟩:ByteArray) ++ dd)):=show _=_ by rw [He.out,HG.out,HN.out,he]; rfl
  have e0:decide (0<n)=false:=by rw [he]; rfl
  clear he
  go_wp2_with fail
  go_ret
  unfold RetPlay
  rw [He.out]
  exact ⟨rfl,play_done H1.out HX.out (Pr.rest (Below.refl _ _)) HB1.out H0.out.c9 (by omega) (by omega)⟩
 ·have He:Hid (playM s ⟨zw,(c:Int),zb,zd⟩=(s,doneB n)):=show _=_ by rw [He.out,HG.out,HN.out,if_neg (by decide),if_pos he]
  have e0:decide (0<n)=true:=decide_eq_true (by omega)
  go_wp2_with fail
  refine (rdone_any n u1 (by omega)).mono ?_
  rintro e u2 ⟨rfl,hb2⟩
  have HB2:=Lib.hid (HB1.out.trans (hb2.mono HB1.out.size))
  clear hb2
  go_wp2_with fail
  go_ret
  unfold RetPlay
  rw [He.out]
  exact ⟨rfl,play_done H1.out HX.out (Pr.rest (Below.refl _ _)) HB2.out H0.out.c9 (by omega) (by omega)⟩
theorem rplay_tick (P:Pre Tr tPr 31 W0 col w w1 p b bd bb N x s z K) (hc:pcOf z.word=.tick):rplayG W0 col w p bd N s z K:=by
 obtain ⟨hbb,HW,pc0,pc1,H1,KS,HX,Hpl,Hbl,Hbn,Hcb,HEE,Ha,H0,q0,hK,hN,HD,KD,HXD,c0,c1,d0,d1,d2,d3⟩:=P
 obtain ⟨h0,h1,h2,h3,h4,_⟩:=Wd.of hc
 have He:Hid (playM s z=(s.tick,p_okB)):=show _=_ by unfold playM; rw [hc]
 clear hc
 go_enter Tryz.func10,Tryz.ntmps10
 go_wp2_with fail
 rw [HW.out]
 refine (rtick_any col w1 b bd N x s K H1.out.st H1.out.inv H1.out.bnd q0 (by omega)).mono ?_
 rintro e u1 hr
 obtain ⟨rfl,col2,y2,h2,hp2⟩:=H1.out.five hr (H1.out.inv.tick) (H1.out.bnd.tick q0) (by omega)
 have H2:=Lib.hid h2
 have HP:=Lib.hid hp2
 clear hr h2 hp2
 go_wp2_with fail
 go_ret
 unfold RetPlay
 rw [He.out]
 exact ⟨rfl,play_done H2.out HX.out HP.out (Below.refl _ _) H0.out.c9 (by omega) (by omega)⟩
theorem rplay_clean (P:Pre Tr tPr 31 W0 col w w1 p b bd bb N x s z K) (hc:pcOf z.word=.clean):rplayG W0 col w p bd N s z K:=by
 obtain ⟨hbb,HW,pc0,pc1,H1,KS,HX,Hpl,Hbl,Hbn,Hcb,HEE,Ha,H0,q0,hK,hN,HD,KD,HXD,c0,c1,d0,d1,d2,d3⟩:=P
 obtain ⟨h0,h1,h2,h3,h4,h5,_⟩:=Wd.of hc
 have He:Hid (playM s z=(s.clean.1,yesB s.clean.2)):=show _=_ by unfold playM; rw [hc]
 clear hc
 go_enter Tryz.func10,Tryz.ntmps10
 go_wp2_with fail
 rw [HW.out]
 refine (rclean_st col w1 b bd N x s H1.out.st H1.out.inv ⟨by have:=H1.out.bnd.use; omega,by have:=H1.out.bnd.tag; omega⟩).mono ?_
 rintro e u1 hr
 obtain ⟨rfl,col2,y2,h2,hp2⟩:=H1.out.two hr (H1.out.inv.clean) (H1.out.bnd.clean) (by omega)
 have H2:=Lib.hid h2
 have HP:=Lib.hid hp2
 clear hr h2 hp2
 go_wp2_with fail
 refine (ryes_any _ u1).mono ?_
 rintro e u2 ⟨rfl,hb2⟩
 have HB2:=Lib.hid hb2
 clear hb2
 go_wp2_with fail
 go_ret
 unfold RetPlay
 rw [He.out]
 exact ⟨rfl,play_done H2.out HX.out HP.out HB2.out H0.out.c9 (by omega) (by omega)⟩
theorem rplay_dispatch (P:Pre Tr tPr 31 W0 col w w1 p b bd bb N x s z K) (hc:pcOf z.word=.dispatch):rplayG W0 col w p bd N s z K:=by
 obtain ⟨hbb,HW,pc0,pc1,H1,KS,HX,Hpl,Hbl,Hbn,Hcb,HEE,Ha,H0,q0,hK,hN,HD,KD,HXD,c0,c1,d0,d1,d2,d3⟩:=P
 obtain ⟨h0,h1,h2,h3,h4,h5,h6,_⟩:=Wd.of hc
 have He:Hid (playM s z=(s.dispatch.1,yesB s.dispatch.2)):=show _=_ by unfold playM; rw [hc]
 clear hc
 go_enter Tryz.func10,Tryz.ntmps10
 go_wp2_with fail
 rw [HW.out]
 refine (rdispatch_any col w1 b bd N x s H1.out.st H1.out.inv).mono ?_
 rintro e u1 hr
 obtain ⟨rfl,col2,y2,h2,hp2⟩:=H1.out.five hr (H1.out.inv.dispatch) (H1.out.bnd.dispatch) (by omega)
 have H2:=Lib.hid h2
 have HP:=Lib.hid hp2
 clear hr h2 hp2
 go_wp2_with fail
 refine (ryes_any _ u1).mono ?_
 rintro e u2 ⟨rfl,hb2⟩
 have HB2:=Lib.hid hb2
 clear hb2
 go_wp2_with fail
 go_ret
 unfold RetPlay
 rw [He.out]
 exact ⟨rfl,play_done H2.out HX.out HP.out HB2.out H0.out.c9 (by omega) (by omega)⟩
theorem rplay_end_ (P:Pre Tr tPr 31 W0 col w w1 p b bd bb N x s z K) (hc:pcOf z.word=.end_):rplayG W0 col w p bd N s z K:=by
 obtain ⟨hbb,HW,pc0,pc1,H1,KS,HX,Hpl,Hbl,Hbn,Hcb,HEE,Ha,H0,q0,hK,hN,HD,KD,HXD,c0,c1,d0,d1,d2,d3⟩:=P
 obtain ⟨h0,h1,h2,h3,h4,h5,h6,h7,_⟩:=Wd.of hc
 have He:Hid (playM s z=((s.end_ z.a false).1,doneB (s.end_ z.a false).2)):=show _=_ by unfold playM; rw [hc]
 clear hc
 go_enter Tryz.func10,Tryz.ntmps10
 go_wp2_with fail
 rw [HW.out]
 go_region_held3 (fun u=>u.cell? ⟨p,0,none⟩=some (.pointer (some ⟨bd,0,none⟩))∧u.cell? ⟨p,1,none⟩=some (.pointer (some ⟨b,0,none⟩))∧u.cell? ⟨bb,0,none⟩=some (.string z.word)∧u.cell? ⟨bb,1,none⟩=some (.int .i64 z.a)∧u.cell? ⟨bb,2,none⟩=some (.int .i64 z.b)∧u.cell? ⟨bb,3,none⟩=some (.string z.data))
  (first | exact K2 | exact K1 | exact KD.out | exact KS.out)
  (first
   |(go_at_call 42; refine (rend_any col w1.drew b bd N x s z.a false K HD.out.st HD.out.inv HD.out.bnd q0 (by omega) (by omega)).mono ?_; rintro e u1 hr; obtain ⟨rfl,col2,y2,h2,hp2⟩:=HD.out.five hr (HD.out.inv.end_ ..) (HD.out.bnd.end_ q0 HD.out.inv ..) (by omega); have hl1:=HD.out.call_cells h2 hp2 KD.out Hcb.out Hbn.out Hbl.out; have K1:=hl1.1; have H2:=Lib.hid h2; have HP:=Lib.hid hp2; have HL:=Lib.hid hl1.2; clear hr h2 hp2 hl1)
   |(go_at_call 35; refine (rdone_any _ u1 (end_err ..)).mono ?_; rintro e u2 ⟨rfl,hb2⟩; have K2:=Ks.below K1 hb2 HL.out.1 HL.out.2; have HB2:=Lib.hid hb2; clear hb2))
 go_wp2_with fail
 go_ret
 unfold RetPlay
 rw [He.out]
 exact ⟨rfl,play_done H2.out HXD.out HP.out HB2.out H0.out.c9 (by omega) (by omega)⟩
theorem rplay_fault (P:Pre Tr tPr 31 W0 col w w1 p b bd bb N x s z K) (hc:pcOf z.word=.fault):rplayG W0 col w p bd N s z K:=by
 obtain ⟨hbb,HW,pc0,pc1,H1,KS,HX,Hpl,Hbl,Hbn,Hcb,HEE,Ha,H0,q0,hK,hN,HD,KD,HXD,c0,c1,d0,d1,d2,d3⟩:=P
 obtain ⟨h0,h1,h2,h3,h4,h5,h6,h7,h8,_⟩:=Wd.of hc
 have He:Hid (playM s z=((s.end_ z.a true).1,doneB (s.end_ z.a true).2)):=show _=_ by unfold playM; rw [hc]
 clear hc
 go_enter Tryz.func10,Tryz.ntmps10
 go_wp2_with fail
 rw [HW.out]
 go_region_held3 (fun u=>u.cell? ⟨p,0,none⟩=some (.pointer (some ⟨bd,0,none⟩))∧u.cell? ⟨p,1,none⟩=some (.pointer (some ⟨b,0,none⟩))∧u.cell? ⟨bb,0,none⟩=some (.string z.word)∧u.cell? ⟨bb,1,none⟩=some (.int .i64 z.a)∧u.cell? ⟨bb,2,none⟩=some (.int .i64 z.b)∧u.cell? ⟨bb,3,none⟩=some (.string z.data))
  (first | exact K2 | exact K1 | exact KD.out | exact KS.out)
  (first
   |(go_at_call 42; refine (rend_any col w1.drew b bd N x s z.a true K HD.out.st HD.out.inv HD.out.bnd q0 (by omega) (by omega)).mono ?_; rintro e u1 hr; obtain ⟨rfl,col2,y2,h2,hp2⟩:=HD.out.five hr (HD.out.inv.end_ ..) (HD.out.bnd.end_ q0 HD.out.inv ..) (by omega); have hl1:=HD.out.call_cells h2 hp2 KD.out Hcb.out Hbn.out Hbl.out; have K1:=hl1.1; have H2:=Lib.hid h2; have HP:=Lib.hid hp2; have HL:=Lib.hid hl1.2; clear hr h2 hp2 hl1)
   |(go_at_call 35; refine (rdone_any _ u1 (end_err ..)).mono ?_; rintro e u2 ⟨rfl,hb2⟩; have K2:=Ks.below K1 hb2 HL.out.1 HL.out.2; have HB2:=Lib.hid hb2; clear hb2))
 go_wp2_with fail
 go_ret
 unfold RetPlay
 rw [He.out]
 exact ⟨rfl,play_done H2.out HXD.out HP.out HB2.out H0.out.c9 (by omega) (by omega)⟩
theorem rplay_round (P:Pre Tr tPr 31 W0 col w w1 p b bd bb N x s z K) (hc:pcOf z.word=.round):rplayG W0 col w p bd N s z K:=by
 obtain ⟨hbb,HW,pc0,pc1,H1,KS,HX,Hpl,Hbl,Hbn,Hcb,HEE,Ha,H0,q0,hK,hN,HD,KD,HXD,c0,c1,d0,d1,d2,d3⟩:=P
 obtain ⟨h0,h1,h2,h3,h4,h5,h6,h7,h8,h9,_⟩:=Wd.of hc
 have He:Hid (playM s z=(s.round,p_okB)):=show _=_ by unfold playM; rw [hc]
 clear hc
 go_enter Tryz.func10,Tryz.ntmps10
 go_wp2_with fail
 rw [HW.out]
 refine (rround_any col w1 b bd N x s K H1.out.st H1.out.inv H1.out.bnd q0 (by omega) (by omega)).mono ?_
 rintro e u1 hr
 obtain ⟨rfl,col2,y2,h2,hp2⟩:=H1.out.five hr (H1.out.inv.round) (H1.out.bnd.round q0 H1.out.inv) (by omega)
 have H2:=Lib.hid h2
 have HP:=Lib.hid hp2
 clear hr h2 hp2
 go_wp2_with fail
 go_ret
 unfold RetPlay
 rw [He.out]
 exact ⟨rfl,play_done H2.out HX.out HP.out (Below.refl _ _) H0.out.c9 (by omega) (by omega)⟩
theorem rplay_settle (P:Pre Tr tPr 31 W0 col w w1 p b bd bb N x s z K) (hc:pcOf z.word=.settle):rplayG W0 col w p bd N s z K:=by
 obtain ⟨hbb,HW,pc0,pc1,H1,KS,HX,Hpl,Hbl,Hbn,Hcb,HEE,Ha,H0,q0,hK,hN,HD,KD,HXD,c0,c1,d0,d1,d2,d3⟩:=P
 obtain ⟨h0,h1,h2,h3,h4,h5,h6,h7,h8,h9,h10,_⟩:=Wd.of hc
 have He:Hid (playM s z=((St.settle z.a.toNat s).1,(itoaB ((St.settle z.a.toNat s).2:Nat) ++ p_spB) ++ yesB (St.settle z.a.toNat s).1.quiet)):=show _=_ by unfold playM; rw [hc]
 clear hc
 have hm0:z.a.toNat≤999:=by have:=Ha.out; omega
 have HM:Hid (z.a=((z.a.toNat:Nat):Int)):=show _=_ from (Int.toNat_of_nonneg Ha.out.1).symm
 have HQ:Hid ((St.settle z.a.toNat s).2≤999):=settle_le' s hm0
 go_enter Tryz.func10,Tryz.ntmps10
 go_wp2_with fail
 rw [HW.out]
 go_region_held3 (fun u=>u.cell? ⟨p,0,none⟩=some (.pointer (some ⟨bd,0,none⟩))∧u.cell? ⟨p,1,none⟩=some (.pointer (some ⟨b,0,none⟩))∧u.cell? ⟨bb,0,none⟩=some (.string z.word)∧u.cell? ⟨bb,1,none⟩=some (.int .i64 z.a)∧u.cell? ⟨bb,2,none⟩=some (.int .i64 z.b)∧u.cell? ⟨bb,3,none⟩=some (.string z.data))
  (first | exact K1 | exact KD.out | exact KS.out)
  (first
   |(go_at_call 44; rw [HM.out]; refine (rsettle_any col w1.drew b bd N x s K z.a.toNat HD.out.st HD.out.inv HD.out.bnd q0 (by omega) (by omega) (by omega)).mono ?_; rintro e u1 hr; obtain ⟨rfl,col2,y2,h2,hp2⟩:=HD.out.five hr HD.out.inv.settle (HD.out.bnd.settle q0 HD.out.inv) (by omega); have hl1:=HD.out.call_cells h2 hp2 KD.out Hcb.out Hbn.out Hbl.out; have K1:=hl1.1; have H2:=Lib.hid h2; have HP:=Lib.hid hp2; clear hr h2 hp2 hl1)
   |fail)
 clear K1
 generalize (St.settle z.a.toNat s).1=s2 at *
 generalize (St.settle z.a.toNat s).2=n2 at *
 have hq9:=HQ.out
 have s1:=itoaB_size (n2:Int) (by omega) (by omega)
 have Hi:=Lib.hid (fun w=>rdec_any (n2:Int) w (by omega) (by omega))
 have Hy:=Lib.hid (fun w=>ryes_any s2.quiet w)
 have s3:=yesB_size s2.quiet
 generalize itoaB (n2:Int)=dn at *
 generalize yesB s2.quiet=yq at *
 have z1:¬ (9223372036854775807<dn.size+1):=by omega
 have z2:¬ (9223372036854775807<dn.size+1+yq.size):=by omega
 go_wp2_with fail
 refine (Hi.out u1).mono ?_
 rintro e u2 ⟨rfl,hb2⟩
 have HB2:=Lib.hid hb2
 clear hb2
 go_wp2_with fail
 refine (Hy.out u2).mono ?_
 rintro e u3 ⟨rfl,hb3⟩
 have HB3:=Lib.hid hb3
 clear hb3
 go_wp2_with fail
 go_ret
 unfold RetPlay
 rw [He.out]
 exact ⟨rfl,play_done H2.out HXD.out HP.out (HB2.out.trans (HB3.out.mono HB2.out.size)) H0.out.c9 (by omega) (by omega)⟩
theorem rplay_queue (P:Pre Tr tPr 31 W0 col w w1 p b bd bb N x s z K) (hc:pcOf z.word=.queue):rplayG W0 col w p bd N s z K:=by
 obtain ⟨hbb,HW,pc0,pc1,H1,KS,HX,Hpl,Hbl,Hbn,Hcb,HEE,Ha,H0,q0,hK,hN,HD,KD,HXD,c0,c1,d0,d1,d2,d3⟩:=P
 obtain ⟨h0,h1,h2,h3,h4,h5,h6,h7,h8,h9,h10,h11,_⟩:=Wd.of hc
 have He:Hid (playM s z=(s,textsM s.wait)):=show _=_ by unfold playM; rw [hc]
 clear hc
 have q3:∀ o,(w.alloc o).cell? ⟨b,3,none⟩=some x.wait:=fun o=>cell_b ((Below.refl _ _).alloc (Nat.le_refl _) o) (H0.out.st.cell 3)
 go_enter Tryz.func10,Tryz.ntmps10
 go_wp2_with fail
 rw [HW.out]
 refine (rtexts_any _ s.wait _ w1 H1.out.st.wait (H1.out.inv.wait6) (wait_ok H1.out.inv)).mono ?_
 rintro e u1 ⟨rfl,hb1⟩
 have HB1:=Lib.hid hb1
 clear hb1
 go_wp2_with fail
 go_ret
 unfold RetPlay
 rw [He.out]
 exact ⟨rfl,play_done H1.out HX.out (Pr.rest (Below.refl _ _)) HB1.out H0.out.c9 (by omega) (by omega)⟩
theorem rplay_busy (P:Pre Tr tPr 31 W0 col w w1 p b bd bb N x s z K) (hc:pcOf z.word=.busy):rplayG W0 col w p bd N s z K:=by
 obtain ⟨hbb,HW,pc0,pc1,H1,KS,HX,Hpl,Hbl,Hbn,Hcb,HEE,Ha,H0,q0,hK,hN,HD,KD,HXD,c0,c1,d0,d1,d2,d3⟩:=P
 obtain ⟨h0,h1,h2,h3,h4,h5,h6,h7,h8,h9,h10,h11,h12,_⟩:=Wd.of hc
 have He:Hid (playM s z=(s,textsM s.v.d.l)):=show _=_ by unfold playM; rw [hc]
 clear hc
 have q0:∀ o,(w.alloc o).cell? ⟨b,0,none⟩=some (.pointer (some ⟨bd,0,none⟩)):=fun o=>cell_b ((Below.refl _ _).alloc (Nat.le_refl _) o) (H0.out.st.cell 0)
 obtain ⟨lv,c65,hl⟩:=H0.out.st.list
 have q65:∀ o,(w.alloc o).cell? ⟨bd,65,none⟩=some lv:=fun o=>cell_b ((Below.refl _ _).alloc (Nat.le_refl _) o) c65
 have Hl:=Lib.hid (hl.below (HX.out))
 clear hl c65
 go_enter Tryz.func10,Tryz.ntmps10
 go_wp2_with fail
 rw [HW.out]
 refine (rtexts_any _ s.v.d.l _ w1 Hl.out (Nat.le_trans H1.out.inv.dv.two (by decide)) (busy_ok H1.out.inv)).mono ?_
 rintro e u1 ⟨rfl,hb1⟩
 have HB1:=Lib.hid hb1
 clear hb1
 go_wp2_with fail
 go_ret
 unfold RetPlay
 rw [He.out]
 exact ⟨rfl,play_done H1.out HX.out (Pr.rest (Below.refl _ _)) HB1.out H0.out.c9 (by omega) (by omega)⟩
theorem rplay_dirty (P:Pre Tr tPr 31 W0 col w w1 p b bd bb N x s z K) (hc:pcOf z.word=.dirty):rplayG W0 col w p bd N s z K:=by
 obtain ⟨hbb,HW,pc0,pc1,H1,KS,HX,Hpl,Hbl,Hbn,Hcb,HEE,Ha,H0,q0,hK,hN,HD,KD,HXD,c0,c1,d0,d1,d2,d3⟩:=P
 obtain ⟨h0,h1,h2,h3,h4,h5,h6,h7,h8,h9,h10,h11,h12,h13,_⟩:=Wd.of hc
 have He:Hid (playM s z=(s,itoaB (dirtyB s.bufs:Nat))):=show _=_ by unfold playM; rw [hc]
 clear hc
 have q2:∀ o,(w.alloc o).cell? ⟨b,2,none⟩=some x.bufs:=fun o=>cell_b ((Below.refl _ _).alloc (Nat.le_refl _) o) (H0.out.st.cell 2)
 go_enter Tryz.func10,Tryz.ntmps10
 go_wp2_with fail
 rw [HW.out]
 refine (rdirty_any _ s.bufs _ w1 H1.out.st.bufs (by have:=H1.out.inv.len8; omega)).mono ?_
 rintro e u1 ⟨rfl,hb1⟩
 have HB1:=Lib.hid hb1
 clear hb1
 have Hd6:=Lib.hid H1.out.inv.dirty
 generalize dirtyB s.bufs=n2 at *
 go_wp2_with fail
 refine (rdec_any (n2:Int) u1 (by omega) (by have:=Hd6.out; omega)).mono ?_
 rintro e u2 ⟨rfl,hb2⟩
 have HB2:=Lib.hid hb2
 clear hb2
 go_wp2_with fail
 go_ret
 unfold RetPlay
 rw [He.out]
 exact ⟨rfl,play_done H1.out HX.out (Pr.rest (Below.refl _ _)) (HB1.out.trans (HB2.out.mono HB1.out.size)) H0.out.c9 (by omega) (by omega)⟩
theorem rplay_crash (P:Pre Tr tPr 31 W0 col w w1 p b bd bb N x s z K) (hc:pcOf z.word=.crash):rplayG W0 col w p bd N s z K:=by
 obtain ⟨hbb,HW,pc0,pc1,H1,KS,HX,Hpl,Hbl,Hbn,Hcb,HEE,Ha,H0,q0,hK,hN,HD,KD,HXD,c0,c1,d0,d1,d2,d3⟩:=P
 obtain ⟨h0,h1,h2,h3,h4,h5,h6,h7,h8,h9,h10,h11,h12,h13,h14,_⟩:=Wd.of hc
 obtain ⟨m,hm⟩:∃ m,z.a.toNat=m:=⟨_,rfl⟩
 have HMM:Hid (m≤999):=show _≤_ by have:=Ha.out; omega
 have He:Hid (playM s z=(St.new (s.v.d.crash m),p_okB)):=show _=_ by unfold playM; rw [hc]; rw [hm]
 clear hc
 have hwr:IntKind.u64.wrap z.a=(m:Int):=by
  have:=Ha.out
  have e:(m:Int)=z.a:=by omega
  rw [e]
  unfold IntKind.wrap
  simp [IntKind.bits,IntKind.signed]
  omega
 clear hm
 go_enter Tryz.func10,Tryz.ntmps10
 go_wp2_with fail
 rw [HW.out]
 go_region_held3 (fun u=>u.cell? ⟨p,0,none⟩=some (.pointer (some ⟨bd,0,none⟩))∧u.cell? ⟨p,1,none⟩=some (.pointer (some ⟨b,0,none⟩))∧u.cell? ⟨bb,0,none⟩=some (.string z.word)∧u.cell? ⟨bb,1,none⟩=some (.int .i64 z.a)∧u.cell? ⟨bb,2,none⟩=some (.int .i64 z.b)∧u.cell? ⟨bb,3,none⟩=some (.string z.data))
  (first | exact K1 | exact KD.out | exact KS.out)
  (first
   |(go_at_call 48; refine (rdevcrash_any (Im w1.drew col) (Fd col) w1.drew bd s.v.d m (by have:=HMM.out; omega) HD.out.st.drv.dev (fun q hq=>(HD.out.inv.dv.waits q hq).1) (by have:=HD.out.bnd.waits; omega) (fun k hk=>HD.out.st.lt k (by rw [show col k=4 from hk]; decide)) (fun k hk hf=>by have h1:col k=4:=hf; rw [hk.2] at h1; cases h1)).mono ?_; rintro e u1 ⟨rfl,hd2,hc2⟩; have K1:=KD.out.keep hc2 (fun e=>by have e:col p=4:=e; rw [H0.out.c9] at e; cases e) (fun e=>Hcb.out ⟨by rw [show col bb=4 from e]; decide,by rw [show col bb=4 from e]; decide⟩) Hpl.out Hbl.out; have HC:=Lib.hid hc2; have HV:=Lib.hid hd2; clear hc2 hd2)
   |fail)
 obtain ⟨e0,e1,_,_,_,_⟩:=K1
 have HR1:Hid (u1.heap[p]?=some (.cells #[.pointer (some ⟨bd,0,none⟩),.pointer (some ⟨b,0,none⟩)] tPr (0,0))):=(HC.out.block p Hpl.out (fun e=>by have e:col p=4:=e; rw [H0.out.c9] at e; cases e)).trans HD.out.row
 go_wp2_with fail
 refine (rstnew_any (fun _=>False) (Fd col) u1 bd (s.v.d.crash m) (HV.out.bare rfl) (fun k hk=>Nat.lt_of_lt_of_le (HD.out.st.lt k (by rw [show col k=4 from hk]; decide)) HC.out.size) (fun k hk=>hk.elim) (fun k hk=>hk.elim)).mono ?_
 rintro e u2 ⟨b2,col2,y2,rfl,hs2,hb2,hf2,hlo⟩
 have hR2:u2.heap[p]?=some (.cells #[.pointer (some ⟨bd,0,none⟩),.pointer (some ⟨b,0,none⟩)] tPr (0,0)):=(hb2.block p (Array.getElem?_eq_some_iff.1 HR1.out).1).trans HR1.out
 have g1:u2.cell? ⟨p,1,none⟩=some (.pointer (some ⟨b,0,none⟩)):=cell_of_row _ _ 1 _ _ _ hR2
 have gf:∀ k,u2.frozen? ⟨p,k,none⟩=false:=fun k=>frozen_of_row _ _ k _ _ hR2
 have HR2:=Lib.hid hR2
 have HS2:=Lib.hid hs2
 have HB2:=Lib.hid hb2
 have HF2:=Lib.hid hf2
 clear hR2 hs2 hb2 hf2 hlo e0 e1
 go_wp2_with fail
 go_ret
 unfold RetPlay
 rw [He.out]
 obtain ⟨col',h3,hp3⟩:=HD.out.crashed (m:=m) HC.out HS2.out HB2.out HF2.out (Same1.refl.setCell 1 (.pointer (some ⟨b2,0,none⟩))) (heap_setCell_same _ _ 1 _ _ _ HR2.out) (Bd.newB rfl)
 exact ⟨rfl,col',b2,y2,h3.mono (by omega) (by omega),hp3.before HXD.out⟩
theorem rplay_other (P:Pre Tr tPr 31 W0 col w w1 p b bd bb N x s z K) (hc:pcOf z.word=.other):rplayG W0 col w p bd N s z K:=by
 obtain ⟨hbb,HW,pc0,pc1,H1,KS,HX,Hpl,Hbl,Hbn,Hcb,HEE,Ha,H0,q0,hK,hN,HD,KD,HXD,c0,c1,d0,d1,d2,d3⟩:=P
 obtain ⟨h0,h1,h2,h3,h4,h5,h6,h7,h8,h9,h10,h11,h12,h13,h14,_⟩:=Wd.of hc
 have He:Hid (playM s z=(s,p_okB)):=show _=_ by unfold playM; rw [hc]
 clear hc
 go_enter Tryz.func10,Tryz.ntmps10
 go_wp2_with fail
 rw [HW.out]
 go_ret
 unfold RetPlay
 rw [He.out]
 exact ⟨rfl,play_done H1.out HX.out (Pr.rest (Below.refl _ _)) (Below.refl _ _) H0.out.c9 (by omega) (by omega)⟩
end
theorem rplay_any (W0:World) (col:Nat→Nat) (w:World) (p b bd N:Nat) (x:Sv) (s:St) (z:Stp) (K:Int) (h:PlAt Tr tPr W0 w col p b bd N K x s) (hE:Env W0) (hK:K≤500000000) (hN:N≤800000000) (ha:0≤z.a∧z.a≤999):rplayG W0 col w p bd N s z K:=by
 obtain ⟨w1,bb,P⟩:=h.pre 31 z hE hK hN ha
 cases hc:pcOf z.word
 ·exact rplay_read P hc
 ·exact rplay_write P hc
 ·exact rplay_sync P hc
 ·exact rplay_got P hc
 ·exact rplay_tick P hc
 ·exact rplay_clean P hc
 ·exact rplay_dispatch P hc
 ·exact rplay_end_ P hc
 ·exact rplay_fault P hc
 ·exact rplay_round P hc
 ·exact rplay_settle P hc
 ·exact rplay_queue P hc
 ·exact rplay_busy P hc
 ·exact rplay_dirty P hc
 ·exact rplay_crash P hc
 ·exact rplay_other P hc
end Go.Proofs.YtaeadmlgffaegaaGreatDoor
namespace Go.Proofs.YtaeadmlgffaegaaGreatDoor
open Go.RowKit
theorem checkM_some {z:Stp} {k:Nat} (hk:formK z.word=some k) (h1:partsB k z=false) (h2:boundB z=false):checkM z=if blankB z.data || z.data.toList == [45] then 3 else 0:=by
 unfold checkM
 rw [hk]
 simp only [h1,h2]
 simp
theorem con2 (x:UInt8):([32,10]:List UInt8).contains x=(x == 32 || x == 10):=by
 rw [List.contains_cons,List.contains_cons,List.contains_nil,Bool.or_false]
theorem blank_hit {s:ByteArray} {i:Nat} {x:UInt8} (h:Lib.NoAny s.data.toList [32,10] i) (hx:s.data.toList[i]?=some x) (hc:([32,10]:List UInt8).contains x=true):blankB s=true:=by
 unfold blankB Lib.containsAny
 rw [Lib.indexAny_hit h hx hc]
 simp
theorem blank_none {s:ByteArray} (h:Lib.NoAny s.data.toList [32,10] s.size):blankB s=false:=by
 unfold blankB Lib.containsAny
 rw [Lib.indexAny_none (by rw [← Lib.size_eq]; exact h)]
 rfl
theorem formS_c:formS 0=[]∧formS 1=[97]∧formS 2=[97,98]∧formS 3=[97,98,100]:=⟨rfl,rfl,rfl,rfl⟩
theorem eqc (x c:UInt8):((x.toNat:Int) == (c.toNat:Int))=(x == c):=by
 rw [Bool.eq_iff_iff,beq_iff_eq,beq_iff_eq,← UInt8.toNat_inj]
 omega
theorem rfault_any (z:Stp) (w:World) (hs:z.word.size≤maxLen) (hds:z.data.size≤maxLen):Calls Tryz.prog 8 #[stpV z] w (Ret (.int .i64 (checkM z)) w):=by
 unfold maxLen at hds
 go_enter Tryz.func8,Tryz.ntmps8
 go_wp2_with fail
 have B:=StpBox.new 31 z w
 generalize World.alloc _ _=W at B ⊢
 generalize w.heap.size=bb at B ⊢
 obtain ⟨c0,c1,c2,c3⟩:=B.c
 have HB:=Lib.hid B
 clear B
 refine (rform_any z.word W).mono ?_
 rintro e w1 ⟨rfl,rfl⟩
 cases hk:formK z.word with
 |none =>
  have HM:Hid (checkM z=3):=show _=_ by unfold checkM; rw [hk]
  rw [formT_none hk]
  clear hk
  go_wp2
  go_ret
  exact ⟨by rw [HM.out]; rfl,HB.out.bel⟩
 |some k =>
  have h3:=formK_le hk
  rw [formT_some hk]
  have Hk:=Lib.hid hk
  clear hk
  go_upto_region 2 with fail
  go_cut [42] from 7 to 89 (fun v wx=>v=.bool (partsB k z)∧wx=W)
  case first =>
   rcases (by omega:k=0∨k=1∨k=2∨k=3) with rfl | rfl | rfl | rfl <;> simp only [formS_c] <;> rcases Bool.eq_false_or_eq_true (z.a != 0) with ha | ha <;> rcases Bool.eq_false_or_eq_true (z.b != 0) with hb | hb <;> rcases Bool.eq_false_or_eq_true z.data.toList.isEmpty with hd | hd
   all_goals
    go_wp2_with fail
    go_meet
    case rel=>exact ⟨by simp [partsB,ha,hb,hd],rfl⟩
  case rest =>
   obtain ⟨rfl,e⟩:=hcut
   rw [e]
   clear e
   cases hp:partsB k z with
   |true =>
    have HM:Hid (checkM z=3):=show _=_ by unfold checkM; rw [Hk.out]; simp only [hp]; rfl
    clear hp
    go_wp2
    go_ret
    exact ⟨by rw [HM.out]; rfl,HB.out.bel⟩
   |false =>
    have Hp:=Lib.hid hp
    clear hp
    go_upto_region 4 with fail
    go_cut [66] from 43 to 89 (fun v wx=>v=.bool (boundB z)∧wx=W)
    case first =>
     rcases Bool.eq_false_or_eq_true (decide (z.a<0)) with e1 | e1 <;> rcases Bool.eq_false_or_eq_true (decide (999<z.a)) with e2 | e2 <;> rcases Bool.eq_false_or_eq_true (decide (z.b<0)) with e3 | e3 <;> rcases Bool.eq_false_or_eq_true (decide (999<z.b)) with e4 | e4 <;> rcases Bool.eq_false_or_eq_true (decide (9<(z.data.size:Int))) with e5 | e5
     all_goals
      go_wp2_with fail
      go_meet
      case rel=>exact ⟨by unfold boundB; rw [e1,e2,e3,e4,e5]; rfl,rfl⟩
    case rest =>
     obtain ⟨rfl,e⟩:=hcut
     rw [e]
     clear e
     cases hb:boundB z with
     |true =>
      have HM:Hid (checkM z=1):=show _=_ by unfold checkM; rw [Hk.out]; simp only [Hp.out,hb]; rfl
      clear hb
      go_wp2
      go_ret
      exact ⟨by rw [HM.out]; rfl,HB.out.bel⟩
     |false =>
      have HC:=Lib.hid (checkM_some Hk.out Hp.out hb)
      clear hb c0 c1 c2 c3
      go_wp2
      go_loopw [5] (fun i wr=>∃ p:Nat,p≤z.data.size∧i=.int .i64 p∧wr=W∧Hid (Lib.NoAny z.data.data.toList [32,10] p)) (fun i _=>z.data.size - (intOf i).toNat)
      case atStart=>exact ⟨0,by omega,rfl,rfl,Lib.NoAny.zero _ _⟩
      case round =>
       obtain ⟨p,hp,rfl,rfl,hno⟩:=hrel
       obtain ⟨c0,c1,c2,c3⟩:=HB.out.c
       by_cases hlt:p<z.data.size
       ·obtain ⟨x,hx⟩:∃ x:UInt8,z.data[p]'hlt=x:=⟨_,rfl⟩
        have Hx:=Lib.hid (show z.data.data.toList[p]?=some x by rw [← hx]; exact Lib.data_getElem? z.data p hlt)
        have hp1:(p:Int)<(z.data.size:Int):=by omega
        have h32:((x.toNat:Int) == 32)=(x == 32):=eqc x 32
        have h10:((x.toNat:Int) == 10)=(x == 10):=eqc x 10
        have Hc:Hid (([32,10]:List UInt8).contains x=(x == 32 || x == 10)):=con2 x
        rcases Bool.eq_false_or_eq_true (x == 32) with e | e <;> rcases Bool.eq_false_or_eq_true (x == 10) with e2 | e2
        rotate_right
        ·rw [e] at h32
         rw [e2] at h10
         have hn2:=Lib.hid (hno.out.succ Hx.out (by rw [Hc.out,e,e2]; rfl))
         go_wp2
         go_round
         case measure=>simp [intOf]; omega
         case rel=>exact ⟨p+1,by omega,by first | rfl | simp,by trivial,hn2⟩
        all_goals
         rw [e] at h32
         rw [e2] at h10
         have HM:Hid (checkM z=3):=show _=_ by rw [HC.out,blank_hit hno.out Hx.out (by rw [Hc.out,e,e2]; rfl)]; rfl
         go_wp2
         go_ret
         exact ⟨by rw [HM.out]; rfl,HB.out.bel⟩
       ·obtain rfl:p=z.data.size:=by omega
        have hp1:¬ ((z.data.size:Int)<(z.data.size:Int)):=by omega
        have Hb:=Lib.hid (blank_none hno.out)
        cases hq:z.data.toList == [45]
        all_goals
         have HM:Hid (checkM z=_):=show _=_ by rw [HC.out,Hb.out,hq]
         go_wp2
         go_ret
         exact ⟨by rw [HM.out]; rfl,HB.out.bel⟩
end Go.Proofs.YtaeadmlgffaegaaGreatDoor
