/- Play: a step is played. -/
import Derived.Test.YtaeadmlgffaegaaGreatDoorQ43
set_option linter.unusedSimpArgs false
set_option linter.unusedVariables false
set_option maxRecDepth 100000
set_option maxHeartbeats 8000000
namespace Go.Proofs.YtaeadmlgffaegaaGreatDoor
open Go.RowKit Go.Sort
abbrev playG (W0:World) (col:Nat→Nat) (w:World) (p bd N:Nat) (s:St) (z:Stp) (K:Int):Prop:=Calls Tryz.prog 9 #[.pointer (some ⟨p,0,none⟩),stpV z] w (RetPlay Ts tPl W0 col w p bd N K s z)
section
variable {W0 w w1:World} {col:Nat→Nat} {p b bd bb N:Nat} {K:Int} {x:Sv} {s:St} {z:Stp}
theorem play_read (P:Pre Ts tPl 30 W0 col w w1 p b bd bb N x s z K) (hc:pcOf z.word=.read):playG W0 col w p bd N s z K:=by
 obtain ⟨hbb,HW,pc0,pc1,H1,KS,HX,Hpl,Hbl,Hbn,Hcb,HEE,Ha,H0,q0,hK,hN,HD,KD,HXD,c0,c1,d0,d1,d2,d3⟩:=P
 obtain ⟨h0,_⟩:=Wd.of hc
 have He:Hid (playM s z=((s.ask z.a 1 z.b noB).1,doneB (s.ask z.a 1 z.b noB).2)):=show _=_ by unfold playM; rw [hc]
 clear hc
 go_enter Tryz.func9,Tryz.ntmps9
 go_wp2_with fail
 rw [HW.out]
 go_region_held3 (fun u=>u.cell? ⟨p,0,none⟩=some (.pointer (some ⟨bd,0,none⟩))∧u.cell? ⟨p,1,none⟩=some (.pointer (some ⟨b,0,none⟩))∧u.cell? ⟨bb,0,none⟩=some (.string z.word)∧u.cell? ⟨bb,1,none⟩=some (.int .i64 z.a)∧u.cell? ⟨bb,2,none⟩=some (.int .i64 z.b)∧u.cell? ⟨bb,3,none⟩=some (.string z.data))
  (first | exact K2 | exact K1 | exact KD.out | exact KS.out)
  (first
   |(go_at_call 20; refine (ask_any col w1.drew b bd N x s z.a 1 z.b noB K HD.out.st HD.out.inv HD.out.bnd q0 (by omega)).mono ?_; rintro e u1 hr; obtain ⟨rfl,col2,y2,h2,hp2⟩:=HD.out.five hr (HD.out.inv.ask_ ..) (HD.out.bnd.ask q0 ..) (by omega); have hl1:=HD.out.call_cells h2 hp2 KD.out Hcb.out Hbn.out Hbl.out; have K1:=hl1.1; have H2:=Lib.hid h2; have HP:=Lib.hid hp2; have HL:=Lib.hid hl1.2; clear hr h2 hp2 hl1)
   |(go_at_call 19; refine (done_any _ u1 (ask_err ..) (H2.out.env HEE.out)).mono ?_; rintro e u2 ⟨rfl,hb2⟩; have K2:=Ks.below K1 hb2 HL.out.1 HL.out.2; have HB2:=Lib.hid hb2; clear hb2))
 go_wp2_with fail
 go_ret
 unfold RetPlay
 rw [He.out]
 exact ⟨rfl,play_done H2.out HXD.out HP.out HB2.out H0.out.c9 (by omega) (by omega)⟩
theorem play_write (P:Pre Ts tPl 30 W0 col w w1 p b bd bb N x s z K) (hc:pcOf z.word=.write):playG W0 col w p bd N s z K:=by
 obtain ⟨hbb,HW,pc0,pc1,H1,KS,HX,Hpl,Hbl,Hbn,Hcb,HEE,Ha,H0,q0,hK,hN,HD,KD,HXD,c0,c1,d0,d1,d2,d3⟩:=P
 obtain ⟨h0,h1,_⟩:=Wd.of hc
 have He:Hid (playM s z=((s.ask z.a 2 z.b z.data).1,doneB (s.ask z.a 2 z.b z.data).2)):=show _=_ by unfold playM; rw [hc]
 clear hc
 go_enter Tryz.func9,Tryz.ntmps9
 go_wp2_with fail
 rw [HW.out]
 go_region_held3 (fun u=>u.cell? ⟨p,0,none⟩=some (.pointer (some ⟨bd,0,none⟩))∧u.cell? ⟨p,1,none⟩=some (.pointer (some ⟨b,0,none⟩))∧u.cell? ⟨bb,0,none⟩=some (.string z.word)∧u.cell? ⟨bb,1,none⟩=some (.int .i64 z.a)∧u.cell? ⟨bb,2,none⟩=some (.int .i64 z.b)∧u.cell? ⟨bb,3,none⟩=some (.string z.data))
  (first | exact K2 | exact K1 | exact KD.out | exact KS.out)
  (first
   |(go_at_call 20; refine (ask_any col w1.drew b bd N x s z.a 2 z.b z.data K HD.out.st HD.out.inv HD.out.bnd q0 (by omega)).mono ?_; rintro e u1 hr; obtain ⟨rfl,col2,y2,h2,hp2⟩:=HD.out.five hr (HD.out.inv.ask_ ..) (HD.out.bnd.ask q0 ..) (by omega); have hl1:=HD.out.call_cells h2 hp2 KD.out Hcb.out Hbn.out Hbl.out; have K1:=hl1.1; have H2:=Lib.hid h2; have HP:=Lib.hid hp2; have HL:=Lib.hid hl1.2; clear hr h2 hp2 hl1)
   |(go_at_call 19; refine (done_any _ u1 (ask_err ..) (H2.out.env HEE.out)).mono ?_; rintro e u2 ⟨rfl,hb2⟩; have K2:=Ks.below K1 hb2 HL.out.1 HL.out.2; have HB2:=Lib.hid hb2; clear hb2))
 go_wp2_with fail
 go_ret
 unfold RetPlay
 rw [He.out]
 exact ⟨rfl,play_done H2.out HXD.out HP.out HB2.out H0.out.c9 (by omega) (by omega)⟩
theorem play_sync (P:Pre Ts tPl 30 W0 col w w1 p b bd bb N x s z K) (hc:pcOf z.word=.sync):playG W0 col w p bd N s z K:=by
 obtain ⟨hbb,HW,pc0,pc1,H1,KS,HX,Hpl,Hbl,Hbn,Hcb,HEE,Ha,H0,q0,hK,hN,HD,KD,HXD,c0,c1,d0,d1,d2,d3⟩:=P
 obtain ⟨h0,h1,h2,_⟩:=Wd.of hc
 have He:Hid (playM s z=((s.ask z.a 3 0 noB).1,doneB (s.ask z.a 3 0 noB).2)):=show _=_ by unfold playM; rw [hc]
 clear hc
 go_enter Tryz.func9,Tryz.ntmps9
 go_wp2_with fail
 rw [HW.out]
 go_region_held3 (fun u=>u.cell? ⟨p,0,none⟩=some (.pointer (some ⟨bd,0,none⟩))∧u.cell? ⟨p,1,none⟩=some (.pointer (some ⟨b,0,none⟩))∧u.cell? ⟨bb,0,none⟩=some (.string z.word)∧u.cell? ⟨bb,1,none⟩=some (.int .i64 z.a)∧u.cell? ⟨bb,2,none⟩=some (.int .i64 z.b)∧u.cell? ⟨bb,3,none⟩=some (.string z.data))
  (first | exact K2 | exact K1 | exact KD.out | exact KS.out)
  (first
   |(go_at_call 20; refine (ask_any col w1.drew b bd N x s z.a 3 0 noB K HD.out.st HD.out.inv HD.out.bnd q0 (by omega)).mono ?_; rintro e u1 hr; obtain ⟨rfl,col2,y2,h2,hp2⟩:=HD.out.five hr (HD.out.inv.ask_ ..) (HD.out.bnd.ask q0 ..) (by omega); have hl1:=HD.out.call_cells h2 hp2 KD.out Hcb.out Hbn.out Hbl.out; have K1:=hl1.1; have H2:=Lib.hid h2; have HP:=Lib.hid hp2; have HL:=Lib.hid hl1.2; clear hr h2 hp2 hl1)
   |(go_at_call 19; refine (done_any _ u1 (ask_err ..) (H2.out.env HEE.out)).mono ?_; rintro e u2 ⟨rfl,hb2⟩; have K2:=Ks.below K1 hb2 HL.out.1 HL.out.2; have HB2:=Lib.hid hb2; clear hb2))
 go_wp2_with fail
 go_ret
 unfold RetPlay
 rw [He.out]
 exact ⟨rfl,play_done H2.out HXD.out HP.out HB2.out H0.out.c9 (by omega) (by omega)⟩
theorem play_got (P:Pre Ts tPl 30 W0 col w w1 p b bd bb N x s z K) (hc:pcOf z.word=.got):playG W0 col w p bd N s z K:=by
 obtain ⟨hbb,HW,pc0,pc1,H1,KS,HX,Hpl,Hbl,Hbn,Hcb,HEE,Ha,H0,q0,hK,hN,HD,KD,HXD,c0,c1,d0,d1,d2,d3⟩:=P
 obtain ⟨h0,h1,h2,h3,_⟩:=Wd.of hc
 have He:Hid (playM s z=(s,gotM s z.a)):=show _=_ by unfold playM; rw [hc]
 clear hc
 go_enter Tryz.func9,Tryz.ntmps9
 go_wp2_with fail
 rw [HW.out]
 refine (pgot_any W0 col w1 p b bd N x s K z.a H1.out HEE.out Ha.out.1).mono ?_
 rintro e u1 ⟨rfl,hb1⟩
 have HB1:=Lib.hid hb1
 clear hb1
 go_wp2_with fail
 go_ret
 unfold RetPlay
 rw [He.out]
 exact ⟨rfl,play_done H1.out HX.out (Pr.rest (Below.refl _ _)) HB1.out H0.out.c9 (by omega) (by omega)⟩
theorem play_tick (P:Pre Ts tPl 30 W0 col w w1 p b bd bb N x s z K) (hc:pcOf z.word=.tick):playG W0 col w p bd N s z K:=by
 obtain ⟨hbb,HW,pc0,pc1,H1,KS,HX,Hpl,Hbl,Hbn,Hcb,HEE,Ha,H0,q0,hK,hN,HD,KD,HXD,c0,c1,d0,d1,d2,d3⟩:=P
 obtain ⟨h0,h1,h2,h3,h4,_⟩:=Wd.of hc
 have He:Hid (playM s z=(s.tick,p_okB)):=show _=_ by unfold playM; rw [hc]
 clear hc
 go_enter Tryz.func9,Tryz.ntmps9
 go_wp2_with fail
 rw [HW.out]
 refine (tick_any col w1 b bd N x s K H1.out.st H1.out.inv H1.out.bnd q0 (by omega)).mono ?_
 rintro e u1 hr
 obtain ⟨rfl,col2,y2,h2,hp2⟩:=H1.out.four hr (H1.out.inv.tick) (H1.out.bnd.tick q0) (by omega)
 have H2:=Lib.hid h2
 have HP:=Lib.hid hp2
 clear hr h2 hp2
 go_wp2_with fail
 go_ret
 unfold RetPlay
 rw [He.out]
 exact ⟨rfl,play_done H2.out HX.out HP.out (Below.refl _ _) H0.out.c9 (by omega) (by omega)⟩
theorem play_clean (P:Pre Ts tPl 30 W0 col w w1 p b bd bb N x s z K) (hc:pcOf z.word=.clean):playG W0 col w p bd N s z K:=by
 obtain ⟨hbb,HW,pc0,pc1,H1,KS,HX,Hpl,Hbl,Hbn,Hcb,HEE,Ha,H0,q0,hK,hN,HD,KD,HXD,c0,c1,d0,d1,d2,d3⟩:=P
 obtain ⟨h0,h1,h2,h3,h4,h5,_⟩:=Wd.of hc
 have He:Hid (playM s z=(s.clean.1,yesB s.clean.2)):=show _=_ by unfold playM; rw [hc]
 clear hc
 go_enter Tryz.func9,Tryz.ntmps9
 go_wp2_with fail
 rw [HW.out]
 refine (clean_st col w1 b bd N x s H1.out.st H1.out.inv ⟨by have:=H1.out.bnd.use; omega,by have:=H1.out.bnd.tag; omega⟩).mono ?_
 rintro e u1 hr
 obtain ⟨rfl,col2,y2,h2,hp2⟩:=H1.out.two hr (H1.out.inv.clean) (H1.out.bnd.clean) (by omega)
 have H2:=Lib.hid h2
 have HP:=Lib.hid hp2
 clear hr h2 hp2
 go_wp2_with fail
 refine (yes_any _ u1).mono ?_
 rintro e u2 ⟨rfl,hb2⟩
 have HB2:=Lib.hid hb2
 clear hb2
 go_wp2_with fail
 go_ret
 unfold RetPlay
 rw [He.out]
 exact ⟨rfl,play_done H2.out HX.out HP.out HB2.out H0.out.c9 (by omega) (by omega)⟩
theorem play_dispatch (P:Pre Ts tPl 30 W0 col w w1 p b bd bb N x s z K) (hc:pcOf z.word=.dispatch):playG W0 col w p bd N s z K:=by
 obtain ⟨hbb,HW,pc0,pc1,H1,KS,HX,Hpl,Hbl,Hbn,Hcb,HEE,Ha,H0,q0,hK,hN,HD,KD,HXD,c0,c1,d0,d1,d2,d3⟩:=P
 obtain ⟨h0,h1,h2,h3,h4,h5,h6,_⟩:=Wd.of hc
 have He:Hid (playM s z=(s.dispatch.1,yesB s.dispatch.2)):=show _=_ by unfold playM; rw [hc]
 clear hc
 go_enter Tryz.func9,Tryz.ntmps9
 go_wp2_with fail
 rw [HW.out]
 refine (dispatch_any col w1 b bd N x s H1.out.st H1.out.inv).mono ?_
 rintro e u1 hr
 obtain ⟨rfl,col2,y2,h2,hp2⟩:=H1.out.five hr (H1.out.inv.dispatch) (H1.out.bnd.dispatch) (by omega)
 have H2:=Lib.hid h2
 have HP:=Lib.hid hp2
 clear hr h2 hp2
 go_wp2_with fail
 refine (yes_any _ u1).mono ?_
 rintro e u2 ⟨rfl,hb2⟩
 have HB2:=Lib.hid hb2
 clear hb2
 go_wp2_with fail
 go_ret
 unfold RetPlay
 rw [He.out]
 exact ⟨rfl,play_done H2.out HX.out HP.out HB2.out H0.out.c9 (by omega) (by omega)⟩
theorem play_end_ (P:Pre Ts tPl 30 W0 col w w1 p b bd bb N x s z K) (hc:pcOf z.word=.end_):playG W0 col w p bd N s z K:=by
 obtain ⟨hbb,HW,pc0,pc1,H1,KS,HX,Hpl,Hbl,Hbn,Hcb,HEE,Ha,H0,q0,hK,hN,HD,KD,HXD,c0,c1,d0,d1,d2,d3⟩:=P
 obtain ⟨h0,h1,h2,h3,h4,h5,h6,h7,_⟩:=Wd.of hc
 have He:Hid (playM s z=((s.end_ z.a false).1,doneB (s.end_ z.a false).2)):=show _=_ by unfold playM; rw [hc]
 clear hc
 have h9:(z.word.toList == [102,97,117,108,116])=false:=by have e:=eq_of_beq h7; rw [e]; rfl
 go_enter Tryz.func9,Tryz.ntmps9
 go_wp2_with fail
 rw [HW.out]
 go_region_held3 (fun u=>u.cell? ⟨p,0,none⟩=some (.pointer (some ⟨bd,0,none⟩))∧u.cell? ⟨p,1,none⟩=some (.pointer (some ⟨b,0,none⟩))∧u.cell? ⟨bb,0,none⟩=some (.string z.word)∧u.cell? ⟨bb,1,none⟩=some (.int .i64 z.a)∧u.cell? ⟨bb,2,none⟩=some (.int .i64 z.b)∧u.cell? ⟨bb,3,none⟩=some (.string z.data))
  (first | exact K2 | exact K1 | exact KD.out | exact KS.out)
  (first
   |(go_at_call 26; refine (end_any col w1.drew b bd N x s z.a false K HD.out.st HD.out.inv HD.out.bnd q0 (by omega) (by omega)).mono ?_; rintro e u1 hr; obtain ⟨rfl,col2,y2,h2,hp2⟩:=HD.out.five hr (HD.out.inv.end_ ..) (HD.out.bnd.end_ q0 HD.out.inv ..) (by omega); have hl1:=HD.out.call_cells h2 hp2 KD.out Hcb.out Hbn.out Hbl.out; have K1:=hl1.1; have H2:=Lib.hid h2; have HP:=Lib.hid hp2; have HL:=Lib.hid hl1.2; clear hr h2 hp2 hl1)
   |(go_at_call 19; refine (done_any _ u1 (end_err ..) (H2.out.env HEE.out)).mono ?_; rintro e u2 ⟨rfl,hb2⟩; have K2:=Ks.below K1 hb2 HL.out.1 HL.out.2; have HB2:=Lib.hid hb2; clear hb2))
 go_wp2_with fail
 go_ret
 unfold RetPlay
 rw [He.out]
 exact ⟨rfl,play_done H2.out HXD.out HP.out HB2.out H0.out.c9 (by omega) (by omega)⟩
theorem play_fault (P:Pre Ts tPl 30 W0 col w w1 p b bd bb N x s z K) (hc:pcOf z.word=.fault):playG W0 col w p bd N s z K:=by
 obtain ⟨hbb,HW,pc0,pc1,H1,KS,HX,Hpl,Hbl,Hbn,Hcb,HEE,Ha,H0,q0,hK,hN,HD,KD,HXD,c0,c1,d0,d1,d2,d3⟩:=P
 obtain ⟨h0,h1,h2,h3,h4,h5,h6,h7,h8,_⟩:=Wd.of hc
 have He:Hid (playM s z=((s.end_ z.a true).1,doneB (s.end_ z.a true).2)):=show _=_ by unfold playM; rw [hc]
 clear hc
 go_enter Tryz.func9,Tryz.ntmps9
 go_wp2_with fail
 rw [HW.out]
 go_region_held3 (fun u=>u.cell? ⟨p,0,none⟩=some (.pointer (some ⟨bd,0,none⟩))∧u.cell? ⟨p,1,none⟩=some (.pointer (some ⟨b,0,none⟩))∧u.cell? ⟨bb,0,none⟩=some (.string z.word)∧u.cell? ⟨bb,1,none⟩=some (.int .i64 z.a)∧u.cell? ⟨bb,2,none⟩=some (.int .i64 z.b)∧u.cell? ⟨bb,3,none⟩=some (.string z.data))
  (first | exact K2 | exact K1 | exact KD.out | exact KS.out)
  (first
   |(go_at_call 26; refine (end_any col w1.drew b bd N x s z.a true K HD.out.st HD.out.inv HD.out.bnd q0 (by omega) (by omega)).mono ?_; rintro e u1 hr; obtain ⟨rfl,col2,y2,h2,hp2⟩:=HD.out.five hr (HD.out.inv.end_ ..) (HD.out.bnd.end_ q0 HD.out.inv ..) (by omega); have hl1:=HD.out.call_cells h2 hp2 KD.out Hcb.out Hbn.out Hbl.out; have K1:=hl1.1; have H2:=Lib.hid h2; have HP:=Lib.hid hp2; have HL:=Lib.hid hl1.2; clear hr h2 hp2 hl1)
   |(go_at_call 19; refine (done_any _ u1 (end_err ..) (H2.out.env HEE.out)).mono ?_; rintro e u2 ⟨rfl,hb2⟩; have K2:=Ks.below K1 hb2 HL.out.1 HL.out.2; have HB2:=Lib.hid hb2; clear hb2))
 go_wp2_with fail
 go_ret
 unfold RetPlay
 rw [He.out]
 exact ⟨rfl,play_done H2.out HXD.out HP.out HB2.out H0.out.c9 (by omega) (by omega)⟩
theorem play_round (P:Pre Ts tPl 30 W0 col w w1 p b bd bb N x s z K) (hc:pcOf z.word=.round):playG W0 col w p bd N s z K:=by
 obtain ⟨hbb,HW,pc0,pc1,H1,KS,HX,Hpl,Hbl,Hbn,Hcb,HEE,Ha,H0,q0,hK,hN,HD,KD,HXD,c0,c1,d0,d1,d2,d3⟩:=P
 obtain ⟨h0,h1,h2,h3,h4,h5,h6,h7,h8,h9,_⟩:=Wd.of hc
 have He:Hid (playM s z=(s.round,p_okB)):=show _=_ by unfold playM; rw [hc]
 clear hc
 go_enter Tryz.func9,Tryz.ntmps9
 go_wp2_with fail
 rw [HW.out]
 refine (round_any col w1 b bd N x s K H1.out.st H1.out.inv H1.out.bnd q0 (by omega) (by omega)).mono ?_
 rintro e u1 hr
 obtain ⟨rfl,col2,y2,h2,hp2⟩:=H1.out.five hr (H1.out.inv.round) (H1.out.bnd.round q0 H1.out.inv) (by omega)
 have H2:=Lib.hid h2
 have HP:=Lib.hid hp2
 clear hr h2 hp2
 go_wp2_with fail
 go_ret
 unfold RetPlay
 rw [He.out]
 exact ⟨rfl,play_done H2.out HX.out HP.out (Below.refl _ _) H0.out.c9 (by omega) (by omega)⟩
theorem play_settle (P:Pre Ts tPl 30 W0 col w w1 p b bd bb N x s z K) (hc:pcOf z.word=.settle):playG W0 col w p bd N s z K:=by
 obtain ⟨hbb,HW,pc0,pc1,H1,KS,HX,Hpl,Hbl,Hbn,Hcb,HEE,Ha,H0,q0,hK,hN,HD,KD,HXD,c0,c1,d0,d1,d2,d3⟩:=P
 obtain ⟨h0,h1,h2,h3,h4,h5,h6,h7,h8,h9,h10,_⟩:=Wd.of hc
 have He:Hid (playM s z=((St.settle z.a.toNat s).1,(itoaB ((St.settle z.a.toNat s).2:Nat) ++ p_spB) ++ yesB (St.settle z.a.toNat s).1.quiet)):=show _=_ by unfold playM; rw [hc]
 clear hc
 have hm0:z.a.toNat≤999:=by have:=Ha.out; omega
 have HM:Hid (z.a=((z.a.toNat:Nat):Int)):=show _=_ from (Int.toNat_of_nonneg Ha.out.1).symm
 have HQ:Hid ((St.settle z.a.toNat s).2≤999):=settle_le' s hm0
 go_enter Tryz.func9,Tryz.ntmps9
 go_wp2_with fail
 rw [HW.out]
 go_region_held3 (fun u=>u.cell? ⟨p,0,none⟩=some (.pointer (some ⟨bd,0,none⟩))∧u.cell? ⟨p,1,none⟩=some (.pointer (some ⟨b,0,none⟩))∧u.cell? ⟨bb,0,none⟩=some (.string z.word)∧u.cell? ⟨bb,1,none⟩=some (.int .i64 z.a)∧u.cell? ⟨bb,2,none⟩=some (.int .i64 z.b)∧u.cell? ⟨bb,3,none⟩=some (.string z.data))
  (first | exact K1 | exact KD.out | exact KS.out)
  (first
   |(go_at_call 28; rw [HM.out]; refine (settle_any col w1.drew b bd N x s K z.a.toNat HD.out.st HD.out.inv HD.out.bnd q0 (by omega) (by omega) (by omega)).mono ?_; rintro e u1 hr; obtain ⟨rfl,col2,y2,h2,hp2⟩:=HD.out.five hr HD.out.inv.settle (HD.out.bnd.settle q0 HD.out.inv) (by omega); have hl1:=HD.out.call_cells h2 hp2 KD.out Hcb.out Hbn.out Hbl.out; have K1:=hl1.1; have H2:=Lib.hid h2; have HP:=Lib.hid hp2; clear hr h2 hp2 hl1)
   |fail)
 clear K1
 generalize (St.settle z.a.toNat s).1=s2 at *
 generalize (St.settle z.a.toNat s).2=n2 at *
 have hq9:=HQ.out
 have s1:=itoaB_size (n2:Int) (by omega) (by omega)
 have Hi:=Lib.hid (fun w hE=>itoa_any (n2:Int) w (by omega) (by omega) hE)
 have Hy:=Lib.hid (fun w=>yes_any s2.quiet w)
 have s3:=yesB_size s2.quiet
 generalize itoaB (n2:Int)=dn at *
 generalize yesB s2.quiet=yq at *
 have z1:¬ (9223372036854775807<dn.size+1):=by omega
 have z2:¬ (9223372036854775807<dn.size+1+yq.size):=by omega
 go_wp2_with fail
 refine (Hi.out u1 (H2.out.env HEE.out)).mono ?_
 rintro e u2 ⟨rfl,hb2⟩
 have HB2:=Lib.hid hb2
 clear hb2
 go_wp2_with fail
 refine (Hy.out u2).mono ?_
 rintro e u3 ⟨rfl,hb3⟩
 have HB3:=Lib.hid hb3
 clear hb3
 go_wp2_with fail
 go_ret
 unfold RetPlay
 rw [He.out]
 exact ⟨rfl,play_done H2.out HXD.out HP.out (HB2.out.trans (HB3.out.mono HB2.out.size)) H0.out.c9 (by omega) (by omega)⟩
theorem play_queue (P:Pre Ts tPl 30 W0 col w w1 p b bd bb N x s z K) (hc:pcOf z.word=.queue):playG W0 col w p bd N s z K:=by
 obtain ⟨hbb,HW,pc0,pc1,H1,KS,HX,Hpl,Hbl,Hbn,Hcb,HEE,Ha,H0,q0,hK,hN,HD,KD,HXD,c0,c1,d0,d1,d2,d3⟩:=P
 obtain ⟨h0,h1,h2,h3,h4,h5,h6,h7,h8,h9,h10,h11,_⟩:=Wd.of hc
 have He:Hid (playM s z=(s,textsM s.wait)):=show _=_ by unfold playM; rw [hc]
 clear hc
 go_enter Tryz.func9,Tryz.ntmps9
 go_wp2_with fail
 rw [HW.out]
 refine (stqueue_any col w1 b bd N x s H1.out.st H1.out.inv.wait6).mono ?_
 rintro e u1 ⟨v1,rfl,hv1,hb1⟩
 have HV1:=Lib.hid hv1
 have HB1:=Lib.hid hb1
 clear hv1 hb1
 go_wp2_with fail
 refine (texts_any _ s.wait v1 u1 HV1.out (H1.out.inv.wait6) (wait_ok H1.out.inv) ((H1.out.env HEE.out).below HB1.out)).mono ?_
 rintro e u2 ⟨rfl,hb2⟩
 have HB2:=Lib.hid hb2
 clear hb2
 go_wp2_with fail
 go_ret
 unfold RetPlay
 rw [He.out]
 exact ⟨rfl,play_done H1.out HX.out (Pr.rest (Below.refl _ _)) (HB1.out.trans (HB2.out.mono HB1.out.size)) H0.out.c9 (by omega) (by omega)⟩
theorem play_busy (P:Pre Ts tPl 30 W0 col w w1 p b bd bb N x s z K) (hc:pcOf z.word=.busy):playG W0 col w p bd N s z K:=by
 obtain ⟨hbb,HW,pc0,pc1,H1,KS,HX,Hpl,Hbl,Hbn,Hcb,HEE,Ha,H0,q0,hK,hN,HD,KD,HXD,c0,c1,d0,d1,d2,d3⟩:=P
 obtain ⟨h0,h1,h2,h3,h4,h5,h6,h7,h8,h9,h10,h11,h12,_⟩:=Wd.of hc
 have He:Hid (playM s z=(s,textsM s.v.d.l)):=show _=_ by unfold playM; rw [hc]
 clear hc
 go_enter Tryz.func9,Tryz.ntmps9
 go_wp2_with fail
 rw [HW.out]
 refine (stbusy_any col w1 b bd N x s H1.out.st H1.out.inv.dv.two).mono ?_
 rintro e u1 ⟨v1,rfl,hv1,hb1⟩
 have HV1:=Lib.hid hv1
 have HB1:=Lib.hid hb1
 clear hv1 hb1
 go_wp2_with fail
 refine (texts_any _ s.v.d.l v1 u1 HV1.out (Nat.le_trans H1.out.inv.dv.two (by decide)) (busy_ok H1.out.inv) ((H1.out.env HEE.out).below HB1.out)).mono ?_
 rintro e u2 ⟨rfl,hb2⟩
 have HB2:=Lib.hid hb2
 clear hb2
 go_wp2_with fail
 go_ret
 unfold RetPlay
 rw [He.out]
 exact ⟨rfl,play_done H1.out HX.out (Pr.rest (Below.refl _ _)) (HB1.out.trans (HB2.out.mono HB1.out.size)) H0.out.c9 (by omega) (by omega)⟩
theorem play_dirty (P:Pre Ts tPl 30 W0 col w w1 p b bd bb N x s z K) (hc:pcOf z.word=.dirty):playG W0 col w p bd N s z K:=by
 obtain ⟨hbb,HW,pc0,pc1,H1,KS,HX,Hpl,Hbl,Hbn,Hcb,HEE,Ha,H0,q0,hK,hN,HD,KD,HXD,c0,c1,d0,d1,d2,d3⟩:=P
 obtain ⟨h0,h1,h2,h3,h4,h5,h6,h7,h8,h9,h10,h11,h12,h13,_⟩:=Wd.of hc
 have He:Hid (playM s z=(s,itoaB (dirtyB s.bufs:Nat))):=show _=_ by unfold playM; rw [hc]
 clear hc
 go_enter Tryz.func9,Tryz.ntmps9
 go_wp2_with fail
 rw [HW.out]
 refine (stdirty_any col w1 b bd N x s H1.out.st H1.out.inv.len8).mono ?_
 rintro e u1 ⟨rfl,hb1⟩
 have HB1:=Lib.hid hb1
 have Hd6:=Lib.hid H1.out.inv.dirty
 clear hb1
 generalize dirtyB s.bufs=n2 at *
 go_wp2_with fail
 refine (itoa_any (n2:Int) u1 (by omega) (by have:=Hd6.out; omega) ((H1.out.env HEE.out).below HB1.out)).mono ?_
 rintro e u2 ⟨rfl,hb2⟩
 have HB2:=Lib.hid hb2
 clear hb2
 go_wp2_with fail
 go_ret
 unfold RetPlay
 rw [He.out]
 exact ⟨rfl,play_done H1.out HX.out (Pr.rest (Below.refl _ _)) (HB1.out.trans (HB2.out.mono HB1.out.size)) H0.out.c9 (by omega) (by omega)⟩
theorem play_crash (P:Pre Ts tPl 30 W0 col w w1 p b bd bb N x s z K) (hc:pcOf z.word=.crash):playG W0 col w p bd N s z K:=by
 obtain ⟨hbb,HW,pc0,pc1,H1,KS,HX,Hpl,Hbl,Hbn,Hcb,HEE,Ha,H0,q0,hK,hN,HD,KD,HXD,c0,c1,d0,d1,d2,d3⟩:=P
 obtain ⟨h0,h1,h2,h3,h4,h5,h6,h7,h8,h9,h10,h11,h12,h13,h14,_⟩:=Wd.of hc
 obtain ⟨m,hm⟩:∃ m,z.a.toNat=m:=⟨_,rfl⟩
 have HMM:Hid (m≤999):=show _≤_ by have:=Ha.out; omega
 have He:Hid (playM s z=(St.new (s.v.d.crash m),p_okB)):=show _=_ by unfold playM; rw [hc]; rw [hm]
 clear hc
 have hwr:IntKind.u64.wrap z.a=(m:Int):=by
  have:=Ha.out
  have e:(m:Int)=z.a:=by omega
  rw [e]
  unfold IntKind.wrap
  simp [IntKind.bits,IntKind.signed]
  omega
 clear hm
 go_enter Tryz.func9,Tryz.ntmps9
 go_wp2_with fail
 rw [HW.out]
 go_region_held3 (fun u=>u.cell? ⟨p,0,none⟩=some (.pointer (some ⟨bd,0,none⟩))∧u.cell? ⟨p,1,none⟩=some (.pointer (some ⟨b,0,none⟩))∧u.cell? ⟨bb,0,none⟩=some (.string z.word)∧u.cell? ⟨bb,1,none⟩=some (.int .i64 z.a)∧u.cell? ⟨bb,2,none⟩=some (.int .i64 z.b)∧u.cell? ⟨bb,3,none⟩=some (.string z.data))
  (first | exact K1 | exact KD.out | exact KS.out)
  (first
   |(go_at_call 34; refine (devcrash_any (Im w1.drew col) (Fd col) w1.drew bd s.v.d m (by have:=HMM.out; omega) HD.out.st.drv.dev (fun q hq=>(HD.out.inv.dv.waits q hq).1) (by have:=HD.out.bnd.waits; omega) (fun k hk=>HD.out.st.lt k (by rw [show col k=4 from hk]; decide)) (fun k hk hf=>by have h1:col k=4:=hf; rw [hk.2] at h1; cases h1)).mono ?_; rintro e u1 ⟨rfl,hd2,hc2⟩; have K1:=KD.out.keep hc2 (fun e=>by have e:col p=4:=e; rw [H0.out.c9] at e; cases e) (fun e=>Hcb.out ⟨by rw [show col bb=4 from e]; decide,by rw [show col bb=4 from e]; decide⟩) Hpl.out Hbl.out; have HC:=Lib.hid hc2; have HV:=Lib.hid hd2; clear hc2 hd2)
   |fail)
 obtain ⟨e0,e1,_,_,_,_⟩:=K1
 have HR1:Hid (u1.heap[p]?=some (.cells #[.pointer (some ⟨bd,0,none⟩),.pointer (some ⟨b,0,none⟩)] tPl (0,0))):=(HC.out.block p Hpl.out (fun e=>by have e:col p=4:=e; rw [H0.out.c9] at e; cases e)).trans HD.out.row
 go_wp2_with fail
 refine (stnew_any (fun _=>False) (Fd col) u1 bd (s.v.d.crash m) (HV.out.bare rfl) (fun k hk=>Nat.lt_of_lt_of_le (HD.out.st.lt k (by rw [show col k=4 from hk]; decide)) HC.out.size) (fun k hk=>hk.elim) (fun k hk=>hk.elim)).mono ?_
 rintro e u2 ⟨b2,col2,y2,rfl,hs2,hb2,hf2,hlo⟩
 have hR2:u2.heap[p]?=some (.cells #[.pointer (some ⟨bd,0,none⟩),.pointer (some ⟨b,0,none⟩)] tPl (0,0)):=(hb2.block p (Array.getElem?_eq_some_iff.1 HR1.out).1).trans HR1.out
 have g1:u2.cell? ⟨p,1,none⟩=some (.pointer (some ⟨b,0,none⟩)):=cell_of_row _ _ 1 _ _ _ hR2
 have gf:∀ k,u2.frozen? ⟨p,k,none⟩=false:=fun k=>frozen_of_row _ _ k _ _ hR2
 have HR2:=Lib.hid hR2
 have HS2:=Lib.hid hs2
 have HB2:=Lib.hid hb2
 have HF2:=Lib.hid hf2
 clear hR2 hs2 hb2 hf2 hlo e0 e1
 go_wp2_with fail
 go_ret
 unfold RetPlay
 rw [He.out]
 obtain ⟨col',h3,hp3⟩:=HD.out.crashed (m:=m) HC.out HS2.out HB2.out HF2.out (Same1.refl.setCell 1 (.pointer (some ⟨b2,0,none⟩))) (heap_setCell_same _ _ 1 _ _ _ HR2.out) (Bd.newB rfl)
 exact ⟨rfl,col',b2,y2,h3.mono (by omega) (by omega),hp3.before HXD.out⟩
theorem play_other (P:Pre Ts tPl 30 W0 col w w1 p b bd bb N x s z K) (hc:pcOf z.word=.other):playG W0 col w p bd N s z K:=by
 obtain ⟨hbb,HW,pc0,pc1,H1,KS,HX,Hpl,Hbl,Hbn,Hcb,HEE,Ha,H0,q0,hK,hN,HD,KD,HXD,c0,c1,d0,d1,d2,d3⟩:=P
 obtain ⟨h0,h1,h2,h3,h4,h5,h6,h7,h8,h9,h10,h11,h12,h13,h14,_⟩:=Wd.of hc
 have He:Hid (playM s z=(s,p_okB)):=show _=_ by unfold playM; rw [hc]
 clear hc
 go_enter Tryz.func9,Tryz.ntmps9
 go_wp2_with fail
 rw [HW.out]
 go_ret
 unfold RetPlay
 rw [He.out]
 exact ⟨rfl,play_done H1.out HX.out (Pr.rest (Below.refl _ _)) (Below.refl _ _) H0.out.c9 (by omega) (by omega)⟩
end
theorem play_any (W0:World) (col:Nat→Nat) (w:World) (p b bd N:Nat) (x:Sv) (s:St) (z:Stp) (K:Int) (h:PlAt Ts tPl W0 w col p b bd N K x s) (hE:Env W0) (hK:K≤500000000) (hN:N≤800000000) (ha:0≤z.a∧z.a≤999):playG W0 col w p bd N s z K:=by
 obtain ⟨w1,bb,P⟩:=h.pre 30 z hE hK hN ha
 cases hc:pcOf z.word
 ·exact play_read P hc
 ·exact play_write P hc
 ·exact play_sync P hc
 ·exact play_got P hc
 ·exact play_tick P hc
 ·exact play_clean P hc
 ·exact play_dispatch P hc
 ·exact play_end_ P hc
 ·exact play_fault P hc
 ·exact play_round P hc
 ·exact play_settle P hc
 ·exact play_queue P hc
 ·exact play_busy P hc
 ·exact play_dirty P hc
 ·exact play_crash P hc
 ·exact play_other P hc
end Go.Proofs.YtaeadmlgffaegaaGreatDoor
namespace Go.Proofs.YtaeadmlgffaegaaGreatDoor
open Go.RowKit Go.Sort
def digit (c:Nat):ByteArray:=⟨#[UInt8.ofNat (48+c)]⟩
def decN (n:Nat):ByteArray:=if n<10 then digit n else decN (n / 10) ++ digit (n % 10)
theorem decN_small {n:Nat} (h:n<10):decN n=digit n:=by unfold decN; rw [if_pos h]
theorem decN_big {n:Nat} (h:¬ n<10):decN n=decN (n / 10) ++ digit (n % 10):=by rw [decN,if_neg h]
theorem digit_size (c:Nat):(digit c).size=1:=rfl
theorem decN_size:∀ (k n:Nat),n<10 ^ (k+1)→(decN n).size≤k+1
 |k,n,h=>by
  by_cases h1:n<10
  ·rw [decN_small h1,digit_size]; omega
  ·cases k with
   |zero=>simp at h; omega
   |succ k =>
    rw [decN_big h1,ByteArray.size_append,digit_size]
    have:=decN_size k (n / 10) (by rw [Nat.pow_succ] at h; omega)
    omega
theorem conv_digit {w:World} {b c:Nat} (hc:c<10) (h:w.cell? ⟨b,0,none⟩=some (.int .u8 (48+(c:Int)))) :
  (convert 156 9 (.slice (some ⟨b,0,none⟩) 1 1)).run Tryz.prog w=.ok (.string (digit c)) w:=by
 have:=run_convert_bytes_back (P:=Tryz.prog) w 156 9 5 ⟨b,0,none⟩ 1 [UInt8.ofNat (48+c)] Tryz.underlying156 Tryz.underlying5 Tryz.underlying9 (fun j hj=>by
  obtain rfl:j=0:=by simpa using hj
  have e:((UInt8.ofNat (48+c)).toNat:Int)=48+(c:Int):=by
   rw [UInt8.toNat_ofNat']
   omega
  simp only [List.getElem_cons_zero,e]
  exact h)
 exact this
theorem dec_small (n:Nat) (w:World) (h:n<10):Calls Tryz.prog 45 #[.int .i64 n] w (Ret (.string (decN n)) w):=by
 rw [decN_small h]
 have h1:decide ((n:Int) < -9)=false:=decide_eq_false (by omega)
 have h2:decide ((n:Int)<0)=false:=decide_eq_false (by omega)
 have h3:decide ((n:Int)<10)=true:=decide_eq_true (by omega)
 have h4:IntKind.i64.wrap (48+(n:Int))=48+(n:Int):=IntWalk.i64_in _ (by omega)
 have hconv:=conv_digit (w:=w.alloc (Obj.cells #[Value.int IntKind.u8 (48+(n:Int))] 5)) (b:=w.heap.size) h (cell_of_row _ _ 0 _ _ _ (heap_alloc_new w _))
 go_enter Tryz.func45,Tryz.ntmps45
 go_wp2
 go_ret
 exact ⟨rfl,(Below.refl _ _).alloc (Nat.le_refl _) _⟩
def DigF (base c:Nat):SlotFact:=fun v u=>∃ b,v=.slice (some ⟨b,0,none⟩) 1 1∧base≤b∧b<u.heap.size∧u.heap[b]?=some (.cells #[.int .u8 (48+(c:Int))] 5 (0,0))
theorem DigF.step {base c:Nat} {v:Value} {u u':World} (h:DigF base c v u) (hb:Below u.heap.size u u'):DigF base c v u':=by
 obtain ⟨b,e,h1,h2,h3⟩:=h
 exact ⟨b,e,h1,by have:=hb.size; omega,(hb.block _ h2).trans h3⟩
theorem dec_nat:∀ (n:Nat) (w:World),n≤9223372036854775807→Calls Tryz.prog 45 #[.int .i64 n] w (Ret (.string (decN n)) w):=by
 intro n
 induction n using Nat.strongRecOn with
 |_ n ih =>
  intro w hn
  by_cases h:n<10
  ·exact dec_small n w h
  ·have hsz:(decN (n / 10)).size≤19:=decN_size 18 _ (by omega)
   have IH:=Lib.hid (fun w'=>ih (n / 10) (by omega) w' (by omega))
   clear ih
   rw [decN_big h]
   generalize hd:decN (n / 10)=ds at *
   clear hd
   have h1:decide ((n:Int) < -9)=false:=decide_eq_false (by omega)
   have h2:decide ((n:Int)<0)=false:=decide_eq_false (by omega)
   have h3:decide ((n:Int)<10)=false:=decide_eq_false (by omega)
   have h4:IntKind.i64.wrap (48+((n % 10:Nat):Int))=48+((n % 10:Nat):Int):=IntWalk.i64_in _ (by omega)
   have h5:(n:Int).tdiv 10=((n / 10:Nat):Int):=by rw [Int.tdiv_eq_ediv_of_nonneg (by omega)]; omega
   have h6:(n:Int).tmod 10=((n % 10:Nat):Int):=by rw [Int.tmod_eq_emod_of_nonneg (by omega)]; omega
   have h10:n % 10<10:=Nat.mod_lt _ (by omega)
   have h11:n / 10≤n:=Nat.div_le_self _ _
   generalize n % 10=c at *
   generalize n / 10=m at *
   have h12:IntKind.i64.wrap (m:Int)=(m:Int):=IntWalk.i64_in _ (by omega)
   have h13:IntKind.u8.wrap (48+(c:Int))=48+(c:Int):=by simp only [IntKind.wrap,IntKind.bits,IntKind.signed]; simp; omega
   have h14:ds.size≤9223372036854775806:=by omega
   go_enter Tryz.func45,Tryz.ntmps45
   go_wp2_with fail
   refine wp_region_inv mixed [(28,fun v _=>v=.int .i64 (n:Int)),(29,fun v _=>v=.int .i64 (m:Int)),(30,fun v _=>v=.string ds),(31,fun v _=>v=.int .i64 (n:Int)),(32,fun v _=>v=.int .i64 (c:Int)),(33,fun v _=>v=.int .i64 (48+(c:Int))),(34,fun v _=>v=.int .u8 (48+(c:Int))),(35,DigF w.heap.size c),(36,fun v _=>v=.string (digit c)),(37,fun v _=>v=.string (ds ++ digit c)),(2,fun v _=>v=.string (ds ++ digit c))] (fun u=>Below w.heap.size w u) (fun u u'=>Below u.heap.size u u') (fun _ _=>True) (by kernel_rfl) rfl (by decide) (Below.refl _ _).drew ?st (fun _ _ _ _ _=>trivial) ?steps ?fin
   case st=>exact ⟨fun v u u' h _=>h,fun v u u' h _=>h,fun v u u' h _=>h,fun v u u' h _=>h,fun v u u' h _=>h,fun v u u' h _=>h,fun v u u' h _=>h,fun v u u' h hr=>h.step hr,fun v u u' h _=>h,fun v u u' h _=>h,fun v u u' h _=>h,trivial⟩
   case steps =>
    refine ⟨?_,?_,?_,?_,?_,?_,?_,?_,?_,?_,?_,trivial⟩
    ·intro ρ u hp hJ hr
     have r1:ρ (.tmp 0)=.int .i64 (n:Int):=hr.1
     clear hr
     have hpc:=hp.const
     refine gives_value (v:=.int .i64 (n:Int)) (w':=u) ?_ ⟨rfl,hJ,Below.refl _ _,trivial⟩
     go_simp
    ·intro ρ u hp hJ hr
     have r1:ρ (.tmp 28)=.int .i64 (n:Int):=hr.1
     clear hr
     have hpc:=hp.const
     refine gives_value (v:=.int .i64 (m:Int)) (w':=u) ?_ ⟨rfl,hJ,Below.refl _ _,trivial⟩
     go_simp
    ·intro ρ u hp hJ hr
     have r1:ρ (.tmp 29)=.int .i64 (m:Int):=hr.1
     clear hr
     refine gives_enter (f:=45) (args:=#[.int .i64 (m:Int)]) (w':=u) ?_ ((IH.out u).mono ?_)
     ·have hpf:=hp.func 45
      go_simp
     rintro e u' ⟨rfl,hb⟩
     exact ⟨_,rfl,rfl,hJ.trans (hb.mono hJ.size),hb,trivial⟩
    ·intro ρ u hp hJ hr
     have r1:ρ (.tmp 0)=.int .i64 (n:Int):=hr.1
     clear hr
     have hpc:=hp.const
     refine gives_value (v:=.int .i64 (n:Int)) (w':=u) ?_ ⟨rfl,hJ,Below.refl _ _,trivial⟩
     go_simp
    ·intro ρ u hp hJ hr
     have r1:ρ (.tmp 31)=.int .i64 (n:Int):=hr.1
     clear hr
     have hpc:=hp.const
     refine gives_value (v:=.int .i64 (c:Int)) (w':=u) ?_ ⟨rfl,hJ,Below.refl _ _,trivial⟩
     go_simp
    ·intro ρ u hp hJ hr
     have r1:ρ (.tmp 32)=.int .i64 (c:Int):=hr.1
     clear hr
     have hpc:=hp.const
     refine gives_value (v:=.int .i64 (48+(c:Int))) (w':=u) ?_ ⟨rfl,hJ,Below.refl _ _,trivial⟩
     go_simp
    ·intro ρ u hp hJ hr
     have r1:ρ (.tmp 33)=.int .i64 (48+(c:Int)):=hr.1
     clear hr
     have hpc:=hp.const
     refine gives_value (v:=.int .u8 (48+(c:Int))) (w':=u) ?_ ⟨rfl,hJ,Below.refl _ _,trivial⟩
     go_simp
    ·intro ρ u hp hJ hr
     have r1:ρ (.tmp 34)=.int .u8 (48+(c:Int)):=hr.1
     clear hr
     refine gives_value (v:=.slice (some ⟨u.heap.size,0,none⟩) 1 1) (w':=u.alloc (.cells #[.int .u8 (48+(c:Int))] 5)) ?_ ⟨⟨_,rfl,hJ.size,by simp,heap_alloc_new _ _⟩,hJ.trans (((Below.refl _ _).alloc (Nat.le_refl _) _).mono hJ.size),(Below.refl _ _).alloc (Nat.le_refl _) _,trivial⟩
     go_simp
    ·intro ρ u hp hJ hr
     have r1:DigF w.heap.size c (ρ (.tmp 35)) u:=hr.1
     clear hr
     obtain ⟨b,e,_,_,hcell⟩:=r1
     have hconv:=conv_digit (w:=u) (b:=b) h10 (cell_of_row _ _ 0 _ _ _ hcell)
     refine gives_value (v:=.string (digit c)) (w':=u) ?_ ⟨rfl,hJ,Below.refl _ _,trivial⟩
     clear hcell
     go_simp
    ·intro ρ u hp hJ hr
     have r1:ρ (.tmp 30)=.string ds:=hr.1
     have r2:ρ (.tmp 36)=.string (digit c):=hr.2.1
     clear hr
     have hlen:(digit c).size=1:=rfl
     refine gives_value (v:=.string (ds ++ digit c)) (w':=u) ?_ ⟨rfl,hJ,Below.refl _ _,trivial⟩
     go_simp
    ·intro ρ u hp hJ hr
     have r1:ρ (.tmp 37)=.string (ds ++ digit c):=hr.1
     clear hr
     have hpc:=hp.const
     refine gives_value (v:=.string (ds ++ digit c)) (w':=u) ?_ ⟨rfl,hJ,Below.refl _ _,trivial⟩
     go_simp
   intro f u hF hJ _
   have f2:f 2=.string (ds ++ digit c):=hF.2.2.2.2.2.2.2.2.2.2.1
   clear hF
   simp only [laid]
   go_wp2_with fail
   refine bodyPost_ret (v:=.string (ds ++ digit c)) (by simp [results,Tryz.results45,go_sem,Act.put,f2]) rfl ⟨rfl,hJ⟩
abbrev dash:ByteArray:=⟨#[45]⟩
def decI (n:Int):ByteArray:=if n < -9 then dash ++ decN (-(n.tdiv 10)).toNat ++ decN (-(n.tmod 10)).toNat else if n<0 then dash ++ decN (-n).toNat else decN n.toNat
theorem dec_any (n:Int) (w:World) (ha : -9223372036854775808≤n) (hb:n≤9223372036854775807):Calls Tryz.prog 45 #[.int .i64 n] w (Ret (.string (decI n)) w):=by
 by_cases h1:n < -9
 ·have e:decI n=dash ++ decN (-(n.tdiv 10)).toNat ++ decN (-(n.tmod 10)).toNat:=by unfold decI; rw [if_pos h1]
  rw [e]
  clear e
  have h1':decide (n < -9)=true:=decide_eq_true h1
  have q1 : -(n.tdiv 10)=(-n) / 10:=by rw [← Int.neg_tdiv,Int.tdiv_eq_ediv_of_nonneg (by omega)]
  have q2 : -(n.tmod 10)=(-n) % 10:=by rw [← Int.neg_tmod,Int.tmod_eq_emod_of_nonneg (by omega)]
  obtain ⟨a,qa⟩:∃ a:Nat,-(n.tdiv 10)=(a:Int):=⟨((-n) / 10).toNat,by omega⟩
  obtain ⟨b,qb⟩:∃ b:Nat,-(n.tmod 10)=(b:Int):=⟨((-n) % 10).toNat,by omega⟩
  have wa:IntKind.i64.wrap (n.tdiv 10)=n.tdiv 10:=IntWalk.i64_in _ (by omega)
  have wb:IntKind.i64.wrap (n.tmod 10)=n.tmod 10:=IntWalk.i64_in _ (by omega)
  have wa':IntKind.i64.wrap (-(n.tdiv 10))=(a:Int):=by rw [qa]; exact IntWalk.i64_in _ (by omega)
  have wb':IntKind.i64.wrap (-(n.tmod 10))=(b:Int):=by rw [qb]; exact IntWalk.i64_in _ (by omega)
  rw [qa,qb,Int.toNat_natCast,Int.toNat_natCast]
  have s1:(decN a).size≤19:=decN_size 18 _ (by omega)
  have s2:(decN b).size≤19:=decN_size 18 _ (by omega)
  have hla:a≤9223372036854775807:=by omega
  have hlb:b≤9223372036854775807:=by omega
  have Ha:=Lib.hid (fun w=>dec_nat a w hla)
  have Hb:=Lib.hid (fun w=>dec_nat b w hlb)
  generalize decN a=da at *
  generalize decN b=db at *
  clear qa qb q1 q2
  have z1:da.size≤9223372036854775806:=by omega
  have z2:(dash ++ da).size+db.size≤9223372036854775807:=by rw [ByteArray.size_append]; show 1+_+_≤_; omega
  go_enter Tryz.func45,Tryz.ntmps45
  go_wp2_with fail
  refine (Ha.out _).mono ?_
  rintro e w1 ⟨rfl,hb1⟩
  go_wp2_with fail
  refine (Hb.out _).mono ?_
  rintro e w2 ⟨rfl,hb2⟩
  go_wp2_with fail
  go_ret
  exact ⟨rfl,hb1.trans (hb2.mono hb1.size)⟩
 ·by_cases h2:n<0
  ·have e:decI n=dash ++ decN (-n).toNat:=by unfold decI; rw [if_neg h1,if_pos h2]
   rw [e]
   clear e
   have h1':decide (n < -9)=false:=decide_eq_false h1
   have h2':decide (n<0)=true:=decide_eq_true h2
   obtain ⟨a,qa⟩:∃ a:Nat,-n=(a:Int):=⟨(-n).toNat,by omega⟩
   have wa:IntKind.i64.wrap (-n)=(a:Int):=by rw [qa]; exact IntWalk.i64_in _ (by omega)
   rw [qa,Int.toNat_natCast]
   have s1:(decN a).size≤19:=decN_size 18 _ (by omega)
   have hla:a≤9223372036854775807:=by omega
   have Ha:=Lib.hid (fun w=>dec_nat a w hla)
   generalize decN a=da at *
   clear qa
   have z1:da.size≤9223372036854775806:=by omega
   go_enter Tryz.func45,Tryz.ntmps45
   go_wp2_with fail
   refine (Ha.out _).mono ?_
   rintro e w1 ⟨rfl,hb1⟩
   go_wp2_with fail
   go_ret
   exact ⟨rfl,hb1⟩
  ·have e:decI n=decN n.toNat:=by unfold decI; rw [if_neg h1,if_neg h2]
   rw [e]
   obtain ⟨a,rfl⟩:∃ a:Nat,n=(a:Int):=⟨n.toNat,by omega⟩
   rw [Int.toNat_natCast]
   exact dec_nat a w (by omega)
end Go.Proofs.YtaeadmlgffaegaaGreatDoor
