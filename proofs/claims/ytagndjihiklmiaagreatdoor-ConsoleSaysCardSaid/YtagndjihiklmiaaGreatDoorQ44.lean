/- A new player, the program's and the reference's. -/
import Derived.Test.YtagndjihiklmiaaGreatDoorQ43
set_option linter.unusedSimpArgs false
set_option linter.unusedVariables false
set_option maxRecDepth 100000
set_option maxHeartbeats 8000000
namespace Go.Proofs.YtagndjihiklmiaaGreatDoor
open Go.RowKit Go.Sort
def pst0:St:=St.new Dv.new
def RetPlNew (T:Tys) (tp:TypeId) (W0 w:World):Ending→World→Prop:=fun e w' =>
 ∃ (p b bd:Nat) (col:Nat→Nat) (y:Sv),e=.returned (.pointer (some ⟨p,0,none⟩))∧PlAt T tp W0 w' col p b bd 0 0 y pst0∧(∀ k,k<w.heap.size→col k=9)∧(∀ k,Pf col p k→w.heap.size≤k)∧Below w.heap.size w w'
theorem plnew_any (W0 w:World) (hW:Below W0.heap.size W0 w):Calls Tryz.prog 11 #[] w (RetPlNew Ts tPl W0 w):=by
 have HW:=Lib.hid hW;clear hW;go_enter Tryz.func11,Tryz.ntmps11;go_wp2_with fail;refine (devnew_any w).mono ?_;rintro e w1 ⟨rfl,hd1,hb1,hs1⟩;go_wp2_with fail;refine (stnew_any (fun _=>False) (fun k=>k=w.heap.size) w1 w.heap.size Dv.new (hd1 _) (fun k hk=>by omega) (fun k hk=>hk.elim) (fun k hk=>hk.elim)).mono ?_;rintro e w2 ⟨b,col,y,rfl,hst,hb2,hfl,_⟩;have HF:Hid (∀ k,Fl col k→w.heap.size≤k):=fun k hk=>(hfl k hk).elim (fun e=>by omega) (fun e=>Nat.le_trans hb1.size e)
 have HB:=Lib.hid (hb1.trans (hb2.mono hb1.size));have HS:=Lib.hid hst
 obtain ⟨bd,hbd⟩:∃ n,w.heap.size=n:=⟨_,rfl⟩
 rw [hbd] at HS;clear hd1 hb1 hs1 hst hb2 hfl;go_wp2_with fail;go_ret;have hb3:=(Below.refl w2.heap.size w2).alloc (Nat.le_refl _) (.cells #[.pointer (some ⟨bd,0,none⟩),.pointer (some ⟨b,0,none⟩)] tPl);obtain ⟨col',h1,h2,h3⟩:=PlAt.made (F:=fun _=>False) (w1:=w) (d:=Dv.new) HW.out HS.out rfl DvOk.new rfl HB.out HF.out hb3 (Nat.le_refl _) (heap_alloc_new _ _) (Bd.newB rfl);exact ⟨_,b,bd,col',y,rfl,h1,h2,h3,HB.out.trans (hb3.mono HB.out.size)⟩
theorem rzcells:(Tryz.zeroCells52:Array Value)=(devCells Dv.new (.slice none 0 0) (.slice none 0 0)).toArray:=by kernel_rfl
theorem rplnew_any (W0 w:World) (hW:Below W0.heap.size W0 w):Calls Tryz.prog 7 #[] w (RetPlNew Tr tPr W0 w):=by
 have HW:=Lib.hid hW;clear hW;go_enter Tryz.func7,Tryz.ntmps7;go_wp2_with fail;have hd1:∀ S,DevAt TDr TPr S (fun k=>k=w.heap.size) (w.alloc (Obj.cells Tryz.zeroCells52 TDr)) w.heap.size Dv.new:=fun S=>dev_new _ _ _ _ (by rw [← rzcells]; exact heap_alloc_new _ _) rfl
 have hb1:=(Below.refl w.heap.size w).alloc (Nat.le_refl _) (Obj.cells Tryz.zeroCells52 TDr);have hs1:(w.alloc (Obj.cells Tryz.zeroCells52 TDr)).heap.size=w.heap.size+1:=by simp
 have HA:=Lib.hid (And.intro hd1 (And.intro hb1 hs1));clear hd1 hb1 hs1;generalize World.alloc _ _=w1 at HA ⊢;refine (rstnew_any (fun _=>False) (fun k=>k=w.heap.size) w1 w.heap.size Dv.new (HA.out.1 _) (fun k hk=>by have:=HA.out.2.2; omega) (fun k hk=>hk.elim) (fun k hk=>hk.elim)).mono ?_;rintro e w2 ⟨b,col,y,rfl,hst,hb2,hfl,_⟩;obtain ⟨_,hb1,hs1⟩:=HA.out;have HF:Hid (∀ k,Fl col k→w.heap.size≤k):=fun k hk=>(hfl k hk).elim (fun e=>by omega) (fun e=>Nat.le_trans hb1.size e)
 have HB:=Lib.hid (hb1.trans (hb2.mono hb1.size));have HS:=Lib.hid hst
 obtain ⟨bd,hbd⟩:∃ n,w.heap.size=n:=⟨_,rfl⟩
 rw [hbd] at HS;clear HA hb1 hs1 hst hb2 hfl;go_wp2_with fail;go_ret;have hb3:=(Below.refl w2.heap.size w2).alloc (Nat.le_refl _) (.cells #[.pointer (some ⟨bd,0,none⟩),.pointer (some ⟨b,0,none⟩)] tPr);obtain ⟨col',h1,h2,h3⟩:=PlAt.made (F:=fun _=>False) (w1:=w) (d:=Dv.new) HW.out HS.out rfl DvOk.new rfl HB.out HF.out hb3 (Nat.le_refl _) (heap_alloc_new _ _) (Bd.newB rfl);exact ⟨_,b,bd,col',y,rfl,h1,h2,h3,HB.out.trans (hb3.mono HB.out.size)⟩
theorem zero_stp:∀ w,(zeroValue 32).run Tryz.prog w=.ok (.agg #[.string ⟨#[]⟩,.int .i64 0,.int .i64 0,.string ⟨#[]⟩]) w:=fun _=>by kernel_rfl
end Go.Proofs.YtagndjihiklmiaaGreatDoor
namespace Go.Proofs.YtagndjihiklmiaaGreatDoor
open Go.RowKit Go.Sort
abbrev playG (W0:World) (col:Nat→Nat) (w:World) (p bd N:Nat) (s:St) (z:Stp) (K:Int):Prop:=Calls Tryz.prog 14 #[.pointer (some ⟨p,0,none⟩),stpV z] w (RetPlay Ts tPl W0 col w p bd N K s z)
section
variable {W0 w w1:World} {col:Nat→Nat} {p b bd bb N:Nat} {K:Int} {x:Sv} {s:St} {z:Stp}
theorem play_asks (P:Pre Ts tPl 42 W0 col w w1 p b bd bb N x s z K) (hc:pcOf z.word=.read∨pcOf z.word=.write∨pcOf z.word=.sync):playG W0 col w p bd N s z K:=by
 obtain ⟨hbb,HW,pc0,pc1,H1,KS,HX,Hpl,Hbl,Hbn,Hcb,HEE,Ha,H0,q0,hK,hN,HD,KD,HXD,c0,c1,d0,d1,d2,d3⟩:=P;rcases hc with hc | hc | hc;obtain ⟨h0,_⟩:=Wd.of hc;have He:Hid (playM s z=((s.ask z.a 1 z.b noB).1,doneB (s.ask z.a 1 z.b noB).2)):=show _=_ by unfold playM; rw [hc]
 rotate_left;obtain ⟨h0,h1,_⟩:=Wd.of hc;have He:Hid (playM s z=((s.ask z.a 2 z.b z.data).1,doneB (s.ask z.a 2 z.b z.data).2)):=show _=_ by unfold playM; rw [hc]
 rotate_left;obtain ⟨h0,h1,h2,_⟩:=Wd.of hc;have He:Hid (playM s z=((s.ask z.a 3 0 noB).1,doneB (s.ask z.a 3 0 noB).2)):=show _=_ by unfold playM; rw [hc]
 rotate_left
 all_goals
  clear hc;go_enter Tryz.func14,Tryz.ntmps14;go_wp2_with fail;rw [HW.out]
  go_region_held3 (fun u=>u.cell? ⟨p,0,none⟩=some (.pointer (some ⟨bd,0,none⟩))∧u.cell? ⟨p,1,none⟩=some (.pointer (some ⟨b,0,none⟩))∧u.cell? ⟨bb,0,none⟩=some (.string z.word)∧u.cell? ⟨bb,1,none⟩=some (.int .i64 z.a)∧u.cell? ⟨bb,2,none⟩=some (.int .i64 z.b)∧u.cell? ⟨bb,3,none⟩=some (.string z.data))
   (first | exact K2 | exact K1 | exact KD.out | exact KS.out)
   (first
    |(go_at_call 42; refine (ask_any col w1.drew b bd N x s z.a _ _ _ K HD.out.st HD.out.inv HD.out.bnd q0 (by omega)).mono ?_; rintro e u1 hr; obtain ⟨rfl,col2,y2,h2,hp2⟩:=HD.out.five hr (HD.out.inv.ask_ ..) (HD.out.bnd.ask q0 ..) (by omega); have hl1:=HD.out.call_cells h2 hp2 KD.out Hcb.out Hbn.out Hbl.out; have K1:=hl1.1; have H2:=Lib.hid h2; have HP:=Lib.hid hp2; have HL:=Lib.hid hl1.2; clear hr h2 hp2 hl1)
    |(go_at_call 41; refine (done_any _ u1 (ask_err ..) (H2.out.env HEE.out)).mono ?_; rintro e u2 ⟨rfl,hb2⟩; have K2:=Ks.below K1 hb2 HL.out.1 HL.out.2; have HB2:=Lib.hid hb2; clear hb2))
  go_wp2_with fail;go_ret;unfold RetPlay;rw [He.out];exact ⟨rfl,play_done H2.out HXD.out HP.out HB2.out H0.out.c9 (by omega) (by omega)⟩
theorem play_got (P:Pre Ts tPl 42 W0 col w w1 p b bd bb N x s z K) (hc:pcOf z.word=.got):playG W0 col w p bd N s z K:=by
 obtain ⟨hbb,HW,pc0,pc1,H1,KS,HX,Hpl,Hbl,Hbn,Hcb,HEE,Ha,H0,q0,hK,hN,HD,KD,HXD,c0,c1,d0,d1,d2,d3⟩:=P;obtain ⟨h0,h1,h2,h3,_⟩:=Wd.of hc;have He:Hid (playM s z=(s,gotM s z.a)):=show _=_ by unfold playM; rw [hc]
 clear hc;go_enter Tryz.func14,Tryz.ntmps14;go_wp2_with fail;rw [HW.out];refine (pgot_any W0 col w1 p b bd N x s K z.a H1.out HEE.out Ha.out.1).mono ?_;rintro e u1 ⟨rfl,hb1⟩;have HB1:=Lib.hid hb1;clear hb1;go_wp2_with fail;go_ret;unfold RetPlay;rw [He.out];exact ⟨rfl,play_done H1.out HX.out (Pr.rest (Below.refl _ _)) HB1.out H0.out.c9 (by omega) (by omega)⟩
theorem play_tick (P:Pre Ts tPl 42 W0 col w w1 p b bd bb N x s z K) (hc:pcOf z.word=.tick):playG W0 col w p bd N s z K:=by
 obtain ⟨hbb,HW,pc0,pc1,H1,KS,HX,Hpl,Hbl,Hbn,Hcb,HEE,Ha,H0,q0,hK,hN,HD,KD,HXD,c0,c1,d0,d1,d2,d3⟩:=P;obtain ⟨h0,h1,h2,h3,h4,_⟩:=Wd.of hc;have He:Hid (playM s z=(s.tick,p_okB)):=show _=_ by unfold playM; rw [hc]
 clear hc;go_enter Tryz.func14,Tryz.ntmps14;go_wp2_with fail;rw [HW.out];refine (tick_any col w1 b bd N x s K H1.out.st H1.out.inv H1.out.bnd q0 (by omega)).mono ?_;rintro e u1 hr;obtain ⟨rfl,col2,y2,h2,hp2⟩:=H1.out.four hr (H1.out.inv.tick) (H1.out.bnd.tick q0) (by omega);have H2:=Lib.hid h2;have HP:=Lib.hid hp2;clear hr h2 hp2;go_wp2_with fail;go_ret;unfold RetPlay;rw [He.out];exact ⟨rfl,play_done H2.out HX.out HP.out (Below.refl _ _) H0.out.c9 (by omega) (by omega)⟩
theorem play_clean (P:Pre Ts tPl 42 W0 col w w1 p b bd bb N x s z K) (hc:pcOf z.word=.clean):playG W0 col w p bd N s z K:=by
 obtain ⟨hbb,HW,pc0,pc1,H1,KS,HX,Hpl,Hbl,Hbn,Hcb,HEE,Ha,H0,q0,hK,hN,HD,KD,HXD,c0,c1,d0,d1,d2,d3⟩:=P;obtain ⟨h0,h1,h2,h3,h4,h5,_⟩:=Wd.of hc;have He:Hid (playM s z=(s.clean.1,yesB s.clean.2)):=show _=_ by unfold playM; rw [hc]
 clear hc;go_enter Tryz.func14,Tryz.ntmps14;go_wp2_with fail;rw [HW.out];refine (clean_st col w1 b bd N x s H1.out.st H1.out.inv ⟨by have:=H1.out.bnd.use; omega,by have:=H1.out.bnd.tag; omega⟩).mono ?_;rintro e u1 hr;obtain ⟨rfl,col2,y2,h2,hp2⟩:=H1.out.two hr (H1.out.inv.clean) (H1.out.bnd.clean) (by omega);have H2:=Lib.hid h2;have HP:=Lib.hid hp2;clear hr h2 hp2;go_wp2_with fail;refine (yes_any _ u1).mono ?_;rintro e u2 ⟨rfl,hb2⟩;have HB2:=Lib.hid hb2;clear hb2;go_wp2_with fail;go_ret;unfold RetPlay;rw [He.out];exact ⟨rfl,play_done H2.out HX.out HP.out HB2.out H0.out.c9 (by omega) (by omega)⟩
theorem play_dispatch (P:Pre Ts tPl 42 W0 col w w1 p b bd bb N x s z K) (hc:pcOf z.word=.dispatch):playG W0 col w p bd N s z K:=by
 obtain ⟨hbb,HW,pc0,pc1,H1,KS,HX,Hpl,Hbl,Hbn,Hcb,HEE,Ha,H0,q0,hK,hN,HD,KD,HXD,c0,c1,d0,d1,d2,d3⟩:=P;obtain ⟨h0,h1,h2,h3,h4,h5,h6,_⟩:=Wd.of hc;have He:Hid (playM s z=(s.dispatch.1,yesB s.dispatch.2)):=show _=_ by unfold playM; rw [hc]
 clear hc;go_enter Tryz.func14,Tryz.ntmps14;go_wp2_with fail;rw [HW.out];refine (dispatch_any col w1 b bd N x s H1.out.st H1.out.inv).mono ?_;rintro e u1 hr;obtain ⟨rfl,col2,y2,h2,hp2⟩:=H1.out.five hr (H1.out.inv.dispatch) (H1.out.bnd.dispatch) (by omega);have H2:=Lib.hid h2;have HP:=Lib.hid hp2;clear hr h2 hp2;go_wp2_with fail;refine (yes_any _ u1).mono ?_;rintro e u2 ⟨rfl,hb2⟩;have HB2:=Lib.hid hb2;clear hb2;go_wp2_with fail;go_ret;unfold RetPlay;rw [He.out];exact ⟨rfl,play_done H2.out HX.out HP.out HB2.out H0.out.c9 (by omega) (by omega)⟩
theorem play_ends (P:Pre Ts tPl 42 W0 col w w1 p b bd bb N x s z K) (hc:pcOf z.word=.end_∨pcOf z.word=.fault):playG W0 col w p bd N s z K:=by
 obtain ⟨hbb,HW,pc0,pc1,H1,KS,HX,Hpl,Hbl,Hbn,Hcb,HEE,Ha,H0,q0,hK,hN,HD,KD,HXD,c0,c1,d0,d1,d2,d3⟩:=P;rcases hc with hc | hc;obtain ⟨h0,h1,h2,h3,h4,h5,h6,h7,_⟩:=Wd.of hc;have He:Hid (playM s z=((s.end_ z.a false).1,doneB (s.end_ z.a false).2)):=show _=_ by unfold playM; rw [hc]
 have h9:(z.word.toList == [102,97,117,108,116])=false:=by have e:=eq_of_beq h7; rw [e]; rfl
 rotate_left;obtain ⟨h0,h1,h2,h3,h4,h5,h6,h7,h8,_⟩:=Wd.of hc;have He:Hid (playM s z=((s.end_ z.a true).1,doneB (s.end_ z.a true).2)):=show _=_ by unfold playM; rw [hc]
 rotate_left
 all_goals
  clear hc;go_enter Tryz.func14,Tryz.ntmps14;go_wp2_with fail;rw [HW.out]
  go_region_held3 (fun u=>u.cell? ⟨p,0,none⟩=some (.pointer (some ⟨bd,0,none⟩))∧u.cell? ⟨p,1,none⟩=some (.pointer (some ⟨b,0,none⟩))∧u.cell? ⟨bb,0,none⟩=some (.string z.word)∧u.cell? ⟨bb,1,none⟩=some (.int .i64 z.a)∧u.cell? ⟨bb,2,none⟩=some (.int .i64 z.b)∧u.cell? ⟨bb,3,none⟩=some (.string z.data))
   (first | exact K2 | exact K1 | exact KD.out | exact KS.out)
   (first
    |(go_at_call 48; refine (end_any col w1.drew b bd N x s z.a _ K HD.out.st HD.out.inv HD.out.bnd q0 (by omega) (by omega)).mono ?_; rintro e u1 hr; obtain ⟨rfl,col2,y2,h2,hp2⟩:=HD.out.five hr (HD.out.inv.end_ ..) (HD.out.bnd.end_ q0 HD.out.inv ..) (by omega); have hl1:=HD.out.call_cells h2 hp2 KD.out Hcb.out Hbn.out Hbl.out; have K1:=hl1.1; have H2:=Lib.hid h2; have HP:=Lib.hid hp2; have HL:=Lib.hid hl1.2; clear hr h2 hp2 hl1)
    |(go_at_call 41; refine (done_any _ u1 (end_err ..) (H2.out.env HEE.out)).mono ?_; rintro e u2 ⟨rfl,hb2⟩; have K2:=Ks.below K1 hb2 HL.out.1 HL.out.2; have HB2:=Lib.hid hb2; clear hb2))
  go_wp2_with fail;go_ret;unfold RetPlay;rw [He.out];exact ⟨rfl,play_done H2.out HXD.out HP.out HB2.out H0.out.c9 (by omega) (by omega)⟩
theorem play_round (P:Pre Ts tPl 42 W0 col w w1 p b bd bb N x s z K) (hc:pcOf z.word=.round):playG W0 col w p bd N s z K:=by
 obtain ⟨hbb,HW,pc0,pc1,H1,KS,HX,Hpl,Hbl,Hbn,Hcb,HEE,Ha,H0,q0,hK,hN,HD,KD,HXD,c0,c1,d0,d1,d2,d3⟩:=P;obtain ⟨h0,h1,h2,h3,h4,h5,h6,h7,h8,h9,_⟩:=Wd.of hc;have He:Hid (playM s z=(s.round,p_okB)):=show _=_ by unfold playM; rw [hc]
 clear hc;go_enter Tryz.func14,Tryz.ntmps14;go_wp2_with fail;rw [HW.out];refine (round_any col w1 b bd N x s K H1.out.st H1.out.inv H1.out.bnd q0 (by omega) (by omega)).mono ?_;rintro e u1 hr;obtain ⟨rfl,col2,y2,h2,hp2⟩:=H1.out.five hr (H1.out.inv.round) (H1.out.bnd.round q0 H1.out.inv) (by omega);have H2:=Lib.hid h2;have HP:=Lib.hid hp2;clear hr h2 hp2;go_wp2_with fail;go_ret;unfold RetPlay;rw [He.out];exact ⟨rfl,play_done H2.out HX.out HP.out (Below.refl _ _) H0.out.c9 (by omega) (by omega)⟩
theorem play_settle (P:Pre Ts tPl 42 W0 col w w1 p b bd bb N x s z K) (hc:pcOf z.word=.settle):playG W0 col w p bd N s z K:=by
 obtain ⟨hbb,HW,pc0,pc1,H1,KS,HX,Hpl,Hbl,Hbn,Hcb,HEE,Ha,H0,q0,hK,hN,HD,KD,HXD,c0,c1,d0,d1,d2,d3⟩:=P;obtain ⟨h0,h1,h2,h3,h4,h5,h6,h7,h8,h9,h10,_⟩:=Wd.of hc;have He:Hid (playM s z=((St.settle z.a.toNat s).1,(itoaB ((St.settle z.a.toNat s).2:Nat) ++ p_spB) ++ yesB (St.settle z.a.toNat s).1.quiet)):=show _=_ by unfold playM; rw [hc]
 clear hc;have hm0:z.a.toNat≤999:=by have:=Ha.out; omega
 have HM:Hid (z.a=((z.a.toNat:Nat):Int)):=show _=_ from (Int.toNat_of_nonneg Ha.out.1).symm;have HQ:Hid ((St.settle z.a.toNat s).2≤999):=settle_le' s hm0;go_enter Tryz.func14,Tryz.ntmps14;go_wp2_with fail;rw [HW.out]
 go_region_held3 (fun u=>u.cell? ⟨p,0,none⟩=some (.pointer (some ⟨bd,0,none⟩))∧u.cell? ⟨p,1,none⟩=some (.pointer (some ⟨b,0,none⟩))∧u.cell? ⟨bb,0,none⟩=some (.string z.word)∧u.cell? ⟨bb,1,none⟩=some (.int .i64 z.a)∧u.cell? ⟨bb,2,none⟩=some (.int .i64 z.b)∧u.cell? ⟨bb,3,none⟩=some (.string z.data))
  (first | exact K1 | exact KD.out | exact KS.out)
  (first
   |(go_at_call 50; rw [HM.out]; refine (settle_any col w1.drew b bd N x s K z.a.toNat HD.out.st HD.out.inv HD.out.bnd q0 (by omega) (by omega) (by omega)).mono ?_; rintro e u1 hr; obtain ⟨rfl,col2,y2,h2,hp2⟩:=HD.out.five hr HD.out.inv.settle (HD.out.bnd.settle q0 HD.out.inv) (by omega); have hl1:=HD.out.call_cells h2 hp2 KD.out Hcb.out Hbn.out Hbl.out; have K1:=hl1.1; have H2:=Lib.hid h2; have HP:=Lib.hid hp2; clear hr h2 hp2 hl1)
   |fail)
 clear K1;generalize (St.settle z.a.toNat s).1=s2 at *;generalize (St.settle z.a.toNat s).2=n2 at *;have hq9:=HQ.out;have s1:=itoaB_size (n2:Int) (by omega) (by omega);have Hi:=Lib.hid (fun w hE=>itoa_any (n2:Int) w (by omega) (by omega) hE);have Hy:=Lib.hid (fun w=>yes_any s2.quiet w);have s3:=yesB_size s2.quiet;generalize itoaB (n2:Int)=dn at *;generalize yesB s2.quiet=yq at *;have z1:¬ (9223372036854775807<dn.size+1):=by omega
 have z2:¬ (9223372036854775807<dn.size+1+yq.size):=by omega
 go_wp2_with fail;refine (Hi.out u1 (H2.out.env HEE.out)).mono ?_;rintro e u2 ⟨rfl,hb2⟩;have HB2:=Lib.hid hb2;clear hb2;go_wp2_with fail;refine (Hy.out u2).mono ?_;rintro e u3 ⟨rfl,hb3⟩;have HB3:=Lib.hid hb3;clear hb3;go_wp2_with fail;go_ret;unfold RetPlay;rw [He.out];exact ⟨rfl,play_done H2.out HXD.out HP.out (HB2.out.trans (HB3.out.mono HB2.out.size)) H0.out.c9 (by omega) (by omega)⟩
theorem play_queue (P:Pre Ts tPl 42 W0 col w w1 p b bd bb N x s z K) (hc:pcOf z.word=.queue):playG W0 col w p bd N s z K:=by
 obtain ⟨hbb,HW,pc0,pc1,H1,KS,HX,Hpl,Hbl,Hbn,Hcb,HEE,Ha,H0,q0,hK,hN,HD,KD,HXD,c0,c1,d0,d1,d2,d3⟩:=P;obtain ⟨h0,h1,h2,h3,h4,h5,h6,h7,h8,h9,h10,h11,_⟩:=Wd.of hc;have He:Hid (playM s z=(s,textsM s.wait)):=show _=_ by unfold playM; rw [hc]
 clear hc;go_enter Tryz.func14,Tryz.ntmps14;go_wp2_with fail;rw [HW.out];refine (stqueue_any col w1 b bd N x s H1.out.st H1.out.inv.wait6).mono ?_;rintro e u1 ⟨v1,rfl,hv1,hb1⟩;have HV1:=Lib.hid hv1;have HB1:=Lib.hid hb1;clear hv1 hb1;go_wp2_with fail;refine (texts_any _ s.wait v1 u1 HV1.out (H1.out.inv.wait6) (wait_ok H1.out.inv) ((H1.out.env HEE.out).below HB1.out)).mono ?_;rintro e u2 ⟨rfl,hb2⟩;have HB2:=Lib.hid hb2;clear hb2;go_wp2_with fail;go_ret;unfold RetPlay;rw [He.out];exact ⟨rfl,play_done H1.out HX.out (Pr.rest (Below.refl _ _)) (HB1.out.trans (HB2.out.mono HB1.out.size)) H0.out.c9 (by omega) (by omega)⟩
theorem play_busy (P:Pre Ts tPl 42 W0 col w w1 p b bd bb N x s z K) (hc:pcOf z.word=.busy):playG W0 col w p bd N s z K:=by
 obtain ⟨hbb,HW,pc0,pc1,H1,KS,HX,Hpl,Hbl,Hbn,Hcb,HEE,Ha,H0,q0,hK,hN,HD,KD,HXD,c0,c1,d0,d1,d2,d3⟩:=P;obtain ⟨h0,h1,h2,h3,h4,h5,h6,h7,h8,h9,h10,h11,h12,_⟩:=Wd.of hc;have He:Hid (playM s z=(s,textsM s.v.d.l)):=show _=_ by unfold playM; rw [hc]
 clear hc;go_enter Tryz.func14,Tryz.ntmps14;go_wp2_with fail;rw [HW.out];refine (stbusy_any col w1 b bd N x s H1.out.st H1.out.inv.dv.two).mono ?_;rintro e u1 ⟨v1,rfl,hv1,hb1⟩;have HV1:=Lib.hid hv1;have HB1:=Lib.hid hb1;clear hv1 hb1;go_wp2_with fail;refine (texts_any _ s.v.d.l v1 u1 HV1.out (Nat.le_trans H1.out.inv.dv.two (by decide)) (busy_ok H1.out.inv) ((H1.out.env HEE.out).below HB1.out)).mono ?_;rintro e u2 ⟨rfl,hb2⟩;have HB2:=Lib.hid hb2;clear hb2;go_wp2_with fail;go_ret;unfold RetPlay;rw [He.out];exact ⟨rfl,play_done H1.out HX.out (Pr.rest (Below.refl _ _)) (HB1.out.trans (HB2.out.mono HB1.out.size)) H0.out.c9 (by omega) (by omega)⟩
theorem play_dirty (P:Pre Ts tPl 42 W0 col w w1 p b bd bb N x s z K) (hc:pcOf z.word=.dirty):playG W0 col w p bd N s z K:=by
 obtain ⟨hbb,HW,pc0,pc1,H1,KS,HX,Hpl,Hbl,Hbn,Hcb,HEE,Ha,H0,q0,hK,hN,HD,KD,HXD,c0,c1,d0,d1,d2,d3⟩:=P;obtain ⟨h0,h1,h2,h3,h4,h5,h6,h7,h8,h9,h10,h11,h12,h13,_⟩:=Wd.of hc;have He:Hid (playM s z=(s,itoaB (dirtyB s.bufs:Nat))):=show _=_ by unfold playM; rw [hc]
 clear hc;go_enter Tryz.func14,Tryz.ntmps14;go_wp2_with fail;rw [HW.out];refine (stdirty_any col w1 b bd N x s H1.out.st H1.out.inv.len8).mono ?_;rintro e u1 ⟨rfl,hb1⟩;have HB1:=Lib.hid hb1;have Hd6:=Lib.hid H1.out.inv.dirty;clear hb1;generalize dirtyB s.bufs=n2 at *;go_wp2_with fail;refine (itoa_any (n2:Int) u1 (by omega) (by have:=Hd6.out; omega) ((H1.out.env HEE.out).below HB1.out)).mono ?_;rintro e u2 ⟨rfl,hb2⟩;have HB2:=Lib.hid hb2;clear hb2;go_wp2_with fail;go_ret;unfold RetPlay;rw [He.out];exact ⟨rfl,play_done H1.out HX.out (Pr.rest (Below.refl _ _)) (HB1.out.trans (HB2.out.mono HB1.out.size)) H0.out.c9 (by omega) (by omega)⟩
theorem play_crash (P:Pre Ts tPl 42 W0 col w w1 p b bd bb N x s z K) (hc:pcOf z.word=.crash):playG W0 col w p bd N s z K:=by
 obtain ⟨hbb,HW,pc0,pc1,H1,KS,HX,Hpl,Hbl,Hbn,Hcb,HEE,Ha,H0,q0,hK,hN,HD,KD,HXD,c0,c1,d0,d1,d2,d3⟩:=P;obtain ⟨h0,h1,h2,h3,h4,h5,h6,h7,h8,h9,h10,h11,h12,h13,h14,_⟩:=Wd.of hc
 obtain ⟨m,hm⟩:∃ m,z.a.toNat=m:=⟨_,rfl⟩
 have HMM:Hid (m≤999):=show _≤_ by have:=Ha.out; omega
 have He:Hid (playM s z=(St.new (s.v.d.crash m),p_okB)):=show _=_ by unfold playM; rw [hc]; rw [hm]
 clear hc
 have hwr:IntKind.u64.wrap z.a=(m:Int):=by
  have:=Ha.out;have e:(m:Int)=z.a:=by omega
  rw [e];unfold IntKind.wrap;simp [IntKind.bits,IntKind.signed];omega
 clear hm;go_enter Tryz.func14,Tryz.ntmps14;go_wp2_with fail;rw [HW.out]
 go_region_held3 (fun u=>u.cell? ⟨p,0,none⟩=some (.pointer (some ⟨bd,0,none⟩))∧u.cell? ⟨p,1,none⟩=some (.pointer (some ⟨b,0,none⟩))∧u.cell? ⟨bb,0,none⟩=some (.string z.word)∧u.cell? ⟨bb,1,none⟩=some (.int .i64 z.a)∧u.cell? ⟨bb,2,none⟩=some (.int .i64 z.b)∧u.cell? ⟨bb,3,none⟩=some (.string z.data))
  (first | exact K1 | exact KD.out | exact KS.out)
  (first
   |(go_at_call 56; refine (devcrash_any (Im w1.drew col) (Fd col) w1.drew bd s.v.d m (by have:=HMM.out; omega) HD.out.st.drv.dev (fun q hq=>(HD.out.inv.dv.waits q hq).1) (by have:=HD.out.bnd.waits; omega) (fun k hk=>HD.out.st.lt k (by rw [show col k=4 from hk]; decide)) (fun k hk hf=>by have h1:col k=4:=hf; rw [hk.2] at h1; cases h1)).mono ?_; rintro e u1 ⟨rfl,hd2,hc2⟩; have K1:=KD.out.keep hc2 (fun e=>by have e:col p=4:=e; rw [H0.out.c9] at e; cases e) (fun e=>Hcb.out ⟨by rw [show col bb=4 from e]; decide,by rw [show col bb=4 from e]; decide⟩) Hpl.out Hbl.out; have HC:=Lib.hid hc2; have HV:=Lib.hid hd2; clear hc2 hd2)
   |fail)
 obtain ⟨e0,e1,_,_,_,_⟩:=K1;have HR1:Hid (u1.heap[p]?=some (.cells #[.pointer (some ⟨bd,0,none⟩),.pointer (some ⟨b,0,none⟩)] tPl (0,0))):=(HC.out.block p Hpl.out (fun e=>by have e:col p=4:=e; rw [H0.out.c9] at e; cases e)).trans HD.out.row;go_wp2_with fail;refine (stnew_any (fun _=>False) (Fd col) u1 bd (s.v.d.crash m) (HV.out.bare rfl) (fun k hk=>Nat.lt_of_lt_of_le (HD.out.st.lt k (by rw [show col k=4 from hk]; decide)) HC.out.size) (fun k hk=>hk.elim) (fun k hk=>hk.elim)).mono ?_;rintro e u2 ⟨b2,col2,y2,rfl,hs2,hb2,hf2,hlo⟩;have hR2:u2.heap[p]?=some (.cells #[.pointer (some ⟨bd,0,none⟩),.pointer (some ⟨b,0,none⟩)] tPl (0,0)):=(hb2.block p (Array.getElem?_eq_some_iff.1 HR1.out).1).trans HR1.out;have g1:u2.cell? ⟨p,1,none⟩=some (.pointer (some ⟨b,0,none⟩)):=cell_of_row _ _ 1 _ _ _ hR2;have gf:∀ k,u2.frozen? ⟨p,k,none⟩=false:=fun k=>frozen_of_row _ _ k _ _ hR2
 have HR2:=Lib.hid hR2;have HS2:=Lib.hid hs2;have HB2:=Lib.hid hb2;have HF2:=Lib.hid hf2;clear hR2 hs2 hb2 hf2 hlo e0 e1;go_wp2_with fail;go_ret;unfold RetPlay;rw [He.out];obtain ⟨col',h3,hp3⟩:=HD.out.crashed (m:=m) HC.out HS2.out HB2.out HF2.out (Same1.refl.setCell 1 (.pointer (some ⟨b2,0,none⟩))) (heap_setCell_same _ _ 1 _ _ _ HR2.out) (Bd.newB rfl);exact ⟨rfl,col',b2,y2,h3.mono (by omega) (by omega),hp3.before HXD.out⟩
theorem play_other (P:Pre Ts tPl 42 W0 col w w1 p b bd bb N x s z K) (hc:pcOf z.word=.other):playG W0 col w p bd N s z K:=by
 obtain ⟨hbb,HW,pc0,pc1,H1,KS,HX,Hpl,Hbl,Hbn,Hcb,HEE,Ha,H0,q0,hK,hN,HD,KD,HXD,c0,c1,d0,d1,d2,d3⟩:=P;obtain ⟨h0,h1,h2,h3,h4,h5,h6,h7,h8,h9,h10,h11,h12,h13,h14,_⟩:=Wd.of hc;have He:Hid (playM s z=(s,p_okB)):=show _=_ by unfold playM; rw [hc]
 clear hc;go_enter Tryz.func14,Tryz.ntmps14;go_wp2_with fail;rw [HW.out];go_ret;unfold RetPlay;rw [He.out];exact ⟨rfl,play_done H1.out HX.out (Pr.rest (Below.refl _ _)) (Below.refl _ _) H0.out.c9 (by omega) (by omega)⟩
end
theorem play_any (W0:World) (col:Nat→Nat) (w:World) (p b bd N:Nat) (x:Sv) (s:St) (z:Stp) (K:Int) (h:PlAt Ts tPl W0 w col p b bd N K x s) (hE:Env W0) (hK:K≤500000000) (hN:N≤800000000) (ha:0≤z.a∧z.a≤999):playG W0 col w p bd N s z K:=by
 obtain ⟨w1,bb,P⟩:=h.pre 42 z hE hK hN ha
 cases hc:pcOf z.word
 ·exact play_asks P (.inl hc)
 ·exact play_asks P (.inr (.inl hc))
 ·exact play_asks P (.inr (.inr hc))
 ·exact play_got P hc
 ·exact play_tick P hc
 ·exact play_clean P hc
 ·exact play_dispatch P hc
 ·exact play_ends P (.inl hc)
 ·exact play_ends P (.inr hc)
 ·exact play_round P hc
 ·exact play_settle P hc
 ·exact play_queue P hc
 ·exact play_busy P hc
 ·exact play_dirty P hc
 ·exact play_crash P hc
 ·exact play_other P hc
end Go.Proofs.YtagndjihiklmiaaGreatDoor
namespace Go.Proofs.YtagndjihiklmiaaGreatDoor
def lineM (ps:ByteArray→Option Stp) (s:St) (t:ByteArray):St × ByteArray:=if 40<t.size then (s,doneB 4) else match ps t with
 |none=>(s,doneB 4)
 |some z=>playM s z
def runS (ps:ByteArray→Option Stp) (s:St) (l:List ByteArray):St:=l.foldl (fun s t=>(lineM ps s t).1) s
def outM (ps:ByteArray→Option Stp):St→List ByteArray→List ByteArray
 |_,[]=>[]
 |s,t :: r=>(lineM ps s t).2 :: outM ps (lineM ps s t).1 r
section
variable {ps:ByteArray→Option Stp} {s:St} {l:List ByteArray} {t:ByteArray} {k:Nat}
theorem lineM_long (h:40<t.size):lineM ps s t=(s,doneB 4):=if_pos h
theorem lineM_none (h:¬ 40<t.size) (hp:ps t=none):lineM ps s t=(s,doneB 4):=by unfold lineM; rw [if_neg h,hp]
theorem lineM_some {z:Stp} (h:¬ 40<t.size) (hp:ps t=some z):lineM ps s t=playM s z:=by unfold lineM; rw [if_neg h,hp]
theorem outM_snoc:∀ (l:List ByteArray) (s:St),outM ps s (l ++ [t])=outM ps s l ++ [(lineM ps (runS ps s l) t).2]
 | [],_=>rfl
 |a :: r,s=>congrArg ((lineM ps s a).2 :: ·) (outM_snoc r (lineM ps s a).1)
theorem outM_succ (h:l[k]?=some t):outM ps s (l.take (k+1))=outM ps s (l.take k) ++ [(lineM ps (runS ps s (l.take k)) t).2]:=by
 rw [List.take_add_one,h];exact outM_snoc _ _
theorem runS_succ (h:l[k]?=some t):runS ps s (l.take (k+1))=(lineM ps (runS ps s (l.take k)) t).1:=by
 unfold runS;rw [List.take_add_one,h,List.foldl_append]; rfl
theorem outM_len:∀ (l:List ByteArray) (s:St),(outM ps s l).length=l.length
 | [],_=>rfl
 |a :: r,s=>congrArg (·+1) (outM_len r (lineM ps s a).1)
end
end Go.Proofs.YtagndjihiklmiaaGreatDoor
namespace Go.Proofs.YtagndjihiklmiaaGreatDoor
open Go.RowKit Go.Sort
section
variable {T:Tys} {tp:TypeId} {W0 w w':World} {col:Nat→Nat} {p b bd N:Nat} {K:Int} {x:Sv} {s:St}
def Out9 (W0:World) (col:Nat→Nat) (p:Nat) (v:Value):Prop:=∀ k,v.ownBlock=some k→col k=9∧k≠p∧W0.heap.size≤k
theorem Out9.nil:Out9 W0 col p (.slice none 0 0):=fun k hk=>by cases hk
theorem Out9.call {col':Nat→Nat} {v:Value} (h:Out9 W0 col p v) (hr:Pr col col' p w w'):Out9 W0 col' p v:=fun k hk=>⟨hr.nine k (h k hk).1,(h k hk).2⟩
theorem PlAt.grew (h:PlAt T tp W0 w col p b bd N K x s) {v v':Value} (h9:Out9 W0 col p v) (hg:w.grownBy w' v.ownBlock) (hv:v'.ownBlock=v.ownBlock∨v'.ownBlock=some w.heap.size) (hl:∀ k,v'.ownBlock=some k→k<w'.heap.size) :
  ∃ col',PlAt T tp W0 w' col' p b bd N K x s∧Out9 W0 col' p v'∧∀ k,col k=9→col' k=9:=by
 classical
 have hpl:=(Array.getElem?_eq_some_iff.1 h.row).1;have hc:Chg (fun k=>v.ownBlock=some k) w w':=Chg.refl.grown hg (fun k hk=>.inl hk);have hst:=h.st.far9 hc (fun k hk=>(h9 k hk).1) (fun k=>v'.ownBlock=some k∧w.heap.size≤k) (fun k hk=>⟨hk.2,hl k hk.1⟩)
 obtain ⟨col',hcol⟩:∃ f:Nat→Nat,(fun k=>if v'.ownBlock=some k∧w.heap.size≤k then 9 else col k)=f:=⟨_,rfl⟩
 have hcc:∀ k,col' k=if v'.ownBlock=some k∧w.heap.size≤k then 9 else col k:=fun k=>by rw [← hcol]
 rw [hcol] at hst;clear hcol
 have hF:∀ k,Fl col' k→Fl col k:=fun k hk=>by
  obtain ⟨h1,h2⟩:=hk;rw [hcc] at h1 h2;by_cases e:v'.ownBlock=some k∧w.heap.size≤k
  ·rw [if_pos e] at h2; exact absurd rfl h2
  ·rw [if_neg e] at h1 h2; exact ⟨h1,h2⟩
 have hn:∀ k,col k=9→col' k=9:=fun k hk=>by
  rw [hcc]
  split
  ·rfl
  ·exact hk
 refine ⟨col',⟨hst,h.inv,h.bnd,h.k0,(hc.block p hpl (fun e=>(h9 p e).2.1 rfl)).trans h.row,hn _ h.c9,h.below.trans (hc.below (fun k hk=>(h9 k hk).2.2) h.below.size),fun k hk=>h.own k (hF k hk),h.base⟩,fun k hk=>?_,hn⟩;by_cases hk2:w.heap.size≤k
 ·exact ⟨by rw [hcc,if_pos ⟨hk,hk2⟩],by omega,Nat.le_trans h.below.size hk2⟩
 ·have e:v.ownBlock=some k:=by
   rcases hv with hv | hv
   ·rw [← hv]; exact hk
   ·rw [hv] at hk; cases hk; omega
  exact ⟨hn k (h9 k e).1,(h9 k e).2⟩
end
end Go.Proofs.YtagndjihiklmiaaGreatDoor
namespace Go.Proofs.YtagndjihiklmiaaGreatDoor
open Go.RowKit Go.Sort
theorem doneB_le {n:Nat} (h:n≤1000):(doneB n).size≤3000:=by
 have:=itoaB_size (n:Int) (by omega) (by omega);unfold doneB
 split
 ·exact Nat.le_of_ble_eq_true rfl
 ·rw [ByteArray.size_append]
  have e:p_errB.size=6:=rfl;omega
theorem yesB_le (b:Bool):(yesB b).size≤3000:=Nat.le_trans (yesB_size b) (by decide)
theorem textsM_le {S:Nat→Prop} {w:World} {l:List Rq} {v:Value} (h:ReqsAt S w v l) (hok:∀ r ∈ l,ReqOk r) (hl:l.length≤6):(textsM l).size≤3000:=by
 unfold textsM
 split
 ·exact Nat.le_of_ble_eq_true rfl
 ·have h1:=joinP_size (l.map textP) 32 300 (fun x hx=>txs_size h hok x (by unfold txs; rwa [List.take_length]))
  rw [List.length_map] at h1;have h4:l.length * (300+1)≤6 * 301:=Nat.mul_le_mul hl (Nat.le_refl _);omega
theorem gotM_le {s:St} (h:Inv s) (a:Int):(gotM s a).size≤3000:=by
 unfold gotM
 split
 ·exact doneB_le (by decide)
 ·split
  ·exact Nat.le_of_ble_eq_true rfl
  ·split
   ·exact doneB_le (Nat.le_trans (got_err h _) (by decide))
   ·have:=got_size h a.toNat
    rw [ByteArray.size_append];have e:p_dataB.size=5:=rfl;omega
theorem PlAt.small {T:Tys} {tp:TypeId} {W0 w:World} {col:Nat→Nat} {p b bd N:Nat} {K:Int} {x:Sv} {s:St} (h:PlAt T tp W0 w col p b bd N K x s) (z:Stp) (ha:0≤z.a∧z.a≤999):(playM s z).2.size≤3000:=by
 obtain ⟨lv,_,hl⟩:=h.st.list;have hm:=settle_le' s (m:=z.a.toNat) (by omega);have h6:=h.inv.dirty;unfold playM
 split
 ·exact doneB_le (ask_err ..)
 ·exact doneB_le (ask_err ..)
 ·exact doneB_le (ask_err ..)
 ·exact gotM_le h.inv z.a
 ·exact Nat.le_of_ble_eq_true rfl
 ·exact yesB_le _
 ·exact yesB_le _
 ·exact doneB_le (end_err ..)
 ·exact doneB_le (end_err ..)
 ·exact Nat.le_of_ble_eq_true rfl
 ·have h1:=itoaB_size ((St.settle z.a.toNat s).2:Int) (by omega) (by omega)
  have h2:=yesB_size (St.settle z.a.toNat s).1.quiet;have e:p_spB.size=1:=rfl;simp only [ByteArray.size_append];omega
 ·exact textsM_le h.st.wait (wait_ok h.inv) h.inv.wait6
 ·exact textsM_le hl (busy_ok h.inv) (Nat.le_trans h.inv.dv.two (by decide))
 ·have:=itoaB_size (dirtyB s.bufs:Int) (by omega) (by omega)
  exact Nat.le_trans this (by decide)
 ·exact Nat.le_of_ble_eq_true rfl
 ·exact Nat.le_of_ble_eq_true rfl
end Go.Proofs.YtagndjihiklmiaaGreatDoor
namespace Go.Proofs.YtagndjihiklmiaaGreatDoor
open Go.RowKit Go.Sort
structure RunAt (T:Tys) (tp:TypeId) (w u:World) (p bd k:Nat) (s:St) (v:Value) (o:List ByteArray):Prop where
 pl:∃ (col:Nat→Nat) (b:Nat) (x:Sv),PlAt T tp w u col p b bd (2000 * k) (15000 * (k:Int)) x s∧Out9 w col p v
 row:u.ownsRow w.heap.size 9 1 v o.length (o.map .string)
 small:∀ x ∈ o,x.size≤3000
section
variable {T:Tys} {tp:TypeId} {w u u':World} {p bd k:Nat} {s:St} {v v':Value} {o:List ByteArray}
theorem RunAt.below (h:RunAt T tp w u p bd k s v o):Below w.heap.size w u:=by
 obtain ⟨col,b,x,h,_⟩:=h.pl;exact h.below
theorem RunAt.strs (h:RunAt T tp w u p bd k s v o):StrsAt (fun _=>True) u v o:=⟨Rd.of_own _ (fun _ _=>trivial) h.row,fun x hx=>Nat.le_trans (h.small x hx) (by decide)⟩
theorem RunAt.step (h:RunAt T tp w u p bd k s v o) (hb:Below u.heap.size u u'):RunAt T tp w u' p bd k s v o:=by
 obtain ⟨col,b,x,h1,h2⟩:=h.pl;exact ⟨⟨col,b,x,h1.step hb,h2⟩,own_keepD h.row (fun q hq=>hb.block q (h.row.lt q hq).2),h.small⟩
theorem RunAt.more (h:RunAt T tp w u p bd k s v o):RunAt T tp w u p bd (k+1) s v o:=by
 obtain ⟨col,b,x,h1,h2⟩:=h.pl;exact ⟨⟨col,b,x,h1.mono (by omega) (by omega),h2⟩,h.row,h.small⟩
theorem RunAt.out (h:RunAt T tp w u p bd k s v o) {t:ByteArray} (ht:t.size≤3000) (hg:u.grownBy u' v.ownBlock) (hv:v'.ownBlock=v.ownBlock∨v'.ownBlock=some u.heap.size) (hr:u'.ownsRow w.heap.size 9 1 v' (o.length+1) (o.map .string ++ [.string t])):RunAt T tp w u' p bd k s v' (o ++ [t]):=by
 obtain ⟨col,b,x,h1,h2⟩:=h.pl;obtain ⟨col',h3,h4,_⟩:=h1.grew h2 hg hv (fun q hq=>(hr.lt q hq).2);refine ⟨⟨col',b,x,h3,h4⟩,by rw [List.length_append,List.map_append]; exact hr,fun y hy=>?_⟩;rcases List.mem_append.1 hy with hy | hy
 ·exact h.small y hy
 ·rw [List.mem_singleton.1 hy]; exact ht
theorem RunAt.went {z:Stp} {f:FuncId} {args:Array Value} (h:RunAt T tp w u p bd k s v o) (ha:0≤z.a∧z.a≤999)
  (hc:∀ col b x,PlAt T tp w u col p b bd (2000 * k) (15000 * (k:Int)) x s→Calls Tryz.prog f args u (RetPlay T tp w col u p bd (2000 * k) (15000 * (k:Int)) s z)) :
  Calls Tryz.prog f args u (fun e w'=>e=.returned (.string (playM s z).2)∧RunAt T tp w w' p bd (k+1) (playM s z).1 v o∧(playM s z).2.size≤3000):=by
 obtain ⟨col,b,x,h1,h2⟩:=h.pl;have hsm:=h1.small z ha;refine (hc col b x h1).mono ?_;rintro e w' ⟨rfl,col',b',y,h3,hp⟩;exact ⟨rfl,⟨⟨col',b',y,h3.mono (by omega) (by omega),h2.call hp⟩,own_keepD h.row (fun q hq=>hp.chg.block q (h.row.lt q hq).2 (fun hf=>hf.elim (fun e=>e.2 (h2 q hq).1) (fun e=>(h2 q hq).2.1 e))),h.small⟩,hsm⟩
end
section
variable {w u:World} {p bd k:Nat} {s:St} {v:Value} {o:List ByteArray} {z:Stp}
theorem RunAt.play (h:RunAt Ts tPl w u p bd k s v o) (hE:Env w) (hk:k≤100) (hz:checkM z=0) :
  Calls Tryz.prog 14 #[.pointer (some ⟨p,0,none⟩),stpV z] u (fun e w'=>e=.returned (.string (playM s z).2)∧RunAt Ts tPl w w' p bd (k+1) (playM s z).1 v o∧(playM s z).2.size≤3000) :=
 h.went (check_a hz) (fun col b x h1=>play_any w col u p b bd _ x s z _ h1 hE (by omega) (by omega) (check_a hz))
theorem RunAt.rplay (h:RunAt Tr tPr w u p bd k s v o) (hE:Env w) (hk:k≤100) (hz:checkM z=0) :
  Calls Tryz.prog 9 #[.pointer (some ⟨p,0,none⟩),stpV z] u (fun e w'=>e=.returned (.string (playM s z).2)∧RunAt Tr tPr w w' p bd (k+1) (playM s z).1 v o∧(playM s z).2.size≤3000) :=
 h.went (check_a hz) (fun col b x h1=>rplay_any w col u p b bd _ x s z _ h1 hE (by omega) (by omega) (check_a hz))
end
end Go.Proofs.YtagndjihiklmiaaGreatDoor
