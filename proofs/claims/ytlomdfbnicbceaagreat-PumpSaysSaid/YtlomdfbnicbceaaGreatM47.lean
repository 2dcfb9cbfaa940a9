/- A step of the law's: the program's stack and the reference's do it alike. gen_lawtwo.py prints this text. SameTexts, SameNumbers, SameReq, SameReqs: two lists, two requests. -/
import Derived.Test.YtlomdfbnicbceaaGreatM45
import Derived.Test.YtlomdfbnicbceaaGreatM46
import Derived.Test.YtlomdfbnicbceaaGreatM1
import Derived.Test.YtlomdfbnicbceaaGreatM3
set_option linter.unusedSimpArgs false
set_option linter.unusedVariables false
set_option maxRecDepth 100000
set_option maxHeartbeats 8000000
namespace Go.Proofs.YtlomdfbnicbceaaGreat
open Go.RowKit Go.Sort
def stepL (s:St) (z:Sp):St :=
 if z.word.toList == [114,101,97,100] then (s.ask z.a 1 z.b z.data).1
 else if z.word.toList == [119,114,105,116,101] then (s.ask z.a 2 z.b z.data).1
 else if z.word.toList == [115,121,110,99] then (s.ask z.a 3 z.b z.data).1
 else if z.word.toList == [116,105,99,107] then s.tick
 else if z.word.toList == [99,108,101,97,110] then s.clean.1
 else if z.word.toList == [100,105,115,112,97,116,99,104] then s.dispatch.1
 else if z.word.toList == [101,110,100] then (s.end_ z.a false).1
 else if z.word.toList == [102,97,117,108,116] then (s.end_ z.a true).1
 else if z.word.toList == [114,111,117,110,100] then s.round
 else if z.word.toList == [115,101,116,116,108,101] then (if z.a<0∨200<z.a then s else (St.settle z.a.toNat s).1)
 else s
theorem ite_in {α:Type} {P:α→Prop} {c:Prop} [Decidable c] {a b:α} (ha:P a) (hb:P b):P (if c then a else b):=by split <;> assumption
theorem Inv.stepL {s:St} (h:Inv s) (z:Sp):Inv (Go.Proofs.YtlomdfbnicbceaaGreat.stepL s z) :=
 ite_in (P:=Inv) (h.ask_ ..) (ite_in (P:=Inv) (h.ask_ ..) (ite_in (P:=Inv) (h.ask_ ..) (ite_in (P:=Inv) h.tick (ite_in (P:=Inv) h.clean (ite_in (P:=Inv) h.dispatch (ite_in (P:=Inv) (h.end_ ..) (ite_in (P:=Inv) (h.end_ ..) (ite_in (P:=Inv) h.round (ite_in (P:=Inv) (ite_in (P:=Inv) h h.settle) h)))))))))
theorem Bd.stepL {K:Int} {s:St} (h:Bd K s) (h0:0≤K) (hI:Inv s) (z:Sp):Bd (K+3100) (Go.Proofs.YtlomdfbnicbceaaGreat.stepL s z):=by
 have hm:Bd (K+3100) s:=h.mono (by omega)
 have ha:∀ k p d,Bd (K+3100) (s.ask z.a k p d).1:=fun k p d=>(h.ask h0 ..).mono (by omega)
 have he:∀ f,Bd (K+3100) (s.end_ z.a f).1:=fun f=>(h.end_ h0 hI ..).mono (by omega)
 have hs:Bd (K+3100) (if z.a<0∨200<z.a then s else (St.settle z.a.toNat s).1):=by
  by_cases hz:z.a<0∨200<z.a
  ·rw [if_pos hz]; exact hm
  ·rw [if_neg hz]; exact (h.settle h0 hI).mono (by omega)
 exact ite_in (P:=Bd (K+3100)) (ha ..) (ite_in (P:=Bd (K+3100)) (ha ..) (ite_in (P:=Bd (K+3100)) (ha ..) (ite_in (P:=Bd (K+3100)) ((h.tick h0).mono (by omega)) (ite_in (P:=Bd (K+3100)) (h.clean.mono (by omega)) (ite_in (P:=Bd (K+3100)) (h.dispatch.mono (by omega)) (ite_in (P:=Bd (K+3100)) (he _) (ite_in (P:=Bd (K+3100)) (he _) (ite_in (P:=Bd (K+3100)) ((h.round h0 hI).mono (by omega)) (ite_in (P:=Bd (K+3100)) hs hm)))))))))
theorem stepped2_any (W0 w:World) (b bd b2 bd2 N:Nat) (s:St) (z:Sp) (K:Int) (h:Pair W0 w b bd b2 bd2 N s s []) (hI:Inv s) (hB:Bd K s) (k0:0≤K) (hK:K≤500000000) (hN:N≤800000000) :
  Calls Tryz.prog 10 #[.pointer (some ⟨b,0,none⟩),.pointer (some ⟨b2,0,none⟩),.agg #[.string z.word,.int .i64 z.a,.int .i64 z.b,.string z.data]] w (fun e w'=>e=.returned (.bool true)∧Pair W0 w' b bd b2 bd2 (N+600) (stepL s z) (stepL s z) []):=by
 have hP:=h.alloc #[.string z.word,.int .i64 z.a,.int .i64 z.b,.string z.data] 38
 obtain ⟨w1,hw1⟩:∃ w1,w.alloc (.cells #[.string z.word,.int .i64 z.a,.int .i64 z.b,.string z.data] 38)=w1:=⟨_,rfl⟩
 obtain ⟨B,hBz⟩:∃ B,w.heap.size=B:=⟨_,rfl⟩
 rw [hw1,hBz] at hP
 have HP:=Lib.hid hP
 have HI:=Lib.hid hI
 have HB:=Lib.hid hB
 have hmm:=@run_makeMap Tryz.prog
 obtain ⟨w2,w3,w4,hm1,hm2,hm3,hl1,hl2,hl3,hb4⟩:=kmap w1
 have HP4:=Lib.hid (hP.below hb4)
 have c0:w1.cell? ⟨B,0,none⟩=some (.string z.word):=hP.cell 0 rfl 0
 have c1:w1.cell? ⟨B,1,none⟩=some (.int .i64 z.a):=hP.cell 0 rfl 1
 have e0:w4.cell? ⟨B,0,none⟩=some (.string z.word):=HP4.out.cell 0 rfl 0
 clear h hP hI hB hb4
 go_enter Tryz.func10,Tryz.ntmps10
 go_upto_region 1 with fail
 try rw [hw1]
 try rw [hBz]
 clear hw1 hBz
 rcases Bool.eq_false_or_eq_true (z.word.toList == [114,101,97,100]) with h0 | h0
 ·have He:Hid (stepL s z=(s.ask z.a 1 z.b z.data).1):=show _=_ by unfold stepL; rw [if_pos h0]
  have hwd:z.word=wRead:=by
   have e:=eq_of_beq h0
   rw [Lib.toList_data] at e
   obtain ⟨⟨⟨wl⟩⟩,_,_,_⟩:=z
   simp only at e
   subst e
   rfl
  have hlk:(Instr.lookup tKm (.map (some w1.heap.size)) (.string z.word) false).run Tryz.prog w4=.ok (.int .i64 1) w4:=hwd▸hl1
  clear hwd hl1 hl2 hl3
  go_wp2_with fail
  have hp:=HP4.out.below (Below.refl _ _).drew
  have K0:w4.drew.cell? ⟨B,0,none⟩=some (.string z.word)∧w4.drew.cell? ⟨B,1,none⟩=some (.int .i64 z.a)∧w4.drew.cell? ⟨B,2,none⟩=some (.int .i64 z.b)∧w4.drew.cell? ⟨B,3,none⟩=some (.string z.data):=⟨hp.cell 0 rfl 0,hp.cell 0 rfl 1,hp.cell 0 rfl 2,hp.cell 0 rfl 3⟩
  have HP5:=Lib.hid hp
  clear hp hm1 hm2 hm3 hlk hmm c0 c1 e0
  go_region_held3 (fun q=>q.cell? ⟨B,0,none⟩=some (.string z.word)∧q.cell? ⟨B,1,none⟩=some (.int .i64 z.a)∧q.cell? ⟨B,2,none⟩=some (.int .i64 z.b)∧q.cell? ⟨B,3,none⟩=some (.string z.data))
   (first | exact K3 | exact K2 | exact K1 | exact K0)
   (first
    |((with_reducible refine (HP5.out.lcall (Nat.le_refl _) (fun c x h=>ask_any c w4.drew b bd N x s z.a 1 z.b z.data K h HI.out HB.out k0 (by omega))).mono ?_); rintro e u1 ⟨rfl,hp⟩; have HP6:=Lib.hid hp; have K1:u1.cell? ⟨B,0,none⟩=some (.string z.word)∧u1.cell? ⟨B,1,none⟩=some (.int .i64 z.a)∧u1.cell? ⟨B,2,none⟩=some (.int .i64 z.b)∧u1.cell? ⟨B,3,none⟩=some (.string z.data):=⟨hp.cell 0 rfl 0,hp.cell 0 rfl 1,hp.cell 0 rfl 2,hp.cell 0 rfl 3⟩; clear hp)
    |((with_reducible refine (HP6.out.rcall (Nat.le_refl _) (fun c x h=>rask_any c u1 b2 bd2 N x s z.a 1 z.b z.data K h HI.out HB.out k0 (by omega))).mono ?_); rintro e u2 ⟨rfl,hp⟩; have HP7:=Lib.hid hp; have K2:u2.cell? ⟨B,0,none⟩=some (.string z.word)∧u2.cell? ⟨B,1,none⟩=some (.int .i64 z.a)∧u2.cell? ⟨B,2,none⟩=some (.int .i64 z.b)∧u2.cell? ⟨B,3,none⟩=some (.string z.data):=⟨hp.cell 0 rfl 0,hp.cell 0 rfl 1,hp.cell 0 rfl 2,hp.cell 0 rfl 3⟩; clear hp)
    |((with_reducible refine (same_any _ _ u2).mono ?_); rintro e u3 ⟨rfl,rfl⟩; have K3:=K2)
    |fail)
  all_goals
   try go_wp2_with fail
   go_ret
   rw [He.out]
   exact ⟨by simp,(HP7.out.moreN (by omega)).drop⟩
 rcases Bool.eq_false_or_eq_true (z.word.toList == [119,114,105,116,101]) with h1 | h1
 ·have He:Hid (stepL s z=(s.ask z.a 2 z.b z.data).1):=show _=_ by unfold stepL; rw [if_neg (by rw [h0]; decide),if_pos h1]
  have hwd:z.word=wWrite:=by
   have e:=eq_of_beq h1
   rw [Lib.toList_data] at e
   obtain ⟨⟨⟨wl⟩⟩,_,_,_⟩:=z
   simp only at e
   subst e
   rfl
  have hlk:(Instr.lookup tKm (.map (some w1.heap.size)) (.string z.word) false).run Tryz.prog w4=.ok (.int .i64 2) w4:=hwd▸hl2
  clear hwd hl1 hl2 hl3
  go_wp2_with fail
  have hp:=HP4.out.below (Below.refl _ _).drew
  have K0:w4.drew.cell? ⟨B,0,none⟩=some (.string z.word)∧w4.drew.cell? ⟨B,1,none⟩=some (.int .i64 z.a)∧w4.drew.cell? ⟨B,2,none⟩=some (.int .i64 z.b)∧w4.drew.cell? ⟨B,3,none⟩=some (.string z.data):=⟨hp.cell 0 rfl 0,hp.cell 0 rfl 1,hp.cell 0 rfl 2,hp.cell 0 rfl 3⟩
  have HP5:=Lib.hid hp
  clear hp hm1 hm2 hm3 hlk hmm c0 c1 e0
  go_region_held3 (fun q=>q.cell? ⟨B,0,none⟩=some (.string z.word)∧q.cell? ⟨B,1,none⟩=some (.int .i64 z.a)∧q.cell? ⟨B,2,none⟩=some (.int .i64 z.b)∧q.cell? ⟨B,3,none⟩=some (.string z.data))
   (first | exact K3 | exact K2 | exact K1 | exact K0)
   (first
    |((with_reducible refine (HP5.out.lcall (Nat.le_refl _) (fun c x h=>ask_any c w4.drew b bd N x s z.a 2 z.b z.data K h HI.out HB.out k0 (by omega))).mono ?_); rintro e u1 ⟨rfl,hp⟩; have HP6:=Lib.hid hp; have K1:u1.cell? ⟨B,0,none⟩=some (.string z.word)∧u1.cell? ⟨B,1,none⟩=some (.int .i64 z.a)∧u1.cell? ⟨B,2,none⟩=some (.int .i64 z.b)∧u1.cell? ⟨B,3,none⟩=some (.string z.data):=⟨hp.cell 0 rfl 0,hp.cell 0 rfl 1,hp.cell 0 rfl 2,hp.cell 0 rfl 3⟩; clear hp)
    |((with_reducible refine (HP6.out.rcall (Nat.le_refl _) (fun c x h=>rask_any c u1 b2 bd2 N x s z.a 2 z.b z.data K h HI.out HB.out k0 (by omega))).mono ?_); rintro e u2 ⟨rfl,hp⟩; have HP7:=Lib.hid hp; have K2:u2.cell? ⟨B,0,none⟩=some (.string z.word)∧u2.cell? ⟨B,1,none⟩=some (.int .i64 z.a)∧u2.cell? ⟨B,2,none⟩=some (.int .i64 z.b)∧u2.cell? ⟨B,3,none⟩=some (.string z.data):=⟨hp.cell 0 rfl 0,hp.cell 0 rfl 1,hp.cell 0 rfl 2,hp.cell 0 rfl 3⟩; clear hp)
    |((with_reducible refine (same_any _ _ u2).mono ?_); rintro e u3 ⟨rfl,rfl⟩; have K3:=K2)
    |fail)
  all_goals
   try go_wp2_with fail
   go_ret
   rw [He.out]
   exact ⟨by simp,(HP7.out.moreN (by omega)).drop⟩
 rcases Bool.eq_false_or_eq_true (z.word.toList == [115,121,110,99]) with h2 | h2
 ·have He:Hid (stepL s z=(s.ask z.a 3 z.b z.data).1):=show _=_ by unfold stepL; rw [if_neg (by rw [h0]; decide),if_neg (by rw [h1]; decide),if_pos h2]
  have hwd:z.word=wSync:=by
   have e:=eq_of_beq h2
   rw [Lib.toList_data] at e
   obtain ⟨⟨⟨wl⟩⟩,_,_,_⟩:=z
   simp only at e
   subst e
   rfl
  have hlk:(Instr.lookup tKm (.map (some w1.heap.size)) (.string z.word) false).run Tryz.prog w4=.ok (.int .i64 3) w4:=hwd▸hl3
  clear hwd hl1 hl2 hl3
  go_wp2_with fail
  have hp:=HP4.out.below (Below.refl _ _).drew
  have K0:w4.drew.cell? ⟨B,0,none⟩=some (.string z.word)∧w4.drew.cell? ⟨B,1,none⟩=some (.int .i64 z.a)∧w4.drew.cell? ⟨B,2,none⟩=some (.int .i64 z.b)∧w4.drew.cell? ⟨B,3,none⟩=some (.string z.data):=⟨hp.cell 0 rfl 0,hp.cell 0 rfl 1,hp.cell 0 rfl 2,hp.cell 0 rfl 3⟩
  have HP5:=Lib.hid hp
  clear hp hm1 hm2 hm3 hlk hmm c0 c1 e0
  go_region_held3 (fun q=>q.cell? ⟨B,0,none⟩=some (.string z.word)∧q.cell? ⟨B,1,none⟩=some (.int .i64 z.a)∧q.cell? ⟨B,2,none⟩=some (.int .i64 z.b)∧q.cell? ⟨B,3,none⟩=some (.string z.data))
   (first | exact K3 | exact K2 | exact K1 | exact K0)
   (first
    |((with_reducible refine (HP5.out.lcall (Nat.le_refl _) (fun c x h=>ask_any c w4.drew b bd N x s z.a 3 z.b z.data K h HI.out HB.out k0 (by omega))).mono ?_); rintro e u1 ⟨rfl,hp⟩; have HP6:=Lib.hid hp; have K1:u1.cell? ⟨B,0,none⟩=some (.string z.word)∧u1.cell? ⟨B,1,none⟩=some (.int .i64 z.a)∧u1.cell? ⟨B,2,none⟩=some (.int .i64 z.b)∧u1.cell? ⟨B,3,none⟩=some (.string z.data):=⟨hp.cell 0 rfl 0,hp.cell 0 rfl 1,hp.cell 0 rfl 2,hp.cell 0 rfl 3⟩; clear hp)
    |((with_reducible refine (HP6.out.rcall (Nat.le_refl _) (fun c x h=>rask_any c u1 b2 bd2 N x s z.a 3 z.b z.data K h HI.out HB.out k0 (by omega))).mono ?_); rintro e u2 ⟨rfl,hp⟩; have HP7:=Lib.hid hp; have K2:u2.cell? ⟨B,0,none⟩=some (.string z.word)∧u2.cell? ⟨B,1,none⟩=some (.int .i64 z.a)∧u2.cell? ⟨B,2,none⟩=some (.int .i64 z.b)∧u2.cell? ⟨B,3,none⟩=some (.string z.data):=⟨hp.cell 0 rfl 0,hp.cell 0 rfl 1,hp.cell 0 rfl 2,hp.cell 0 rfl 3⟩; clear hp)
    |((with_reducible refine (same_any _ _ u2).mono ?_); rintro e u3 ⟨rfl,rfl⟩; have K3:=K2)
    |fail)
  all_goals
   try go_wp2_with fail
   go_ret
   rw [He.out]
   exact ⟨by simp,(HP7.out.moreN (by omega)).drop⟩
 rcases Bool.eq_false_or_eq_true (z.word.toList == [116,105,99,107]) with h3 | h3
 ·have He:Hid (stepL s z=s.tick):=show _=_ by unfold stepL; rw [if_neg (by rw [h0]; decide),if_neg (by rw [h1]; decide),if_neg (by rw [h2]; decide),if_pos h3]
  clear hl1 hl2 hl3 hm1 hm2 hm3 hmm
  go_wp2_with fail
  refine (HP.out.lcall (Nat.le_refl _) (fun c x h=>(tick_any c w1 b bd N x s K h HI.out HB.out k0 (by omega)).mono fun e w' hr=>Ret4.five hr Chg.refl .refl)).mono ?_
  rintro e u1 ⟨rfl,hp⟩
  have HP6:=Lib.hid hp
  clear hp c0 c1
  go_wp2_with fail
  refine (HP6.out.rcall (Nat.le_refl _) (fun c x h=>rtick_any c u1 b2 bd2 N x s K h HI.out HB.out k0 (by omega))).mono ?_
  rintro e u2 ⟨rfl,hp⟩
  have HP7:=Lib.hid hp
  clear hp
  go_wp2_with fail
  go_ret
  rw [He.out]
  exact ⟨rfl,(HP7.out.moreN (by omega)).drop⟩
 rcases Bool.eq_false_or_eq_true (z.word.toList == [99,108,101,97,110]) with h4 | h4
 ·have He:Hid (stepL s z=s.clean.1):=show _=_ by unfold stepL; rw [if_neg (by rw [h0]; decide),if_neg (by rw [h1]; decide),if_neg (by rw [h2]; decide),if_neg (by rw [h3]; decide),if_pos h4]
  clear hl1 hl2 hl3 hm1 hm2 hm3 hmm
  go_wp2_with fail
  refine (HP.out.lcall (Nat.le_refl _) (fun c x h=>(clean_st c w1 b bd N x s h HI.out ⟨by have:=HB.out.use; omega,by have:=HB.out.tag; omega⟩).mono fun e w' hr=>Ret4.five (Ret2.four h hr) Chg.refl .refl)).mono ?_
  rintro e u1 ⟨rfl,hp⟩
  have HP6:=Lib.hid hp
  clear hp c0 c1
  go_wp2_with fail
  refine (HP6.out.rcall (Nat.le_refl _) (fun c x h=>(rclean_st c u1 b2 bd2 N x s h HI.out ⟨by have:=HB.out.use; omega,by have:=HB.out.tag; omega⟩).mono fun e w' hr=>Ret4.five (Ret2.four h hr) Chg.refl .refl)).mono ?_
  rintro e u2 ⟨rfl,hp⟩
  have HP7:=Lib.hid hp
  clear hp
  go_wp2_with fail
  go_ret
  rw [He.out]
  exact ⟨by simp,(HP7.out.moreN (by omega)).drop⟩
 rcases Bool.eq_false_or_eq_true (z.word.toList == [100,105,115,112,97,116,99,104]) with h5 | h5
 ·have He:Hid (stepL s z=s.dispatch.1):=show _=_ by unfold stepL; rw [if_neg (by rw [h0]; decide),if_neg (by rw [h1]; decide),if_neg (by rw [h2]; decide),if_neg (by rw [h3]; decide),if_neg (by rw [h4]; decide),if_pos h5]
  clear hl1 hl2 hl3 hm1 hm2 hm3 hmm
  go_wp2_with fail
  refine (HP.out.lcall (Nat.le_refl _) (fun c x h=>dispatch_any c w1 b bd N x s h HI.out)).mono ?_
  rintro e u1 ⟨rfl,hp⟩
  have HP6:=Lib.hid hp
  clear hp c0 c1
  go_wp2_with fail
  refine (HP6.out.rcall (Nat.le_refl _) (fun c x h=>rdispatch_any c u1 b2 bd2 N x s h HI.out)).mono ?_
  rintro e u2 ⟨rfl,hp⟩
  have HP7:=Lib.hid hp
  clear hp
  go_wp2_with fail
  go_ret
  rw [He.out]
  exact ⟨by simp,(HP7.out.moreN (by omega)).drop⟩
 rcases Bool.eq_false_or_eq_true (z.word.toList == [101,110,100]) with h6 | h6
 ·have He:Hid (stepL s z=(s.end_ z.a false).1):=show _=_ by unfold stepL; rw [if_neg (by rw [h0]; decide),if_neg (by rw [h1]; decide),if_neg (by rw [h2]; decide),if_neg (by rw [h3]; decide),if_neg (by rw [h4]; decide),if_neg (by rw [h5]; decide),if_pos h6]
  have h9:(z.word.toList == [102,97,117,108,116])=false:=by have e:=eq_of_beq h6; rw [e]; rfl
  clear hl1 hl2 hl3 hm1 hm2 hm3 hmm
  go_wp2_with fail
  have hp:=HP.out.below (Below.refl _ _).drew
  have K0:w1.drew.cell? ⟨B,0,none⟩=some (.string z.word)∧w1.drew.cell? ⟨B,1,none⟩=some (.int .i64 z.a)∧w1.drew.cell? ⟨B,2,none⟩=some (.int .i64 z.b)∧w1.drew.cell? ⟨B,3,none⟩=some (.string z.data):=⟨hp.cell 0 rfl 0,hp.cell 0 rfl 1,hp.cell 0 rfl 2,hp.cell 0 rfl 3⟩
  have HP5:=Lib.hid hp
  clear hp c0 c1 e0
  go_region_held3 (fun q=>q.cell? ⟨B,0,none⟩=some (.string z.word)∧q.cell? ⟨B,1,none⟩=some (.int .i64 z.a)∧q.cell? ⟨B,2,none⟩=some (.int .i64 z.b)∧q.cell? ⟨B,3,none⟩=some (.string z.data))
   (first | exact K3 | exact K2 | exact K1 | exact K0)
   (first
    |((with_reducible refine (HP5.out.lcall (N':=N+1) (by omega) (fun c x h=>end_any c w1.drew b bd N x s z.a false K h HI.out HB.out k0 (by omega) (by omega))).mono ?_); rintro e u1 ⟨rfl,hp⟩; have HP6:=Lib.hid hp; have K1:u1.cell? ⟨B,0,none⟩=some (.string z.word)∧u1.cell? ⟨B,1,none⟩=some (.int .i64 z.a)∧u1.cell? ⟨B,2,none⟩=some (.int .i64 z.b)∧u1.cell? ⟨B,3,none⟩=some (.string z.data):=⟨hp.cell 0 rfl 0,hp.cell 0 rfl 1,hp.cell 0 rfl 2,hp.cell 0 rfl 3⟩; clear hp)
    |((with_reducible refine (HP6.out.rcall (N':=N+1+2) (by omega) (fun c x h=>rend_any c u1 b2 bd2 (N+1) x s z.a false K h HI.out HB.out k0 (by omega) (by omega))).mono ?_); rintro e u2 ⟨rfl,hp⟩; have HP7:=Lib.hid hp; have K2:u2.cell? ⟨B,0,none⟩=some (.string z.word)∧u2.cell? ⟨B,1,none⟩=some (.int .i64 z.a)∧u2.cell? ⟨B,2,none⟩=some (.int .i64 z.b)∧u2.cell? ⟨B,3,none⟩=some (.string z.data):=⟨hp.cell 0 rfl 0,hp.cell 0 rfl 1,hp.cell 0 rfl 2,hp.cell 0 rfl 3⟩; clear hp)
    |((with_reducible refine (same_any _ _ u2).mono ?_); rintro e u3 ⟨rfl,rfl⟩; have K3:=K2)
    |fail)
  all_goals
   try go_wp2_with fail
   go_ret
   rw [He.out]
   exact ⟨by simp,(HP7.out.moreN (by omega)).drop⟩
 rcases Bool.eq_false_or_eq_true (z.word.toList == [102,97,117,108,116]) with h7 | h7
 ·have He:Hid (stepL s z=(s.end_ z.a true).1):=show _=_ by unfold stepL; rw [if_neg (by rw [h0]; decide),if_neg (by rw [h1]; decide),if_neg (by rw [h2]; decide),if_neg (by rw [h3]; decide),if_neg (by rw [h4]; decide),if_neg (by rw [h5]; decide),if_neg (by rw [h6]; decide),if_pos h7]
  clear hl1 hl2 hl3 hm1 hm2 hm3 hmm
  go_wp2_with fail
  have hp:=HP.out.below (Below.refl _ _).drew
  have K0:w1.drew.cell? ⟨B,0,none⟩=some (.string z.word)∧w1.drew.cell? ⟨B,1,none⟩=some (.int .i64 z.a)∧w1.drew.cell? ⟨B,2,none⟩=some (.int .i64 z.b)∧w1.drew.cell? ⟨B,3,none⟩=some (.string z.data):=⟨hp.cell 0 rfl 0,hp.cell 0 rfl 1,hp.cell 0 rfl 2,hp.cell 0 rfl 3⟩
  have HP5:=Lib.hid hp
  clear hp c0 c1 e0
  go_region_held3 (fun q=>q.cell? ⟨B,0,none⟩=some (.string z.word)∧q.cell? ⟨B,1,none⟩=some (.int .i64 z.a)∧q.cell? ⟨B,2,none⟩=some (.int .i64 z.b)∧q.cell? ⟨B,3,none⟩=some (.string z.data))
   (first | exact K3 | exact K2 | exact K1 | exact K0)
   (first
    |((with_reducible refine (HP5.out.lcall (N':=N+1) (by omega) (fun c x h=>end_any c w1.drew b bd N x s z.a true K h HI.out HB.out k0 (by omega) (by omega))).mono ?_); rintro e u1 ⟨rfl,hp⟩; have HP6:=Lib.hid hp; have K1:u1.cell? ⟨B,0,none⟩=some (.string z.word)∧u1.cell? ⟨B,1,none⟩=some (.int .i64 z.a)∧u1.cell? ⟨B,2,none⟩=some (.int .i64 z.b)∧u1.cell? ⟨B,3,none⟩=some (.string z.data):=⟨hp.cell 0 rfl 0,hp.cell 0 rfl 1,hp.cell 0 rfl 2,hp.cell 0 rfl 3⟩; clear hp)
    |((with_reducible refine (HP6.out.rcall (N':=N+1+2) (by omega) (fun c x h=>rend_any c u1 b2 bd2 (N+1) x s z.a true K h HI.out HB.out k0 (by omega) (by omega))).mono ?_); rintro e u2 ⟨rfl,hp⟩; have HP7:=Lib.hid hp; have K2:u2.cell? ⟨B,0,none⟩=some (.string z.word)∧u2.cell? ⟨B,1,none⟩=some (.int .i64 z.a)∧u2.cell? ⟨B,2,none⟩=some (.int .i64 z.b)∧u2.cell? ⟨B,3,none⟩=some (.string z.data):=⟨hp.cell 0 rfl 0,hp.cell 0 rfl 1,hp.cell 0 rfl 2,hp.cell 0 rfl 3⟩; clear hp)
    |((with_reducible refine (same_any _ _ u2).mono ?_); rintro e u3 ⟨rfl,rfl⟩; have K3:=K2)
    |fail)
  all_goals
   try go_wp2_with fail
   go_ret
   rw [He.out]
   exact ⟨by simp,(HP7.out.moreN (by omega)).drop⟩
 rcases Bool.eq_false_or_eq_true (z.word.toList == [114,111,117,110,100]) with h8 | h8
 ·have He:Hid (stepL s z=s.round):=show _=_ by unfold stepL; rw [if_neg (by rw [h0]; decide),if_neg (by rw [h1]; decide),if_neg (by rw [h2]; decide),if_neg (by rw [h3]; decide),if_neg (by rw [h4]; decide),if_neg (by rw [h5]; decide),if_neg (by rw [h6]; decide),if_neg (by rw [h7]; decide),if_pos h8]
  clear hl1 hl2 hl3 hm1 hm2 hm3 hmm
  go_wp2_with fail
  refine (HP.out.lcall (N':=N+1) (by omega) (fun c x h=>round_any c w1 b bd N x s K h HI.out HB.out k0 (by omega) (by omega))).mono ?_
  rintro e u1 ⟨rfl,hp⟩
  have HP6:=Lib.hid hp
  clear hp c0 c1
  go_wp2_with fail
  refine (HP6.out.rcall (N':=N+1+2) (by omega) (fun c x h=>rround_any c u1 b2 bd2 (N+1) x s K h HI.out HB.out k0 (by omega) (by omega))).mono ?_
  rintro e u2 ⟨rfl,hp⟩
  have HP7:=Lib.hid hp
  clear hp
  go_wp2_with fail
  go_ret
  rw [He.out]
  exact ⟨rfl,(HP7.out.moreN (by omega)).drop⟩
 rcases Bool.eq_false_or_eq_true (z.word.toList == [115,101,116,116,108,101]) with h9 | h9
 ·have He:Hid (stepL s z=(if z.a<0∨200<z.a then s else (St.settle z.a.toNat s).1)):=show _=_ by unfold stepL; rw [if_neg (by rw [h0]; decide),if_neg (by rw [h1]; decide),if_neg (by rw [h2]; decide),if_neg (by rw [h3]; decide),if_neg (by rw [h4]; decide),if_neg (by rw [h5]; decide),if_neg (by rw [h6]; decide),if_neg (by rw [h7]; decide),if_neg (by rw [h8]; decide),if_pos h9]
  clear hl1 hl2 hl3 hm1 hm2 hm3 hmm
  have key:z.a<0∨(¬ z.a<0∧200<z.a)∨(¬ z.a<0∧¬ 200<z.a):=by omega
  rcases key with q1 | ⟨q1,q2⟩ | ⟨q1,q2⟩
  case inr.inr =>
   obtain ⟨n,hn⟩:∃ n:Nat,z.a=(n:Int):=⟨z.a.toNat,by omega⟩
   rw [if_neg (by omega)] at He
   rw [hn] at c1 He q1 q2
   rw [Int.toNat_natCast] at He
   have hn2:n≤200:=by omega
   have Hza:=Lib.hid hn
   clear hn
   go_wp2_with fail
   refine (HP.out.lcall (N':=N+n) (by omega) (fun c x h=>settle_any c w1 b bd N x s K n h HI.out HB.out k0 (by omega) (by omega) (by omega))).mono ?_
   rintro e u1 ⟨rfl,hp⟩
   have d1:u1.cell? ⟨B,1,none⟩=some (.int .i64 (n:Int)):=(hp.cell 0 rfl 1).trans (congrArg (fun n=>some (Value.int .i64 n)) Hza.out)
   have HP6:=Lib.hid hp
   clear hp c0 c1
   go_wp2_with fail
   refine (HP6.out.rcall (N':=N+n+2 * n) (by omega) (fun c x h=>rsettle_any c u1 b2 bd2 (N+n) x s K n h HI.out HB.out k0 (by omega) (by omega) (by omega))).mono ?_
   rintro e u2 ⟨rfl,hp⟩
   have HP7:=Lib.hid hp
   clear hp d1
   go_wp2_with fail
   go_ret
   rw [He.out]
   exact ⟨by simp,(HP7.out.moreN (by omega)).drop⟩
  all_goals
   rw [if_pos (by omega)] at He
   go_wp2_with fail
   go_ret
   rw [He.out]
   exact ⟨rfl,(HP.out.moreN (by omega)).drop⟩
 have He:Hid (stepL s z=s):=show _=_ by unfold stepL; rw [if_neg (by rw [h0]; decide),if_neg (by rw [h1]; decide),if_neg (by rw [h2]; decide),if_neg (by rw [h3]; decide),if_neg (by rw [h4]; decide),if_neg (by rw [h5]; decide),if_neg (by rw [h6]; decide),if_neg (by rw [h7]; decide),if_neg (by rw [h8]; decide),if_neg (by rw [h9]; decide)]
 clear hl1 hl2 hl3 hm1 hm2 hm3 hmm
 go_wp2_with fail
 go_ret
 rw [He.out]
 exact ⟨rfl,(HP.out.moreN (by omega)).drop⟩
end Go.Proofs.YtlomdfbnicbceaaGreat
namespace Go.Proofs.YtlomdfbnicbceaaGreat
open Go.RowKit Go.Sort
theorem take_eq_succ {α:Type} (a b:List α) (k:Nat) (x:α) (h:a.take k=b.take k) (ha:a[k]?=some x) (hb:b[k]?=some x):a.take (k+1)=b.take (k+1):=by
 rw [List.take_add_one,List.take_add_one,h,ha,hb]
theorem take_eq_end {α:Type} (a b:List α) (k:Nat) (h:a.take k=b.take k) (hl:a.length=b.length) (hk:a.length≤k):a=b:=by
 rwa [List.take_of_length_le hk,List.take_of_length_le (by omega)] at h
theorem ne_at {α:Type} (a b:List α) (k:Nat) (x y:α) (ha:a[k]?=some x) (hb:b[k]?=some y) (h:x≠y):¬ a=b:=fun e=>h (by rw [e,hb] at ha; cases ha; rfl)
theorem str_ne {s t:ByteArray} (h:¬ s=t):(!s.toList == t.toList)=true:=by
 have:¬ s.toList=t.toList:=fun e=>h (by
  rw [ByteArray.toList_eq,ByteArray.toList_eq] at e
  exact Go.WideShapes.bytes_inj e)
 simp [this]
def eqB {α:Type} [DecidableEq α] (a b:α):Bool:=decide (a=b)
theorem eqB_true {α:Type} [DecidableEq α] {a b:α} (h:a=b):eqB a b=true:=by simp [eqB,h]
theorem eqB_false {α:Type} [DecidableEq α] {a b:α} (h:¬ a=b):eqB a b=false:=by simp [eqB,h]
theorem sametexts_any (S:Nat→Prop) (a b:List ByteArray) (va vb:Value) (w:World) (ha:StrsAt S w va a) (hb:StrsAt S w vb b) :
  Calls Tryz.prog 102 #[va,vb] w (Ret (.bool (eqB a b)) w):=by
 obtain ⟨A,ca,rfl,h1,h2⟩:=ha.form
 obtain ⟨B,cb,rfl,h3,h4⟩:=hb.form
 unfold maxLen at h2 h4
 have Ha:=Lib.hid ha
 have Hb:=Lib.hid hb
 clear ha hb
 by_cases hn:a.length=b.length
 ·have hn':((a.length:Int) != (b.length:Int))=false:=by simp [hn]
  go_enter Tryz.func102,Tryz.ntmps102
  go_wp2
  go_loopw [5] (fun i wr=>∃ k:Nat,k≤a.length∧i=.int .i64 k∧Below w.heap.size w wr∧Hid (a.take k=b.take k)) (fun i _=>a.length - (intOf i).toNat)
  case atStart=>exact ⟨0,by omega,rfl,Below.refl _ _,rfl⟩
  case round =>
   obtain ⟨k,hk,rfl,hw,hall⟩:=hrel
   by_cases hlt:k<a.length
   ·obtain ⟨ba,oa,rfl,_,hba,hca⟩:=(Ha.out.below hw).at_ (by omega)
    obtain ⟨bb,ob,rfl,_,hbb,hcb⟩:=(Hb.out.below hw).at_ (by omega)
    have hx:a[k]?=some a[k]:=List.getElem?_eq_getElem hlt
    have hy:b[k]?=some (b[k]'(by omega)):=List.getElem?_eq_getElem (by omega)
    have hxc:=hca k _ hx
    have hyc:=hcb k _ hy
    obtain ⟨hxc,hsx⟩:=hxc
    obtain ⟨hyc,hsy⟩:=hyc
    clear hca hcb
    have Hx:=Lib.hid hx
    have Hy:=Lib.hid hy
    clear hx hy
    generalize a[k]=s at *
    generalize b[k]'(by omega)=t at *
    have hk1:(k:Int)<(a.length:Int):=by omega
    have hk2:(k:Int)<(b.length:Int):=by omega
    by_cases hs:s=t
    ·subst hs
     go_wp2_with go_region
     go_roundw
     case rel=>exact ⟨k+1,by omega,by go_num,hw.drew,take_eq_succ _ _ _ _ hall.out Hx.out Hy.out⟩
     case measure=>simp [intOf]; omega
    ·have hs':=str_ne hs
     go_wp2_with go_region
     go_ret
     exact ⟨by rw [eqB_false (ne_at _ _ _ _ _ Hx.out Hy.out hs)]; rfl,hw.drew⟩
   ·go_wp2
    go_ret
    exact ⟨by rw [eqB_true (take_eq_end _ _ _ hall.out hn (by omega))]; rfl,hw⟩
 ·have hn':((a.length:Int) != (b.length:Int))=true:=by simp; omega
  rw [eqB_false (fun e=>hn (by rw [e]))]
  go_enter Tryz.func102,Tryz.ntmps102
  go_wp2
  go_ret
  exact ⟨rfl,Below.refl _ _⟩
theorem samenumbers_any (S:Nat→Prop) (a b:List Int) (va vb:Value) (w:World) (ha:IntsAt S w va a) (hb:IntsAt S w vb b) :
  Calls Tryz.prog 103 #[va,vb] w (Ret (.bool (eqB a b)) w):=by
 obtain ⟨A,ca,rfl,h1,h2⟩:=ha.form
 obtain ⟨B,cb,rfl,h3,h4⟩:=hb.form
 unfold maxLen at h2 h4
 have Ha:=Lib.hid ha
 have Hb:=Lib.hid hb
 clear ha hb
 by_cases hn:a.length=b.length
 ·have hn':((a.length:Int) != (b.length:Int))=false:=by simp [hn]
  go_enter Tryz.func103,Tryz.ntmps103
  go_wp2
  go_loopw [5] (fun i wr=>∃ k:Nat,k≤a.length∧i=.int .i64 k∧Below w.heap.size w wr∧Hid (a.take k=b.take k)) (fun i _=>a.length - (intOf i).toNat)
  case atStart=>exact ⟨0,by omega,rfl,Below.refl _ _,rfl⟩
  case round =>
   obtain ⟨k,hk,rfl,hw,hall⟩:=hrel
   by_cases hlt:k<a.length
   ·obtain ⟨ba,oa,rfl,_,hba,hca⟩:=(Ha.out.below hw).at_ (by omega)
    obtain ⟨bb,ob,rfl,_,hbb,hcb⟩:=(Hb.out.below hw).at_ (by omega)
    have hx:a[k]?=some a[k]:=List.getElem?_eq_getElem hlt
    have hy:b[k]?=some (b[k]'(by omega)):=List.getElem?_eq_getElem (by omega)
    have hxc:=hca k _ hx
    have hyc:=hcb k _ hy
    obtain ⟨hxc,hsx⟩:=hxc
    obtain ⟨hyc,hsy⟩:=hyc
    clear hca hcb
    have Hx:=Lib.hid hx
    have Hy:=Lib.hid hy
    clear hx hy
    generalize a[k]=s at *
    generalize b[k]'(by omega)=t at *
    have hk1:(k:Int)<(a.length:Int):=by omega
    have hk2:(k:Int)<(b.length:Int):=by omega
    by_cases hs:s=t
    ·subst hs
     go_wp2_with go_region
     go_roundw
     case rel=>exact ⟨k+1,by omega,by go_num,hw.drew,take_eq_succ _ _ _ _ hall.out Hx.out Hy.out⟩
     case measure=>simp [intOf]; omega
    ·skip
     go_wp2_with go_region
     go_ret
     exact ⟨by rw [eqB_false (ne_at _ _ _ _ _ Hx.out Hy.out hs)]; rfl,hw.drew⟩
   ·go_wp2
    go_ret
    exact ⟨by rw [eqB_true (take_eq_end _ _ _ hall.out hn (by omega))]; rfl,hw⟩
 ·have hn':((a.length:Int) != (b.length:Int))=true:=by simp; omega
  rw [eqB_false (fun e=>hn (by rw [e]))]
  go_enter Tryz.func103,Tryz.ntmps103
  go_wp2
  go_ret
  exact ⟨rfl,Below.refl _ _⟩
structure RSt (B:Nat) (w wr:World) (x y:Rq) (xd xt yd yt:Value):Prop where
 below:Below B w wr
 b0:wr.heap[B]?=some (.cells #[.bool x.write,.int .i64 x.lo,.int .i64 x.many,xd,xt,.int .i64 x.born] 110 (0,0))
 b1:wr.heap[B+1]?=some (.cells #[.bool y.write,.int .i64 y.lo,.int .i64 y.many,yd,yt,.int .i64 y.born] 110 (0,0))
 lt:B+1<wr.heap.size
section
variable {B:Nat} {w wr w':World} {x y:Rq} {xd xt yd yt:Value}
theorem RSt.step (h:RSt B w wr x y xd xt yd yt) (hb:Below wr.heap.size wr w'):RSt B w w' x y xd xt yd yt :=
 have:=h.lt
 ⟨h.below.trans (hb.mono (by omega)),(hb.block _ (by omega)).trans h.b0,(hb.block _ (by omega)).trans h.b1,by have:=hb.size; omega⟩
theorem RSt.limbs (h:RSt B w wr x y xd xt yd yt) :
  wr.cell? ⟨B,0,none⟩=some (.bool x.write)∧wr.cell? ⟨B,1,none⟩=some (.int .i64 x.lo)∧wr.cell? ⟨B,2,none⟩=some (.int .i64 x.many)∧wr.cell? ⟨B,3,none⟩=some xd∧wr.cell? ⟨B,4,none⟩=some xt∧wr.cell? ⟨B,5,none⟩=some (.int .i64 x.born) ∧
  wr.cell? ⟨B+1,0,none⟩=some (.bool y.write)∧wr.cell? ⟨B+1,1,none⟩=some (.int .i64 y.lo)∧wr.cell? ⟨B+1,2,none⟩=some (.int .i64 y.many)∧wr.cell? ⟨B+1,3,none⟩=some yd∧wr.cell? ⟨B+1,4,none⟩=some yt∧wr.cell? ⟨B+1,5,none⟩=some (.int .i64 y.born) :=
 ⟨cell_of_row _ _ 0 _ _ _ h.b0,cell_of_row _ _ 1 _ _ _ h.b0,cell_of_row _ _ 2 _ _ _ h.b0,cell_of_row _ _ 3 _ _ _ h.b0,cell_of_row _ _ 4 _ _ _ h.b0,cell_of_row _ _ 5 _ _ _ h.b0,
  cell_of_row _ _ 0 _ _ _ h.b1,cell_of_row _ _ 1 _ _ _ h.b1,cell_of_row _ _ 2 _ _ _ h.b1,cell_of_row _ _ 3 _ _ _ h.b1,cell_of_row _ _ 4 _ _ _ h.b1,cell_of_row _ _ 5 _ _ _ h.b1⟩
end
theorem RSt.start (w:World) (x y:Rq) (xd xt yd yt:Value):RSt w.heap.size w ((w.alloc (Obj.cells #[Value.bool x.write,Value.int IntKind.i64 x.lo,Value.int IntKind.i64 x.many,xd,xt,Value.int IntKind.i64 x.born] 110)).alloc (Obj.cells #[Value.bool y.write,Value.int IntKind.i64 y.lo,Value.int IntKind.i64 y.many,yd,yt,Value.int IntKind.i64 y.born] 110)) x y xd xt yd yt :=
 ⟨((Below.refl _ _).alloc (Nat.le_refl _) _).alloc (by simp) _,heap_alloc2_old _ _ _,heap_alloc2_new _ _ _,by simp⟩
def sameB (a b:Rq):Bool:=eqB a.data b.data && (eqB a.tags b.tags && (eqB a.write b.write && (eqB a.lo b.lo && (eqB a.many b.many && eqB a.born b.born))))
theorem sameB_true {a b:Rq}:sameB a b=true↔a=b:=by
 obtain ⟨a1,a2,a3,a4,a5,a6⟩:=a
 obtain ⟨b1,b2,b3,b4,b5,b6⟩:=b
 simp [sameB,eqB]
 constructor
 ·rintro ⟨rfl,rfl,rfl,rfl,rfl,rfl⟩; simp
 ·rintro ⟨rfl,rfl,rfl,rfl,rfl,rfl⟩; simp
theorem samereq_any (S:Nat→Prop) (a b:Rq) (va vb:Value) (w:World) (ha:ReqAt S w va a) (hb:ReqAt S w vb b) :
  Calls Tryz.prog 70 #[va,vb] w (Ret (.bool (sameB a b)) w):=by
 obtain ⟨Ad,cd,At,ct,rfl,had,hat,adl,atl,_,_,_⟩:=ha.opened
 obtain ⟨Bd,dd,Bt,dt,rfl,hbd,hbt,bdl,btl,_,_,_⟩:=hb.opened
 have Had:=Lib.hid had
 have Hat:=Lib.hid hat
 have Hbd:=Lib.hid hbd
 have Hbt:=Lib.hid hbt
 clear had hat hbd hbt ha hb
 generalize hsb:sameB a b=sb
 have Hs:=Lib.hid hsb
 clear hsb
 go_enter Tryz.func70,Tryz.ntmps70
 go_wp2_with fail
 have hM:=RSt.start w a b (.slice Ad a.data.length cd) (.slice At a.tags.length ct) (.slice Bd b.data.length dd) (.slice Bt b.tags.length dt)
 generalize ((w.alloc (Obj.cells #[Value.bool a.write,Value.int IntKind.i64 a.lo,Value.int IntKind.i64 a.many,(Value.slice Ad a.data.length cd),(Value.slice At a.tags.length ct),Value.int IntKind.i64 a.born] 110)).alloc (Obj.cells #[Value.bool b.write,Value.int IntKind.i64 b.lo,Value.int IntKind.i64 b.many,(Value.slice Bd b.data.length dd),(Value.slice Bt b.tags.length dt),Value.int IntKind.i64 b.born] 110))=W at hM ⊢
 refine (sametexts_any S _ _ _ _ _ (Had.out.below hM.below) (Hbd.out.below hM.below)).mono ?_
 rintro e w1 ⟨rfl,hb1⟩
 have hM1:=hM.step hb1
 clear hM hb1
 obtain ⟨⟨c0,c1,c2,c3,c4,c5,d0,d1,d2,d3,d4,d5⟩⟩:Nonempty _:=⟨hM1.limbs⟩
 go_wp2_with fail
 refine (samenumbers_any S _ _ _ _ _ (Hat.out.below hM1.below) (Hbt.out.below hM1.below)).mono ?_
 rintro e w2 ⟨rfl,hb2⟩
 have hM2:=hM1.step hb2
 clear hM1 hb2 c0 c1 c2 c3 c4 c5 d0 d1 d2 d3 d4 d5
 obtain ⟨⟨c0,c1,c2,c3,c4,c5,d0,d1,d2,d3,d4,d5⟩⟩:Nonempty _:=⟨hM2.limbs⟩
 go_wp2_with fail
 all_goals
  go_ret
  clear c0 c1 c2 c3 c4 c5 d0 d1 d2 d3 d4 d5
  refine ⟨congrArg (fun t=>Ending.returned (Value.bool t)) (?_:_=sb),hM2.below⟩
  rw [← Hs.out]
  simp_all [sameB,eqB]
def sameLB:List Rq→List Rq→Bool
 | [],[]=>true
 |a :: l,b :: m=>sameB a b && sameLB l m
 |_,_=>false
theorem sameLB_true {l m:List Rq}:sameLB l m=true↔l=m:=by
 induction l generalizing m with
 |nil=>cases m <;> simp [sameLB]
 |cons a l ih=>cases m <;> simp [sameLB,sameB_true,ih]
theorem sameLB_false {l m:List Rq} (h:¬ l=m):sameLB l m=false:=by
 rw [← Bool.not_eq_true,sameLB_true]; exact h
theorem samereqs_any (S:Nat→Prop) (a b:List Rq) (va vb:Value) (w:World) (ha:ReqsAt S w va a) (hb:ReqsAt S w vb b) :
  Calls Tryz.prog 37 #[va,vb] w (Ret (.bool (sameLB a b)) w):=by
 obtain ⟨A,ca,rfl,h1,h2⟩:=ha.form
 obtain ⟨B,cb,rfl,h3,h4⟩:=hb.form
 unfold maxLen at h2 h4
 have Ha:=Lib.hid ha
 have Hb:=Lib.hid hb
 clear ha hb
 by_cases hn:a.length=b.length
 ·have hn':((a.length:Int) != (b.length:Int))=false:=by simp [hn]
  have Hn:=Lib.hid hn
  clear hn
  go_enter Tryz.func37,Tryz.ntmps37
  go_wp2
  go_loopw [5] (fun i wr=>∃ k:Nat,k≤a.length∧i=.int .i64 k∧Below w.heap.size w wr∧Hid (a.take k=b.take k)) (fun i _=>a.length - (intOf i).toNat)
  case atStart=>exact ⟨0,by omega,rfl,Below.refl _ _,rfl⟩
  case round =>
   obtain ⟨k,hk,rfl,hw,hall⟩:=hrel
   by_cases hlt:k<a.length
   ·obtain ⟨ba,oa,rfl,_,hba,hca⟩:=(Ha.out.below hw).at_ (by omega)
    obtain ⟨bb,ob,rfl,_,hbb,hcb⟩:=(Hb.out.below hw).at_ (by have:=Hn.out; omega)
    have hx:a[k]?=some a[k]:=List.getElem?_eq_getElem hlt
    have hy:b[k]?=some (b[k]'(by have:=Hn.out; omega)):=List.getElem?_eq_getElem (by have:=Hn.out; omega)
    obtain ⟨Ad,cd,At,ct,hokx,k0,k1,k2,k3,k4,k5⟩:=hca k _ hx
    obtain ⟨Bd,dd,Bt,dt,hoky,j0,j1,j2,j3,j4,j5⟩:=hcb k _ hy
    clear hca hcb
    have Hx:=Lib.hid hx
    have Hy:=Lib.hid hy
    clear hx hy
    generalize a[k]=s at *
    generalize b[k]'(by have:=Hn.out; omega)=t at *
    have hk1:(k:Int)<(a.length:Int):=by omega
    have hk2:(k:Int)<(b.length:Int):=by have:=Hn.out; omega
    have Hokx:=Lib.hid hokx
    have Hoky:=Lib.hid hoky
    clear hokx hoky
    go_wp2_with fail
    have k0:=cell_regrown k0
    have k1:=cell_regrown k1
    have k2:=cell_regrown k2
    have k3:=cell_regrown k3
    have k4:=cell_regrown k4
    have k5:=cell_regrown k5
    have j0:=cell_regrown j0
    have j1:=cell_regrown j1
    have j2:=cell_regrown j2
    have j3:=cell_regrown j3
    have j4:=cell_regrown j4
    have j5:=cell_regrown j5
    refine wp_region_quiet_below mixed (by kernel_rfl) ?_
    repeat (quiet_step (first | (go_at_call 70; exact Calls.rg (samereq_any S _ _ _ _ _ (Hokx.out.below (below_regrown _ _ _)) (Hoky.out.below (below_regrown _ _ _))))))
    refine wpQuiet_nil ?_
    intro _ hw'
    obtain ⟨⟨dq,osq⟩,hw''⟩:=hw'
    subst hw''
    have hb4:=hw.trans (Below.mono (below_regrown wr dq osq) hw.size)
    generalize grow (redrawn wr dq) osq=w4 at hb4 ⊢
    cases hs:sameB s t with
    |true =>
     have hs:=Lib.hid hs
     go_wp2
     go_roundw
     case rel=>exact ⟨k+1,by omega,by go_num,hb4,take_eq_succ _ _ _ _ hall.out Hx.out (by rw [sameB_true.1 hs.out]; exact Hy.out)⟩
     case measure=>simp [intOf]; omega
    |false =>
     have hs:=Lib.hid hs
     go_wp2
     go_ret
     exact ⟨by rw [sameLB_false (ne_at _ _ _ _ _ Hx.out Hy.out (fun e=>by have h1:=sameB_true.2 e; rw [hs.out] at h1; cases h1))]; rfl,hb4⟩
   ·go_wp2
    go_ret
    exact ⟨by rw [sameLB_true.2 (take_eq_end _ _ _ hall.out Hn.out (by omega))]; rfl,hw⟩
 ·have hn':((a.length:Int) != (b.length:Int))=true:=by simp; omega
  rw [sameLB_false (fun e=>hn (by rw [e]))]
  go_enter Tryz.func37,Tryz.ntmps37
  go_wp2
  go_ret
  exact ⟨rfl,Below.refl _ _⟩
end Go.Proofs.YtlomdfbnicbceaaGreat
