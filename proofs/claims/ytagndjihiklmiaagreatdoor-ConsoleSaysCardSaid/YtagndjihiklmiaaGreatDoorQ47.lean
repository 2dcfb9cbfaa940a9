/- The reference's StepOf: a text read as a step. -/
import Derived.Test.YtagndjihiklmiaaGreatDoorQ46
set_option linter.unusedSimpArgs false
set_option linter.unusedVariables false
set_option maxRecDepth 100000
set_option maxHeartbeats 8000000
namespace Go.Proofs.YtagndjihiklmiaaGreatDoor
open Go.RowKit
def rstageZ (w0:ByteArray) (r:List ByteArray) (p:Nat):Stp :=
 ⟨w0,if 1≤p then natM (r.getD 0 ⟨#[]⟩) 999 else 0,if 2≤p then natM (r.getD 1 ⟨#[]⟩) 999 else 0,if 3≤p then dataP (r.getD 2 ⟨#[]⟩) else ⟨#[]⟩⟩
def rparseW (ws:List ByteArray):Option Stp:=match ws with
 | []=>none
 |w0 :: r=>match formK w0 with
  |none=>none
  |some k=>if r.length≠k then none
   else if 3≤k && (r.getD 2 ⟨#[]⟩).toList.isEmpty then none
   else if checkM (rstageZ w0 r k)≠0 then none
   else some (rstageZ w0 r k)
theorem rparseW_no {w0:ByteArray} {r:List ByteArray} (h:formK w0=none):rparseW (w0 :: r)=none:=by simp only [rparseW,h]
theorem rparseW_len {w0:ByteArray} {r:List ByteArray} {k:Nat} (h:formK w0=some k) (hl:r.length≠k):rparseW (w0 :: r)=none:=by simp only [rparseW,h]; rw [if_pos hl]
theorem rparseW_emp {w0:ByteArray} {r:List ByteArray} (h:formK w0=some 3) (hl:r.length=3) (he:(r.getD 2 ⟨#[]⟩).toList.isEmpty=true):rparseW (w0 :: r)=none:=by
 simp only [rparseW,h]; rw [if_neg (by simp [hl]),if_pos (by simp only [he]; rfl)]
theorem rparseW_bad {w0:ByteArray} {r:List ByteArray} {k:Nat} (h:formK w0=some k) (hl:r.length=k) (hc:checkM (rstageZ w0 r k)≠0):rparseW (w0 :: r)=none:=by
 simp only [rparseW,h];rw [if_neg (by simp [hl])]
 split
 ·rfl
 ·first | rfl | rw [if_pos hc]
theorem rparseW_ok {w0:ByteArray} {r:List ByteArray} {k:Nat} (h:formK w0=some k) (hl:r.length=k) (he:(3≤k && (r.getD 2 ⟨#[]⟩).toList.isEmpty)=false) (hc:checkM (rstageZ w0 r k)=0):rparseW (w0 :: r)=some (rstageZ w0 r k):=by
 simp only [rparseW,h];rw [if_neg (by simp [hl]),if_neg (by rw [he]; decide),if_neg (by simp [hc])]
def rparseM (t:ByteArray):Option Stp:=rparseW (splitM t)
def rparseV (o:Option Stp):Value:=match o with
 |some z=>.tuple #[stpV z,.int .i64 0]
 |none=>.tuple #[stpV zeroZ,.int .i64 4]
theorem rstpInfo:(Tryz.prog.info? 32).map (·.size)=some 4:=by kernel_rfl
theorem rstp_results {fn:Func} {tmps:Array Value} {W:World} {rb:Nat} {e:Value} {c0 c1 c2 c3:Value} (h:fn.results=#[.cell 2 32,.tmp 3]) (h2:tmps.getD 2 undef=.pointer (some ⟨rb,0,none⟩)) (h3:tmps.getD 3 undef=e)
  (hrow:W.heap[rb]?=some (.cells #[c0,c1,c2,c3] 32 (0,0))):(results fn tmps).run Tryz.prog W=.ok (.tuple #[.agg #[c0,c1,c2,c3],e]) W:=by
 have hl:=run_loadVar_mid (P:=Tryz.prog) W rb 0 32 [c0,c1,c2,c3] _ (fun j v hj=>by
  rw [Nat.zero_add,cell_of_row _ _ j _ _ _ hrow]
  simpa using hj) Tryz.underlying32 rfl rstpInfo
 rw [results_cell_tmp h,h2,h3];simp [asAddr,Result.andThen,hl]
theorem own_word {w:World} {base:Nat} {A:Option Addr} {n c:Nat} {ws:List ByteArray} (h:w.ownsRow base 9 1 (.slice A n c) ws.length (ws.map .string)) (h0:0<ws.length):∃ g cap,A=some ⟨g,0,none⟩∧n=ws.length∧c=cap∧ws.length≤cap∧cap≤9223372036854775807∧base≤g∧g<w.heap.size∧∃ cs:Array Value,w.heap[g]?=some (.cells cs 9 (0,0))∧∀ (j:Nat) (x:ByteArray),ws[j]?=some x→cs[j]?=some (Value.string x):=by
 rcases h.2 with ⟨_,h1⟩ | ⟨g,cap,cur,hv,hb,hh,h3,h4,h5,h6⟩
 ·omega
 ·injection hv with e1 e2 e3
  subst e1 e2 e3;unfold maxLen at h4;refine ⟨g,_,rfl,rfl,rfl,h3,by omega,hb,(h.lt g rfl).2,cur,hh,fun j x hx=>?_⟩;have hlen:=(List.getElem?_eq_some_iff.1 hx).1
  have:(cur.toList.take (ws.length * 1))[j]?=some (.string x):=by
   rw [h6,List.getElem?_map,hx]; rfl
  rw [List.getElem?_take] at this
  split at this
  ·simpa using this
  ·cases this
theorem Lay.addOwn {w wr:World} {l:List (Nat × TypeId × Array Value)} (h:Lay w wr l) {b:Nat} {T:TypeId} {cs:Array Value} (hr:wr.heap[b]?=some (.cells cs T (0,0))) (ho:w.heap.size≤b) (hn:∀ x ∈ l,x.1≠b):Lay w wr ((b,T,cs) :: l) :=
 ⟨h.below,fun x hx=>by
  rcases List.mem_cons.1 hx with rfl | hx
  ·exact hr
  ·exact h.row x hx,fun x hx=>by
  rcases List.mem_cons.1 hx with rfl | hx
  ·exact ho
  ·exact h.own x hx,by
  rw [List.map_cons,List.nodup_cons];refine ⟨fun hm=>?_,h.nd⟩;obtain ⟨x,hx,he⟩:=List.mem_map.1 hm
  exact hn x hx he⟩
theorem rparse_any (t:ByteArray) (w:World) (ht:t.size≤1000):Calls Tryz.prog 8 #[.string t] w (Ret (rparseV (rparseM t)) w):=by
 obtain ⟨o,ho⟩:∃ o,rparseW (splitM t)=o:=⟨_,rfl⟩
 have e:rparseM t=o:=ho;rw [e];have Ho:=Lib.hid ho;clear e ho;go_enter Tryz.func8,Tryz.ntmps8;go_wp2_with fail;have L1:=(Lay.refl w).alloc' w.heap.size #[Value.string { data:=#[] },.int .i64 0,.int .i64 0,.string { data:=#[] }] 32 rfl;generalize World.alloc _ _=W1 at L1 ⊢;generalize w.heap.size=rb at L1 ⊢;have hrb:=L1.lt (x:=(rb,32,#[Value.string { data:=#[] },.int .i64 0,.int .i64 0,.string { data:=#[] }])) (by simp);refine (rsplit_any t W1 ht).mono ?_;rintro e W2 ⟨v,rfl,hb2,hown⟩;have hsz:=splitM_size t
 have hlen:(splitM t).length≤1001:=by
  unfold splitM;rw [List.length_map];have:=splitL_len t.data.toList;have e2:t.data.toList.length=t.size:=by simp
  omega
 have hne:splitM t≠[]:=by
  unfold splitM;intro e;exact splitL_ne _ (List.map_eq_nil_iff.1 e)
 generalize splitM t=ws at *
 obtain ⟨w0,r,rfl⟩:∃ w0 r,ws=w0 :: r:=by
  cases ws with
  |nil=>exact absurd rfl hne
  |cons a b=>exact ⟨a,b,rfl⟩
 clear hne;obtain ⟨A,c,rfl⟩:=own_slice hown;obtain ⟨br,cap,rfl,hn,rfl,hcap,hcap2,hbr,hbr2,cs,hrow,hcs⟩:=own_word hown (by simp);clear hn
 have L2:=(L1.step hb2).addOwn hrow (Nat.le_trans L1.size hbr) (fun x hx=>by
  simp only [List.mem_cons,List.mem_nil_iff,or_false] at hx;subst hx;show rb≠br
  omega)
 have Hcs:=Lib.hid hcs;have hs0:w0.size≤1000:=Nat.le_trans (hsz w0 (by simp)) ht;have hm0:w0.size≤maxLen:=by unfold maxLen; omega
 have hsr:Hid (∀ x ∈ r,x.size≤1000):=fun x hx=>Nat.le_trans (hsz x (by simp [hx])) ht
 rw [List.length_cons] at hlen hcap ⊢;have c0:W2.cell? ⟨br,0,none⟩=some (.string w0):=(L2.cell 0 rfl 0).trans (Hcs.out 0 w0 rfl);have hl1:(0:Int)<((r.length+1:Nat):Int):=by omega
 have HL2:=Lib.hid L2;clear L1 L2 hsz hown hb2 hrow hcs;go_wp2_with fail;refine (rform_any w0 W2).mono ?_;rintro e W3 ⟨rfl,rfl⟩;have L3:=HL2.out;have HL:=Lib.hid L3
 obtain ⟨f0,f1,f2,f3⟩:_∧_∧_∧_:=⟨L3.frozen 1 rfl 0,L3.frozen 1 rfl 1,L3.frozen 1 rfl 2,L3.frozen 1 rfl 3⟩
 obtain ⟨b0,b1,b2,b3⟩:=L3.c4p 1 rfl;clear HL2 L3
 cases hk:formK w0 with
 |none =>
  rw [formT_none hk];obtain rfl:=Ho.out.symm.trans (rparseW_no hk);go_wp2;have LF:=HL.out.put4p 1 rfl (.string ⟨#[]⟩) (.int .i64 0) (.int .i64 0) (.string ⟨#[]⟩);exact bodyPost_ret (rstp_results rfl rfl rfl (LF.at_ 1 rfl)) rfl ⟨rfl,LF.below⟩
 |some k =>
  have hk3:=formK_le hk;have hF:=formT_some hk
  match k,hk3,hF,hk with
  |0,_,hF,hk =>
   change formT w0=.tuple #[.string ⟨#[]⟩,.bool true] at hF;rw [hF];by_cases hlk:r.length=0;rotate_left
   ·have hcmp:((r.length:Int)+1 != 1)=true:=by
     rw [bne_iff_ne]; omega
    obtain rfl:=Ho.out.symm.trans (rparseW_len hk hlk);go_wp2;have LF:=HL.out.put4p 1 rfl (.string ⟨#[]⟩) (.int .i64 0) (.int .i64 0) (.string ⟨#[]⟩);exact bodyPost_ret (rstp_results rfl rfl rfl (LF.at_ 1 rfl)) rfl ⟨rfl,LF.below⟩
   have hr:r=[]:=match r,hlk with
    | [],_=>rfl
   obtain rfl:=hr;clear hlk;have L4:=Lib.hid (HL.out.alloc' W2.heap.size #[.string w0,.int .i64 0,.int .i64 0,.string ⟨#[]⟩] 32 rfl);have d0:∀ o,(W2.alloc o).cell? ⟨br,0,none⟩=some (.string w0):=fun o=>((HL.out.step ((Below.refl _ _).alloc (Nat.le_refl _) o)).cell 0 rfl 0).trans (Hcs.out 0 w0 rfl)
   have hdm:(⟨w0,0,0,⟨#[]⟩⟩:Stp).data.size≤maxLen:=by
    show (⟨#[]⟩:ByteArray).size≤maxLen
    decide
   obtain ⟨n0,n1,n2,n3⟩:=L4.out.c4p 0 rfl;have hst:rstageZ w0 [] 0=⟨w0,0,0,⟨#[]⟩⟩:=rfl;have hem:(decide (3≤0) && (([]:List ByteArray).getD 2 ⟨#[]⟩).toList.isEmpty)=false:=rfl;have Hch:=Lib.hid (fun w hs hd=>rfault_any (⟨w0,0,0,⟨#[]⟩⟩) w hs hd);by_cases hc:checkM (⟨w0,0,0,⟨#[]⟩⟩)=0
   ·obtain rfl:=Ho.out.symm.trans ((rparseW_ok hk rfl hem (by rw [hst]; exact hc)).trans (congrArg some hst))
    go_wp2_with fail;refine (Hch.out _ hm0 hdm).mono ?_;rintro e W9 ⟨rfl,hb9⟩;rw [hc];have L9:=Lib.hid (L4.out.step hb9);obtain ⟨k0,k1,k2,k3⟩:=L9.out.c4p 0 rfl;obtain ⟨j0,j1,j2,j3⟩:=L9.out.c4p 2 rfl
    obtain ⟨g0,g1,g2,g3⟩:_∧_∧_∧_:=⟨L9.out.frozen 2 rfl 0,L9.out.frozen 2 rfl 1,L9.out.frozen 2 rfl 2,L9.out.frozen 2 rfl 3⟩
    go_wp2;have LF:=L9.out.put4p 2 rfl (.string (⟨w0,0,0,⟨#[]⟩⟩:Stp).word) (.int .i64 (⟨w0,0,0,⟨#[]⟩⟩:Stp).a) (.int .i64 (⟨w0,0,0,⟨#[]⟩⟩:Stp).b) (.string (⟨w0,0,0,⟨#[]⟩⟩:Stp).data);exact bodyPost_ret (rstp_results rfl rfl rfl (LF.at_ 2 rfl)) rfl ⟨rfl,LF.below⟩
   ·obtain rfl:=Ho.out.symm.trans (rparseW_bad hk rfl (by rw [hst]; exact hc))
    have hpos:(0:Int)<(checkM (⟨w0,0,0,⟨#[]⟩⟩):Int):=by omega
    go_wp2_with fail;refine (Hch.out _ hm0 hdm).mono ?_;rintro e W9 ⟨rfl,hb9⟩;have L9:=Lib.hid (L4.out.step hb9);obtain ⟨j0,j1,j2,j3⟩:=L9.out.c4p 2 rfl
    obtain ⟨g0,g1,g2,g3⟩:_∧_∧_∧_:=⟨L9.out.frozen 2 rfl 0,L9.out.frozen 2 rfl 1,L9.out.frozen 2 rfl 2,L9.out.frozen 2 rfl 3⟩
    go_wp2;have LF:=L9.out.put4p 2 rfl (.string ⟨#[]⟩) (.int .i64 0) (.int .i64 0) (.string ⟨#[]⟩);exact bodyPost_ret (rstp_results rfl rfl rfl (LF.at_ 2 rfl)) rfl ⟨rfl,LF.below⟩
  |1,_,hF,hk =>
   change formT w0=.tuple #[.string ⟨#[97]⟩,.bool true] at hF;rw [hF];by_cases hlk:r.length=1;rotate_left
   ·have hcmp:((r.length:Int)+1 != 2)=true:=by
     rw [bne_iff_ne]; omega
    obtain rfl:=Ho.out.symm.trans (rparseW_len hk hlk);go_wp2;have LF:=HL.out.put4p 1 rfl (.string ⟨#[]⟩) (.int .i64 0) (.int .i64 0) (.string ⟨#[]⟩);exact bodyPost_ret (rstp_results rfl rfl rfl (LF.at_ 1 rfl)) rfl ⟨rfl,LF.below⟩
   have hr:∃ x0,r=[x0]:=match r,hlk with
    | [x0],_=>⟨x0,rfl⟩
   obtain ⟨x0,rfl⟩:=hr;clear hlk;have hs_0:x0.size≤maxLen:=by have:=hsr.out x0 (by simp); unfold maxLen; omega
   have L4:=Lib.hid (HL.out.alloc' W2.heap.size #[.string w0,.int .i64 0,.int .i64 0,.string ⟨#[]⟩] 32 rfl);have d0:∀ o,(W2.alloc o).cell? ⟨br,0,none⟩=some (.string w0):=fun o=>((HL.out.step ((Below.refl _ _).alloc (Nat.le_refl _) o)).cell 0 rfl 0).trans (Hcs.out 0 w0 rfl)
   have d1:(W2.alloc (.cells #[.string w0,.int .i64 0,.int .i64 0,.string ⟨#[]⟩] 32)).cell? ⟨br,1,none⟩=some (.string x0):=(L4.out.cell 1 rfl 1).trans (Hcs.out 1 x0 rfl);obtain ⟨n0,n1,n2,n3⟩:=L4.out.c4p 0 rfl;have fz1:=L4.out.frozen 0 rfl 1;go_wp2_with fail;refine (natural_any x0 999 _ hs_0).mono ?_;rintro e W5 ⟨rfl,rfl⟩;have L5:=Lib.hid (L4.out.set 0 rfl 1 (.int .i64 (natM x0 999)));generalize hW4:W2.alloc (.cells #[.string w0,.int .i64 0,.int .i64 0,.string ⟨#[]⟩] 32)=W4 at *;clear hW4;obtain ⟨m0,m1,m2,m3⟩:=L5.out.c4p 0 rfl
   have hdm:(⟨w0,natM x0 999,0,⟨#[]⟩⟩:Stp).data.size≤maxLen:=by
    show (⟨#[]⟩:ByteArray).size≤maxLen
    decide
   have hst:rstageZ w0 [x0] 1=⟨w0,natM x0 999,0,⟨#[]⟩⟩:=rfl;have hem:(decide (3≤1) && (([x0]:List ByteArray).getD 2 ⟨#[]⟩).toList.isEmpty)=false:=rfl;have Hch:=Lib.hid (fun w hs hd=>rfault_any (⟨w0,natM x0 999,0,⟨#[]⟩⟩) w hs hd);by_cases hc:checkM (⟨w0,natM x0 999,0,⟨#[]⟩⟩)=0
   ·obtain rfl:=Ho.out.symm.trans ((rparseW_ok hk rfl hem (by rw [hst]; exact hc)).trans (congrArg some hst))
    go_wp2_with fail;refine (Hch.out _ hm0 hdm).mono ?_;rintro e W9 ⟨rfl,hb9⟩;rw [hc];have L9:=Lib.hid (L5.out.step hb9);obtain ⟨k0,k1,k2,k3⟩:=L9.out.c4p 0 rfl;obtain ⟨j0,j1,j2,j3⟩:=L9.out.c4p 2 rfl
    obtain ⟨g0,g1,g2,g3⟩:_∧_∧_∧_:=⟨L9.out.frozen 2 rfl 0,L9.out.frozen 2 rfl 1,L9.out.frozen 2 rfl 2,L9.out.frozen 2 rfl 3⟩
    go_wp2;have LF:=L9.out.put4p 2 rfl (.string (⟨w0,natM x0 999,0,⟨#[]⟩⟩:Stp).word) (.int .i64 (⟨w0,natM x0 999,0,⟨#[]⟩⟩:Stp).a) (.int .i64 (⟨w0,natM x0 999,0,⟨#[]⟩⟩:Stp).b) (.string (⟨w0,natM x0 999,0,⟨#[]⟩⟩:Stp).data);exact bodyPost_ret (rstp_results rfl rfl rfl (LF.at_ 2 rfl)) rfl ⟨rfl,LF.below⟩
   ·obtain rfl:=Ho.out.symm.trans (rparseW_bad hk rfl (by rw [hst]; exact hc))
    have hpos:(0:Int)<(checkM (⟨w0,natM x0 999,0,⟨#[]⟩⟩):Int):=by omega
    go_wp2_with fail;refine (Hch.out _ hm0 hdm).mono ?_;rintro e W9 ⟨rfl,hb9⟩;have L9:=Lib.hid (L5.out.step hb9);obtain ⟨j0,j1,j2,j3⟩:=L9.out.c4p 2 rfl
    obtain ⟨g0,g1,g2,g3⟩:_∧_∧_∧_:=⟨L9.out.frozen 2 rfl 0,L9.out.frozen 2 rfl 1,L9.out.frozen 2 rfl 2,L9.out.frozen 2 rfl 3⟩
    go_wp2;have LF:=L9.out.put4p 2 rfl (.string ⟨#[]⟩) (.int .i64 0) (.int .i64 0) (.string ⟨#[]⟩);exact bodyPost_ret (rstp_results rfl rfl rfl (LF.at_ 2 rfl)) rfl ⟨rfl,LF.below⟩
  |2,_,hF,hk =>
   change formT w0=.tuple #[.string ⟨#[97,98]⟩,.bool true] at hF;rw [hF];by_cases hlk:r.length=2;rotate_left
   ·have hcmp:((r.length:Int)+1 != 3)=true:=by
     rw [bne_iff_ne]; omega
    obtain rfl:=Ho.out.symm.trans (rparseW_len hk hlk);go_wp2;have LF:=HL.out.put4p 1 rfl (.string ⟨#[]⟩) (.int .i64 0) (.int .i64 0) (.string ⟨#[]⟩);exact bodyPost_ret (rstp_results rfl rfl rfl (LF.at_ 1 rfl)) rfl ⟨rfl,LF.below⟩
   have hr:∃ x0 x1,r=[x0,x1]:=match r,hlk with
    | [x0,x1],_=>⟨x0,x1,rfl⟩
   obtain ⟨x0,x1,rfl⟩:=hr;clear hlk;have hs_0:x0.size≤maxLen:=by have:=hsr.out x0 (by simp); unfold maxLen; omega
   have hs_1:x1.size≤maxLen:=by have:=hsr.out x1 (by simp); unfold maxLen; omega
   have L4:=Lib.hid (HL.out.alloc' W2.heap.size #[.string w0,.int .i64 0,.int .i64 0,.string ⟨#[]⟩] 32 rfl);have d0:∀ o,(W2.alloc o).cell? ⟨br,0,none⟩=some (.string w0):=fun o=>((HL.out.step ((Below.refl _ _).alloc (Nat.le_refl _) o)).cell 0 rfl 0).trans (Hcs.out 0 w0 rfl)
   have d1:(W2.alloc (.cells #[.string w0,.int .i64 0,.int .i64 0,.string ⟨#[]⟩] 32)).cell? ⟨br,1,none⟩=some (.string x0):=(L4.out.cell 1 rfl 1).trans (Hcs.out 1 x0 rfl);have d2:(W2.alloc (.cells #[.string w0,.int .i64 0,.int .i64 0,.string ⟨#[]⟩] 32)).cell? ⟨br,2,none⟩=some (.string x1):=(L4.out.cell 1 rfl 2).trans (Hcs.out 2 x1 rfl);obtain ⟨n0,n1,n2,n3⟩:=L4.out.c4p 0 rfl;have fz1:=L4.out.frozen 0 rfl 1;go_wp2_with fail;refine (natural_any x0 999 _ hs_0).mono ?_;rintro e W5 ⟨rfl,rfl⟩;have L5:=Lib.hid (L4.out.set 0 rfl 1 (.int .i64 (natM x0 999)));generalize hW4:W2.alloc (.cells #[.string w0,.int .i64 0,.int .i64 0,.string ⟨#[]⟩] 32)=W4 at *;clear hW4;obtain ⟨m0,m1,m2,m3⟩:=L5.out.c4p 0 rfl;have e2:(W4.setCell ⟨W2.heap.size,1,none⟩ (.int .i64 (natM x0 999))).cell? ⟨br,2,none⟩=some (.string x1):=(L5.out.cell 1 rfl 2).trans (Hcs.out 2 x1 rfl);have fz2:=L5.out.frozen 0 rfl 2;go_wp2_with fail;refine (natural_any x1 999 _ hs_1).mono ?_;rintro e W6 ⟨rfl,rfl⟩;have L6:=Lib.hid (L5.out.set 0 rfl 2 (.int .i64 (natM x1 999)));generalize hW5:W4.setCell ⟨W2.heap.size,1,none⟩ (.int .i64 (natM x0 999))=W5 at *;clear hW5;obtain ⟨l0,l1,l2,l3⟩:=L6.out.c4p 0 rfl
   have hdm:(⟨w0,natM x0 999,natM x1 999,⟨#[]⟩⟩:Stp).data.size≤maxLen:=by
    show (⟨#[]⟩:ByteArray).size≤maxLen
    decide
   have hst:rstageZ w0 [x0,x1] 2=⟨w0,natM x0 999,natM x1 999,⟨#[]⟩⟩:=rfl;have hem:(decide (3≤2) && (([x0,x1]:List ByteArray).getD 2 ⟨#[]⟩).toList.isEmpty)=false:=rfl;have Hch:=Lib.hid (fun w hs hd=>rfault_any (⟨w0,natM x0 999,natM x1 999,⟨#[]⟩⟩) w hs hd);by_cases hc:checkM (⟨w0,natM x0 999,natM x1 999,⟨#[]⟩⟩)=0
   ·obtain rfl:=Ho.out.symm.trans ((rparseW_ok hk rfl hem (by rw [hst]; exact hc)).trans (congrArg some hst))
    go_wp2_with fail;refine (Hch.out _ hm0 hdm).mono ?_;rintro e W9 ⟨rfl,hb9⟩;rw [hc];have L9:=Lib.hid (L6.out.step hb9);obtain ⟨k0,k1,k2,k3⟩:=L9.out.c4p 0 rfl;obtain ⟨j0,j1,j2,j3⟩:=L9.out.c4p 2 rfl
    obtain ⟨g0,g1,g2,g3⟩:_∧_∧_∧_:=⟨L9.out.frozen 2 rfl 0,L9.out.frozen 2 rfl 1,L9.out.frozen 2 rfl 2,L9.out.frozen 2 rfl 3⟩
    go_wp2;have LF:=L9.out.put4p 2 rfl (.string (⟨w0,natM x0 999,natM x1 999,⟨#[]⟩⟩:Stp).word) (.int .i64 (⟨w0,natM x0 999,natM x1 999,⟨#[]⟩⟩:Stp).a) (.int .i64 (⟨w0,natM x0 999,natM x1 999,⟨#[]⟩⟩:Stp).b) (.string (⟨w0,natM x0 999,natM x1 999,⟨#[]⟩⟩:Stp).data);exact bodyPost_ret (rstp_results rfl rfl rfl (LF.at_ 2 rfl)) rfl ⟨rfl,LF.below⟩
   ·obtain rfl:=Ho.out.symm.trans (rparseW_bad hk rfl (by rw [hst]; exact hc))
    have hpos:(0:Int)<(checkM (⟨w0,natM x0 999,natM x1 999,⟨#[]⟩⟩):Int):=by omega
    go_wp2_with fail;refine (Hch.out _ hm0 hdm).mono ?_;rintro e W9 ⟨rfl,hb9⟩;have L9:=Lib.hid (L6.out.step hb9);obtain ⟨j0,j1,j2,j3⟩:=L9.out.c4p 2 rfl
    obtain ⟨g0,g1,g2,g3⟩:_∧_∧_∧_:=⟨L9.out.frozen 2 rfl 0,L9.out.frozen 2 rfl 1,L9.out.frozen 2 rfl 2,L9.out.frozen 2 rfl 3⟩
    go_wp2;have LF:=L9.out.put4p 2 rfl (.string ⟨#[]⟩) (.int .i64 0) (.int .i64 0) (.string ⟨#[]⟩);exact bodyPost_ret (rstp_results rfl rfl rfl (LF.at_ 2 rfl)) rfl ⟨rfl,LF.below⟩
  |3,_,hF,hk =>
   change formT w0=.tuple #[.string ⟨#[97,98,100]⟩,.bool true] at hF;rw [hF];by_cases hlk:r.length=3;rotate_left
   ·have hcmp:((r.length:Int)+1 != 4)=true:=by
     rw [bne_iff_ne]; omega
    obtain rfl:=Ho.out.symm.trans (rparseW_len hk hlk);go_wp2;have LF:=HL.out.put4p 1 rfl (.string ⟨#[]⟩) (.int .i64 0) (.int .i64 0) (.string ⟨#[]⟩);exact bodyPost_ret (rstp_results rfl rfl rfl (LF.at_ 1 rfl)) rfl ⟨rfl,LF.below⟩
   have hr:∃ x0 x1 x2,r=[x0,x1,x2]:=match r,hlk with
    | [x0,x1,x2],_=>⟨x0,x1,x2,rfl⟩
   obtain ⟨x0,x1,x2,rfl⟩:=hr;clear hlk;have hs_0:x0.size≤maxLen:=by have:=hsr.out x0 (by simp); unfold maxLen; omega
   have hs_1:x1.size≤maxLen:=by have:=hsr.out x1 (by simp); unfold maxLen; omega
   have hs_2:x2.size≤maxLen:=by have:=hsr.out x2 (by simp); unfold maxLen; omega
   have L4:=Lib.hid (HL.out.alloc' W2.heap.size #[.string w0,.int .i64 0,.int .i64 0,.string ⟨#[]⟩] 32 rfl);have d0:∀ o,(W2.alloc o).cell? ⟨br,0,none⟩=some (.string w0):=fun o=>((HL.out.step ((Below.refl _ _).alloc (Nat.le_refl _) o)).cell 0 rfl 0).trans (Hcs.out 0 w0 rfl)
   have d1:(W2.alloc (.cells #[.string w0,.int .i64 0,.int .i64 0,.string ⟨#[]⟩] 32)).cell? ⟨br,1,none⟩=some (.string x0):=(L4.out.cell 1 rfl 1).trans (Hcs.out 1 x0 rfl);have d2:(W2.alloc (.cells #[.string w0,.int .i64 0,.int .i64 0,.string ⟨#[]⟩] 32)).cell? ⟨br,2,none⟩=some (.string x1):=(L4.out.cell 1 rfl 2).trans (Hcs.out 2 x1 rfl);have d3:(W2.alloc (.cells #[.string w0,.int .i64 0,.int .i64 0,.string ⟨#[]⟩] 32)).cell? ⟨br,3,none⟩=some (.string x2):=(L4.out.cell 1 rfl 3).trans (Hcs.out 3 x2 rfl);obtain ⟨n0,n1,n2,n3⟩:=L4.out.c4p 0 rfl;have fz1:=L4.out.frozen 0 rfl 1;go_wp2_with fail;refine (natural_any x0 999 _ hs_0).mono ?_;rintro e W5 ⟨rfl,rfl⟩;have L5:=Lib.hid (L4.out.set 0 rfl 1 (.int .i64 (natM x0 999)));generalize hW4:W2.alloc (.cells #[.string w0,.int .i64 0,.int .i64 0,.string ⟨#[]⟩] 32)=W4 at *;clear hW4;obtain ⟨m0,m1,m2,m3⟩:=L5.out.c4p 0 rfl;have e2:(W4.setCell ⟨W2.heap.size,1,none⟩ (.int .i64 (natM x0 999))).cell? ⟨br,2,none⟩=some (.string x1):=(L5.out.cell 1 rfl 2).trans (Hcs.out 2 x1 rfl);have e3:(W4.setCell ⟨W2.heap.size,1,none⟩ (.int .i64 (natM x0 999))).cell? ⟨br,3,none⟩=some (.string x2):=(L5.out.cell 1 rfl 3).trans (Hcs.out 3 x2 rfl);have fz2:=L5.out.frozen 0 rfl 2;go_wp2_with fail;refine (natural_any x1 999 _ hs_1).mono ?_;rintro e W6 ⟨rfl,rfl⟩;have L6:=Lib.hid (L5.out.set 0 rfl 2 (.int .i64 (natM x1 999)));generalize hW5:W4.setCell ⟨W2.heap.size,1,none⟩ (.int .i64 (natM x0 999))=W5 at *;clear hW5;obtain ⟨l0,l1,l2,l3⟩:=L6.out.c4p 0 rfl;have q3:(W5.setCell ⟨W2.heap.size,2,none⟩ (.int .i64 (natM x1 999))).cell? ⟨br,3,none⟩=some (.string x2):=(L6.out.cell 1 rfl 3).trans (Hcs.out 3 x2 rfl);have fz3:=L6.out.frozen 0 rfl 3;have L7:=Lib.hid (L6.out.set 0 rfl 3 (.string x2));have q4:((W5.setCell ⟨W2.heap.size,2,none⟩ (.int .i64 (natM x1 999))).setCell ⟨W2.heap.size,3,none⟩ (.string x2)).cell? ⟨br,3,none⟩=some (.string x2):=(L7.out.cell 1 rfl 3).trans (Hcs.out 3 x2 rfl);rcases Bool.eq_false_or_eq_true x2.toList.isEmpty with he | he
   ·obtain rfl:=Ho.out.symm.trans (rparseW_emp hk rfl he)
    obtain ⟨j0,j1,j2,j3⟩:=L7.out.c4p 2 rfl
    obtain ⟨g0,g1,g2,g3⟩:_∧_∧_∧_:=⟨L7.out.frozen 2 rfl 0,L7.out.frozen 2 rfl 1,L7.out.frozen 2 rfl 2,L7.out.frozen 2 rfl 3⟩
    go_wp2;have LF:=L7.out.put4p 2 rfl (.string ⟨#[]⟩) (.int .i64 0) (.int .i64 0) (.string ⟨#[]⟩);exact bodyPost_ret (rstp_results rfl rfl rfl (LF.at_ 2 rfl)) rfl ⟨rfl,LF.below⟩
   rcases Bool.eq_false_or_eq_true (x2.toList == [45]) with hq | hq
   ·have L8:=Lib.hid (L7.out.set 0 rfl 3 (.string ⟨#[]⟩))
    have fz4:=L7.out.frozen 0 rfl 3;obtain ⟨o0,o1,o2,o3⟩:=L8.out.c4p 0 rfl;obtain ⟨s0,s1,s2,s3⟩:=L7.out.c4p 0 rfl;have hdp:dataP x2=⟨#[]⟩:=by unfold dataP; rw [hq]; rfl
    have hdm:(⟨w0,natM x0 999,natM x1 999,⟨#[]⟩⟩:Stp).data.size≤maxLen:=by
     show (⟨#[]⟩:ByteArray).size≤maxLen
     decide
    have hst:rstageZ w0 [x0,x1,x2] 3=⟨w0,natM x0 999,natM x1 999,⟨#[]⟩⟩:=by
     rw [← hdp]; rfl
    have hem:(decide (3≤3) && (([x0,x1,x2]:List ByteArray).getD 2 ⟨#[]⟩).toList.isEmpty)=false:=by
     show (true && x2.toList.isEmpty)=false;rw [he]; rfl
    have Hch:=Lib.hid (fun w hs hd=>rfault_any (⟨w0,natM x0 999,natM x1 999,⟨#[]⟩⟩) w hs hd);by_cases hc:checkM (⟨w0,natM x0 999,natM x1 999,⟨#[]⟩⟩)=0
    ·obtain rfl:=Ho.out.symm.trans ((rparseW_ok hk rfl hem (by rw [hst]; exact hc)).trans (congrArg some hst))
     go_wp2_with fail;refine (Hch.out _ hm0 hdm).mono ?_;rintro e W9 ⟨rfl,hb9⟩;rw [hc];have L9:=Lib.hid (L8.out.step hb9);obtain ⟨k0,k1,k2,k3⟩:=L9.out.c4p 0 rfl;obtain ⟨j0,j1,j2,j3⟩:=L9.out.c4p 2 rfl
     obtain ⟨g0,g1,g2,g3⟩:_∧_∧_∧_:=⟨L9.out.frozen 2 rfl 0,L9.out.frozen 2 rfl 1,L9.out.frozen 2 rfl 2,L9.out.frozen 2 rfl 3⟩
     go_wp2;have LF:=L9.out.put4p 2 rfl (.string (⟨w0,natM x0 999,natM x1 999,⟨#[]⟩⟩:Stp).word) (.int .i64 (⟨w0,natM x0 999,natM x1 999,⟨#[]⟩⟩:Stp).a) (.int .i64 (⟨w0,natM x0 999,natM x1 999,⟨#[]⟩⟩:Stp).b) (.string (⟨w0,natM x0 999,natM x1 999,⟨#[]⟩⟩:Stp).data);exact bodyPost_ret (rstp_results rfl rfl rfl (LF.at_ 2 rfl)) rfl ⟨rfl,LF.below⟩
    ·obtain rfl:=Ho.out.symm.trans (rparseW_bad hk rfl (by rw [hst]; exact hc))
     have hpos:(0:Int)<(checkM (⟨w0,natM x0 999,natM x1 999,⟨#[]⟩⟩):Int):=by omega
     go_wp2_with fail;refine (Hch.out _ hm0 hdm).mono ?_;rintro e W9 ⟨rfl,hb9⟩;have L9:=Lib.hid (L8.out.step hb9);obtain ⟨j0,j1,j2,j3⟩:=L9.out.c4p 2 rfl
     obtain ⟨g0,g1,g2,g3⟩:_∧_∧_∧_:=⟨L9.out.frozen 2 rfl 0,L9.out.frozen 2 rfl 1,L9.out.frozen 2 rfl 2,L9.out.frozen 2 rfl 3⟩
     go_wp2;have LF:=L9.out.put4p 2 rfl (.string ⟨#[]⟩) (.int .i64 0) (.int .i64 0) (.string ⟨#[]⟩);exact bodyPost_ret (rstp_results rfl rfl rfl (LF.at_ 2 rfl)) rfl ⟨rfl,LF.below⟩
   ·have hdp:dataP x2=x2:=by unfold dataP; rw [hq]; rfl
    have hdm:(⟨w0,natM x0 999,natM x1 999,x2⟩:Stp).data.size≤maxLen:=hs_2;obtain ⟨s0,s1,s2,s3⟩:=L7.out.c4p 0 rfl
    have hst:rstageZ w0 [x0,x1,x2] 3=⟨w0,natM x0 999,natM x1 999,x2⟩:=by
     show (⟨w0,natM x0 999,natM x1 999,dataP x2⟩:Stp)=_;rw [hdp]
    have hem:(decide (3≤3) && (([x0,x1,x2]:List ByteArray).getD 2 ⟨#[]⟩).toList.isEmpty)=false:=by
     show (true && x2.toList.isEmpty)=false;rw [he]; rfl
    have Hch:=Lib.hid (fun w hs hd=>rfault_any (⟨w0,natM x0 999,natM x1 999,x2⟩) w hs hd);by_cases hc:checkM (⟨w0,natM x0 999,natM x1 999,x2⟩)=0
    ·obtain rfl:=Ho.out.symm.trans ((rparseW_ok hk rfl hem (by rw [hst]; exact hc)).trans (congrArg some hst))
     go_wp2_with fail;refine (Hch.out _ hm0 hdm).mono ?_;rintro e W9 ⟨rfl,hb9⟩;rw [hc];have L9:=Lib.hid (L7.out.step hb9);obtain ⟨k0,k1,k2,k3⟩:=L9.out.c4p 0 rfl;obtain ⟨j0,j1,j2,j3⟩:=L9.out.c4p 2 rfl
     obtain ⟨g0,g1,g2,g3⟩:_∧_∧_∧_:=⟨L9.out.frozen 2 rfl 0,L9.out.frozen 2 rfl 1,L9.out.frozen 2 rfl 2,L9.out.frozen 2 rfl 3⟩
     go_wp2;have LF:=L9.out.put4p 2 rfl (.string (⟨w0,natM x0 999,natM x1 999,x2⟩:Stp).word) (.int .i64 (⟨w0,natM x0 999,natM x1 999,x2⟩:Stp).a) (.int .i64 (⟨w0,natM x0 999,natM x1 999,x2⟩:Stp).b) (.string (⟨w0,natM x0 999,natM x1 999,x2⟩:Stp).data);exact bodyPost_ret (rstp_results rfl rfl rfl (LF.at_ 2 rfl)) rfl ⟨rfl,LF.below⟩
    ·obtain rfl:=Ho.out.symm.trans (rparseW_bad hk rfl (by rw [hst]; exact hc))
     have hpos:(0:Int)<(checkM (⟨w0,natM x0 999,natM x1 999,x2⟩):Int):=by omega
     go_wp2_with fail;refine (Hch.out _ hm0 hdm).mono ?_;rintro e W9 ⟨rfl,hb9⟩;have L9:=Lib.hid (L7.out.step hb9);obtain ⟨j0,j1,j2,j3⟩:=L9.out.c4p 2 rfl
     obtain ⟨g0,g1,g2,g3⟩:_∧_∧_∧_:=⟨L9.out.frozen 2 rfl 0,L9.out.frozen 2 rfl 1,L9.out.frozen 2 rfl 2,L9.out.frozen 2 rfl 3⟩
     go_wp2;have LF:=L9.out.put4p 2 rfl (.string ⟨#[]⟩) (.int .i64 0) (.int .i64 0) (.string ⟨#[]⟩);exact bodyPost_ret (rstp_results rfl rfl rfl (LF.at_ 2 rfl)) rfl ⟨rfl,LF.below⟩
end Go.Proofs.YtagndjihiklmiaaGreatDoor
namespace Go.Proofs.YtagndjihiklmiaaGreatDoor
open Go.RowKit
theorem natF_mono:∀ (l:List UInt8) (n v:Int),0≤n→natF n l=some v→n≤v
 | [],n,v,h,e=>by cases e; exact Int.le_refl _
 |c :: l,n,v,h,e=>by
  unfold natF at e
  split at e
  ·cases e
  ·rename_i hc
   simp at hc;have:=natF_mono l _ v (by omega) e;omega
theorem natF_cons {c:UInt8} {l:List UInt8} {n v:Int} (e:natF n (c :: l)=some v):48≤c.toNat∧c.toNat≤57∧natF (10 * n+((c.toNat:Int) - 48)) l=some v:=by
 unfold natF at e
 split at e
 ·cases e
 ·rename_i hc
  simp at hc;exact ⟨by omega,by omega,e⟩
theorem natF_digits:∀ (ds:List Nat) (n:Nat),(∀ d ∈ ds,d<10)→natF (n:Int) (ds.map dch)=some ((ds.foldl (fun a d=>a * 10+d) n:Nat):Int)
 | [],n,_=>rfl
 |d :: ds,n,h=>by
  have h1:=h d (by simp);have e:=dch_nat h1;rw [List.map_cons,List.foldl_cons];unfold natF;rw [if_neg (by rw [e]; simp; omega),e,← natF_digits ds (n * 10+d) (fun x hx=>h x (by simp [hx]))]
  congr 1
  omega
theorem dch_of {c:UInt8} (h1:48≤c.toNat):c=dch (c.toNat - 48):=by
 apply UInt8.toNat_inj.1;unfold dch;rw [UInt8.toNat_ofNat'];have:=UInt8.toNat_lt c;omega
theorem bytes_of {s:ByteArray} {l:List UInt8} (h:s.data.toList=l):s=⟨l.toArray⟩:=by
 subst h
 cases s
 rfl
theorem nat_back {s:ByteArray} {n:Int} (h:natM s 999=n) (hn:0≤n):s=itoaB n:=by
 unfold natM at h
 split at h
 ·omega
 ·rename_i hc
  simp only [Bool.or_eq_true,decide_eq_true_eq,Bool.and_eq_true,beq_iff_eq,not_or,not_and] at hc;obtain ⟨⟨h1,h2⟩,h3⟩:=hc
  cases hf:natF 0 s.data.toList with
  |none=>rw [hf] at h; simp only at h; omega
  |some v =>
   rw [hf] at h;simp only at h
   split at h
   ·omega
   ·rename_i hm
    subst h;have hsz:s.data.toList.length=s.size:=by simp
    obtain ⟨m,rfl⟩:∃ m:Nat,v=m:=⟨v.toNat,by omega⟩
    have hI:itoaB (m:Int)=⟨(Lib.decDigits m).toArray⟩:=by unfold itoaB; rw [itoa_nat]
    rw [hI];apply bytes_of
    match hl:s.data.toList with
    | []=>rw [hl] at hsz; simp at hsz; omega
    | [c0] =>
     rw [hl] at hf;obtain ⟨a0,b0,hf⟩:=natF_cons hf;have hv:10 * 0+((c0.toNat:Int) - 48)=(m:Int):=Option.some.inj hf;have e0:=dch_of a0;have hmm:m=c0.toNat - 48:=by omega
     subst hmm;rw [Lib.decDigits,dif_pos (by omega)];exact congrArg (fun x=>[x]) e0
    | [c0,c1] =>
     rw [hl] at hf h3;obtain ⟨a0,b0,hf⟩:=natF_cons hf;obtain ⟨a1,b1,hf⟩:=natF_cons hf
     have hz:c0.toNat≠48:=fun e=>by
      have:c0=48:=UInt8.toNat_inj.1 (by rw [e]; rfl);subst this;have:=h3 rfl;rw [hl] at hsz; simp at hsz; omega
     have hv:10 * (10 * 0+((c0.toNat:Int) - 48))+((c1.toNat:Int) - 48)=(m:Int):=Option.some.inj hf;have e0:=dch_of a0;have e1:=dch_of a1;have hmm:m=10 * (c0.toNat - 48)+(c1.toNat - 48):=by omega
     rw [Lib.decDigits,dif_neg (by omega),Lib.decDigits,dif_pos (by omega)];rw [show m / 10=c0.toNat - 48 by omega,show m % 10=c1.toNat - 48 by omega];show [c0,c1]=[dch (c0.toNat - 48),dch (c1.toNat - 48)];rw [← e0,← e1]
    | [c0,c1,c2] =>
     rw [hl] at hf h3;obtain ⟨a0,b0,hf⟩:=natF_cons hf;obtain ⟨a1,b1,hf⟩:=natF_cons hf;obtain ⟨a2,b2,hf⟩:=natF_cons hf
     have hz:c0.toNat≠48:=fun e=>by
      have:c0=48:=UInt8.toNat_inj.1 (by rw [e]; rfl);subst this;have:=h3 rfl;rw [hl] at hsz; simp at hsz; omega
     have hv:10 * (10 * (10 * 0+((c0.toNat:Int) - 48))+((c1.toNat:Int) - 48))+((c2.toNat:Int) - 48)=(m:Int):=Option.some.inj hf;have e0:=dch_of a0;have e1:=dch_of a1;have e2:=dch_of a2;have hmm:m=100 * (c0.toNat - 48)+10 * (c1.toNat - 48)+(c2.toNat - 48):=by omega
     rw [Lib.decDigits,dif_neg (by omega),Lib.decDigits,dif_neg (by omega),Lib.decDigits,dif_pos (by omega)];rw [show m / 10 / 10=c0.toNat - 48 by omega,show m / 10 % 10=c1.toNat - 48 by omega,show m % 10=c2.toNat - 48 by omega];show [c0,c1,c2]=[dch (c0.toNat - 48),dch (c1.toNat - 48),dch (c2.toNat - 48)];rw [← e0,← e1,← e2]
    |c0 :: c1 :: c2 :: c3 :: l =>
     exfalso;rw [hl] at hf h3;obtain ⟨a0,b0,hf⟩:=natF_cons hf;obtain ⟨a1,b1,hf⟩:=natF_cons hf;obtain ⟨a2,b2,hf⟩:=natF_cons hf;obtain ⟨a3,b3,hf⟩:=natF_cons hf
     have hz:c0.toNat≠48:=fun e=>by
      have:c0=48:=UInt8.toNat_inj.1 (by rw [e]; rfl);subst this;have:=h3 rfl;rw [hl] at hsz; simp at hsz; omega
     have:=natF_mono _ _ _ (by omega) hf;omega
theorem natM_ge (s:ByteArray) : -1≤natM s 999∧natM s 999≤999:=by
 unfold natM
 split
 ·omega
 ·split
  ·omega
  ·rename_i n hn
   split
   ·omega
   ·have:=natF_mono _ _ _ (Int.le_refl 0) hn
    omega
theorem natM_itoa (n:Nat) (h:n<1000):natM (itoaB n) 999=n:=by
 obtain ⟨ds,h1,h2,h3,h4,h5⟩:=dec_digits n h
 have hl:(itoaB (n:Int)).data.toList=ds.map dch:=by
  unfold itoaB;rw [itoa_nat,h4]
 have hsz:(itoaB (n:Int)).size=ds.length:=by
  have:(itoaB (n:Int)).data.toList.length=(itoaB (n:Int)).size:=by simp
  rw [← this,hl,List.length_map]
 have hpos:1≤ds.length:=by
  cases ds with
  |nil=>exact absurd rfl h2
  |cons _ _=>simp
 have hf:=natF_digits ds 0 h1;rw [h5] at hf;unfold natM;rw [if_neg,hl]
 ·have e:natF 0 (ds.map dch)=some (n:Int):=hf
  rw [e];simp only;rw [if_neg (by omega)]
 ·rw [hsz,hl]
  simp only [Bool.or_eq_true,decide_eq_true_eq,Bool.and_eq_true,beq_iff_eq,not_or,not_and];refine ⟨⟨by omega,by omega⟩,fun hh=>?_⟩;intro hlen;by_cases h10:n<10
  ·have:Lib.decDigits n=[UInt8.ofNat (48+n)]:=by rw [Lib.decDigits,dif_pos h10]
   rw [this] at h4;have:=congrArg List.length h4;simp at this;omega
  ·have hh2:(Lib.decDigits n).head?=some 48:=by rw [h4]; exact hh
   by_cases h100:n<100
   ·rw [Lib.decDigits,dif_neg h10,Lib.decDigits,dif_pos (by omega)] at hh2
    have e1:UInt8.ofNat (48+n / 10)=48:=Option.some.inj hh2;have:=congrArg UInt8.toNat e1;rw [UInt8.toNat_ofNat'] at this;have h48:(48:UInt8).toNat=48:=rfl;omega
   ·rw [Lib.decDigits,dif_neg h10,Lib.decDigits,dif_neg (by omega),Lib.decDigits,dif_pos (by omega)] at hh2
    have e1:UInt8.ofNat (48+n / 10 / 10)=48:=Option.some.inj hh2;have:=congrArg UInt8.toNat e1;rw [UInt8.toNat_ofNat'] at this;have h48:(48:UInt8).toNat=48:=rfl;omega
theorem numM_ge (s:ByteArray):numM s = -1∨itoaB (numM s)=s:=by
 unfold numM
 split
 ·split
  ·rename_i h
   have:=eq_of_beq h;rw [ByteArray.toList_eq,ByteArray.toList_eq] at this;exact .inr (Go.WideShapes.bytes_inj this)
  ·exact .inl rfl
 ·exact .inl rfl
theorem num_nat (s:ByteArray):natM s 999=numM s∨(natM s 999 = -1∧(numM s<0∨999<numM s)):=by
 have hg:=natM_ge s;by_cases hn:0≤natM s 999
 ·left
  have hs:=nat_back rfl hn
  obtain ⟨m,hm⟩:∃ m:Nat,natM s 999=m:=⟨(natM s 999).toNat,by omega⟩
  rw [hm] at hs ⊢;rw [hs,numM_itoa m (by omega)]
 ·right
  refine ⟨by omega,?_⟩;by_cases hb:0≤numM s∧numM s≤999
  ·exfalso
   rcases numM_ge s with h | h
   ·omega
   ·obtain ⟨m,hm⟩:∃ m:Nat,numM s=m:=⟨(numM s).toNat,by omega⟩
    rw [hm] at h;have:=natM_itoa m (by omega);rw [h] at this;omega
  ·omega
theorem check_bad {z:Stp} (h:boundB z=true):checkM z≠0:=by
 intro e;obtain ⟨k,_,_,_,h2,_,_⟩:=checkM_ok e;rw [h] at h2
 cases h2
theorem bound_bad {z:Stp} (h:z.a<0∨999<z.a∨z.b<0∨999<z.b):boundB z=true:=by
 unfold boundB;simp only [Bool.or_eq_true,decide_eq_true_eq];omega
theorem parse_same (ws:List ByteArray):parseW ws=rparseW ws:=by
 cases ws with
 |nil=>rfl
 |cons w0 r =>
  cases hk:formK w0 with
  |none=>rw [parseW_no hk,rparseW_no hk]
  |some k =>
   have hk3:=formK_le hk;by_cases hl:r.length=k
   ·rcases hE:(decide (3≤k) && (r.getD 2 ⟨#[]⟩).toList.isEmpty) with _ | _
    ·by_cases hs:stageZ w0 r k=rstageZ w0 r k
     ·by_cases hc:checkM (stageZ w0 r k)=0
      ·rw [parseW_ok hk hl hE hc,rparseW_ok hk hl hE (by rw [← hs]; exact hc),hs]
      ·rw [parseW_bad hk hl hc,rparseW_bad hk hl (by rw [← hs]; exact hc)]
     ·have hx:=num_nat (r.getD 0 ⟨#[]⟩)
      have hy:=num_nat (r.getD 1 ⟨#[]⟩)
      have hb:boundB (stageZ w0 r k)=true∧boundB (rstageZ w0 r k)=true:=by
       unfold stageZ rstageZ at hs ⊢;generalize numM (r.getD 0 ⟨#[]⟩)=a at *;generalize numM (r.getD 1 ⟨#[]⟩)=b at *;generalize natM (r.getD 0 ⟨#[]⟩) 999=a' at *;generalize natM (r.getD 1 ⟨#[]⟩) 999=b' at *
       rcases hx with rfl | ⟨rfl,hx⟩
       ·rcases hy with rfl | ⟨rfl,hy⟩
        ·first | exact absurd rfl hs | exact absurd trivial hs
        ·by_cases h2:2≤k
         ·simp only [if_pos h2]
          exact ⟨bound_bad (by simp only; omega),bound_bad (by simp only; omega)⟩
         ·simp only [if_neg h2] at hs
          first | exact absurd rfl hs | exact absurd trivial hs
       ·by_cases h1:1≤k
        ·simp only [if_pos h1]
         exact ⟨bound_bad (by simp only; omega),bound_bad (by simp only; omega)⟩
        ·simp only [if_neg h1,if_neg (show ¬ 2≤k by omega)] at hs
         first | exact absurd rfl hs | exact absurd trivial hs
      rw [parseW_bad hk hl (check_bad hb.1),rparseW_bad hk hl (check_bad hb.2)]
    ·rw [Bool.and_eq_true,decide_eq_true_eq] at hE
     obtain rfl:k=3:=by omega
     rw [parseW_emp hk hl hE.2,rparseW_emp hk hl hE.2]
   ·rw [parseW_len hk hl,rparseW_len hk hl]
end Go.Proofs.YtagndjihiklmiaaGreatDoor
