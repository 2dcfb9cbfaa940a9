/- held: does a request for a sector wait, or has the disk one? Queue, Busy, Got. -/
import Derived.Test.YtagndjihiklmiaaGreatDoorQ15
import Derived.Deep.CutRange
set_option linter.unusedSimpArgs false
set_option linter.unusedVariables false
set_option maxRecDepth 100000
set_option maxHeartbeats 8000000
namespace Go.Proofs.YtagndjihiklmiaaGreatDoor
open Go.RowKit Go.Sort
def hasR (p:Int) (x:Rq):Bool:=hasB x.lo x.many p
theorem held1_any (S:Nat→Prop) (x:Rq) (v:Value) (B:Nat) (T:TypeId) (p:Int) (w:World) (h:ReqAt S w v x) (hB:w.heap[B]?=some (.cells #[.int .i64 p] T (0,0))) (hx:SpanOk x.lo x.many 4) (hp:0≤p∧p≤31) :
  Calls Tryz.prog 120 #[v,.pointer (some ⟨B,0,none⟩)] w (Ret (.bool (hasR p x)) w):=by
 obtain ⟨Ad,cd,At,ct,rfl,_,_,_,_,_,_,_⟩:=h.opened;obtain ⟨a1,a2,a3,a4,a5⟩:=hx;obtain ⟨b1,b2⟩:=hp
 have hlt:B<w.heap.size:=by
  rcases Nat.lt_or_ge B w.heap.size with h | h
  ·exact h
  ·rw [Array.getElem?_eq_none h] at hB; cases hB
 have c0:∀ o,(w.alloc o).cell? ⟨B,0,none⟩=some (.int .i64 p):=fun o=>cell_of_row _ _ 0 _ _ _ ((Below.heap_alloc _ _ _ hlt).trans hB)
 clear hB h;go_enter Tryz.func120,Tryz.ntmps120;go_wp2_with fail;refine (has_any x.lo x.many p _ a1 (by omega) (by omega) (by omega)).mono ?_;rintro e w1 ⟨rfl,hb1⟩;go_wp2;go_ret;exact ⟨rfl,((Below.refl _ _).alloc (Nat.le_refl _) _).trans (hb1.mono (by simp))⟩
theorem index3_any (S:Nat→Prop) (l:List Rq) (v:Value) (B:Nat) (T:TypeId) (p:Int) (w:World) (h:ReqsAt S w v l) (hB:w.heap[B]?=some (.cells #[.int .i64 p] T (0,0))) (hl:∀ x ∈ l,SpanOk x.lo x.many 4) (hr:0≤p∧p≤31) :
  Calls Tryz.prog 162 #[v,.func (.func 120) #[] #[.pointer (some ⟨B,0,none⟩)]] w (RetIdxB (fun n=>idxTells n (l.any (hasR p))) w):=by
 obtain ⟨A,cap,rfl,h1,h2⟩:=h.form;unfold maxLen at h2;have Hl:=Lib.hid h;have HB:=Lib.hid hB;have Hs:=Lib.hid hl;have Hr:=Lib.hid hr
 have hlt:B<w.heap.size:=by
  rcases Nat.lt_or_ge B w.heap.size with h | h
  ·exact h
  ·rw [Array.getElem?_eq_none h] at hB; cases hB
 clear h hB hl hr;go_enter Tryz.func162,Tryz.ntmps162;go_wp2;go_loopw [8] (fun i wr=>∃ k:Nat,k≤l.length∧i=.int .i64 k∧Below w.heap.size w wr∧Hid ((l.take k).any (hasR p)=false)) (fun i _=>l.length - (intOf i).toNat)
 case atStart=>exact ⟨0,by omega,rfl,Below.refl _ _,rfl⟩
 case round =>
  obtain ⟨k,hk,rfl,hw,hall⟩:=hrel;by_cases hlt:k<l.length
  ·obtain ⟨b,off,rfl,_,hb,hc⟩:=(Hl.out.below hw).at_ (by omega)
   have hx:l[k]?=some l[k]:=List.getElem?_eq_getElem hlt;obtain ⟨Ad,cd,At,ct,hok,k0,k1,k2,k3,k4,k5⟩:=hc k _ hx;have Hok:=Lib.hid hok;clear hc hok;have Hx:=Lib.hid hx;clear hx;generalize l[k]=s at *;have Hsx:=Lib.hid (Hs.out s (List.mem_of_getElem? Hx.out));go_wp2_with fail;refine (held1_any S s _ B T p _ Hok.out ((hw.block _ (by assumption)).trans HB.out) Hsx.out Hr.out).mono ?_;rintro e w1 ⟨rfl,hb1⟩;have hw1:=hw.trans (hb1.mono hw.size);clear k0 k1 k2 k3 k4 k5 hb1
   cases hs:hasR p s with
   |false =>
    have Hm:=Lib.hid hs;clear hs;go_wp2_with fail;go_roundw
    case rel=>exact ⟨k+1,by omega,by go_num,hw1,by show _=false; rw [any_take_succ _ _ _ _ Hx.out,hall.out,Hm.out]; rfl⟩
    case measure=>simp [intOf]; omega
   |true =>
    have Hm:=Lib.hid hs;clear hs;go_wp2_with fail;go_ret;refine ⟨k,rfl,?_,hw1⟩;rw [any_yes _ _ _ _ Hx.out Hm.out];simp [idxTells]
  ·go_wp2
   go_ret;refine ⟨-1,rfl,?_,hw⟩;rw [any_end _ _ _ (by omega) hall.out];simp [idxTells]
theorem contains3_any (S:Nat→Prop) (l:List Rq) (v:Value) (B:Nat) (T:TypeId) (p:Int) (w:World) (h:ReqsAt S w v l) (hB:w.heap[B]?=some (.cells #[.int .i64 p] T (0,0))) (hl:∀ x ∈ l,SpanOk x.lo x.many 4) (hr:0≤p∧p≤31) :
  Calls Tryz.prog 122 #[v,.func (.func 120) #[] #[.pointer (some ⟨B,0,none⟩)]] w (Ret (.bool (l.any (hasR p))) w):=by
 go_enter Tryz.func122,Tryz.ntmps122;go_wp2_with fail;refine (index3_any S l _ B T p _ h hB hl hr).mono ?_;rintro e w1 ⟨n,rfl,hn,hb1⟩;go_wp2_with fail;go_ret;refine ⟨?_,hb1⟩
 cases hb:(l.any (hasR p)) with
 |true=>rw [hb] at hn; have:=hn.2 rfl; simp [this]
 |false=>rw [hb] at hn; have:¬ 0≤n:=fun h=>by cases hn.1 h
         simp; omega
section
variable {S S':Nat→Prop} {w w':World} {v:Value}
theorem Im.of {T:Tys} {col:Nat→Nat} {b bd N:Nat} {x:Sv} {s:St} (h:StAt T col w b bd N x s) (hs:w.heap.size≤w'.heap.size):∀ k,((Im w col k∨w.heap.size≤k)∧k<w'.heap.size)→Im w' col k:=fun k hk=>by
 refine ⟨hk.2,?_⟩;rcases hk.1 with h1 | h1
 ·exact h1.2
 ·rcases Nat.eq_zero_or_pos (col k) with h2 | h2
  ·exact h2
  ·have:=h.lt k (by omega); omega
end
def RetReqs (S:Nat→Prop) (l:List Rq) (w:World):Ending→World→Prop:=fun e w'=>∃ v,e=.returned v∧ReqsAt (fun b=>S b∨w.heap.size≤b) w' v l∧Below w.heap.size w w'
theorem stbusy_any (col:Nat→Nat) (w:World) (b bd N:Nat) (x:Sv) (s:St) (h:StAt Ts col w b bd N x s) (h2:s.v.d.l.length≤2) :
  Calls Tryz.prog 54 #[.pointer (some ⟨b,0,none⟩)] w (RetReqs (Im w col) s.v.d.l w):=by
 have c0:w.cell? ⟨b,0,none⟩=some (.pointer (some ⟨bd,0,none⟩)):=h.cell 0;have H:=Lib.hid h;clear h;go_enter Tryz.func54,Tryz.ntmps54;go_wp2_with fail;refine (devbusy_any _ _ _ bd _ H.out.drv.dev h2).mono ?_;rintro e w1 ⟨v1,rfl,hv1,hb1⟩;go_wp2_with fail;go_ret;exact ⟨v1,rfl,hv1,hb1⟩
theorem stqueue_any (col:Nat→Nat) (w:World) (b bd N:Nat) (x:Sv) (s:St) (h:StAt Ts col w b bd N x s) (h6:s.wait.length≤6) :
  Calls Tryz.prog 53 #[.pointer (some ⟨b,0,none⟩)] w (RetReqs (Im w col) s.wait w):=by
 have c3:w.cell? ⟨b,3,none⟩=some x.wait:=h.cell 3;obtain ⟨cs,hcs,hrd,hok⟩:=h.wait
 have hlen:cs.length≤65536:=by have:s.wait.length=cs.length:=by rw [← hcs,List.length_map]
                               omega
 have hone:∀ u ∈ cs.flatMap Rc.cells,u.oneCell'=true:=fun u hu=>by
  obtain ⟨c,hc,hu⟩:=List.mem_flatMap.1 hu;exact rc_one _ (hok c hc) u hu
 have Hrd:=Lib.hid hrd;have Hok:=Lib.hid hok;have Hcs:=Lib.hid hcs;clear h hrd hok hcs;go_enter Tryz.func53,Tryz.ntmps53;go_wp2_with fail;refine (clone_any _ _ cs.length _ _ Hrd.out hone hlen).mono ?_;rintro e w1 ⟨v1,rfl,hown,hb1⟩;have Hown:=Lib.hid hown;clear hown;go_wp2_with fail;go_ret;exact ⟨v1,rfl,⟨cs,Hcs.out,Rd.of_own w1 (fun k hk=>.inr hk) Hown.out,fun c hc=>((Hok.out c hc).below hb1).more (fun k hk=>.inl hk)⟩,hb1⟩
theorem held_any (col:Nat→Nat) (w:World) (b bd N:Nat) (x:Sv) (s:St) (p:Int) (h:StAt Ts col w b bd N x s) (hw:∀ r ∈ s.wait,SpanOk r.lo r.many 4) (hl:∀ r ∈ s.v.d.l,SpanOk r.lo r.many 4) (h2:s.v.d.l.length≤2) (hp:0≤p∧p≤31) :
  Calls Tryz.prog 82 #[.pointer (some ⟨b,0,none⟩),.int .i64 p] w (Ret (.bool (s.heldP p)) w):=by
 have H:=Lib.hid h;have Hw:=Lib.hid hw;have Hl:=Lib.hid hl;have Hp:=Lib.hid hp;have e:s.heldP p=(s.wait.any (hasR p) || s.v.d.l.any (hasR p)):=rfl;have He:=Lib.hid e;rw [e];clear h hw hl hp e
 obtain ⟨n0,hn0⟩:∃ n,w.heap.size=n:=⟨_,rfl⟩
 have hb0:=(Below.refl w.heap.size w).alloc (Nat.le_refl _) (.cells #[.int .i64 p] 3);have hrow:=heap_alloc_new w (.cells #[.int .i64 p] 3);rw [hn0] at hrow;have H1:=Lib.hid (H.out.below hb0);have c3:=H1.out.cell 3;have c0:=H1.out.cell 0;rw [show (x.row s bd)[3]?=some x.wait from rfl] at c3;rw [show (x.row s bd)[0]?=some (.pointer (some ⟨bd,0,none⟩)) from rfl] at c0;have Hb0:=Lib.hid hb0;have Hrow:=Lib.hid hrow;clear hb0 hrow
 cases hA:s.wait.any (hasR p) with
 |true =>
  go_enter Tryz.func82,Tryz.ntmps82;go_wp2_with fail;refine (contains3_any _ s.wait _ n0 3 p _ H1.out.wait Hrow.out Hw.out Hp.out).mono ?_;rw [hA];rintro e w1 ⟨rfl,hb1⟩;clear c3 c0;go_wp2_with fail;go_ret;exact ⟨rfl,Hb0.out.trans (hb1.mono Hb0.out.size)⟩
 |false =>
  go_enter Tryz.func82,Tryz.ntmps82;go_wp2_with fail;refine (contains3_any _ s.wait _ n0 3 p _ H1.out.wait Hrow.out Hw.out Hp.out).mono ?_;rw [hA];rintro e w1 ⟨rfl,hb1⟩;have H2:=Lib.hid (H1.out.below hb1);have Hb1:=Lib.hid hb1;clear c3 c0 hb1;have c0:=H2.out.cell 0;rw [show (x.row s bd)[0]?=some (.pointer (some ⟨bd,0,none⟩)) from rfl] at c0;go_wp2_with fail;refine (devbusy_any _ _ _ bd _ H2.out.drv.dev h2).mono ?_;rintro e w2 ⟨v2,rfl,hv2,hb2⟩;have Hv2:=Lib.hid hv2;have Hr2:=Lib.hid ((hb2.block _ (Array.getElem?_eq_some_iff.1 ((Hb1.out.block _ (Array.getElem?_eq_some_iff.1 Hrow.out).1).trans Hrow.out)).1).trans ((Hb1.out.block _ (Array.getElem?_eq_some_iff.1 Hrow.out).1).trans Hrow.out));have Hb2:=Lib.hid hb2;clear hv2 hb2 c0;go_wp2_with fail;refine (contains3_any _ s.v.d.l _ n0 3 p _ Hv2.out Hr2.out Hl.out Hp.out).mono ?_;rintro e w3 ⟨rfl,hb3⟩;have hb4:=Hb0.out.trans ((Hb1.out.trans ((Hb2.out.trans (hb3.mono Hb2.out.size)).mono Hb1.out.size)).mono Hb0.out.size);clear hb3;go_wp2_with fail;go_ret;exact ⟨rfl,hb4⟩
theorem held_by (col:Nat→Nat) (w:World) (b bd N:Nat) (x:Sv) (s:St) (h:StAt Ts col w b bd N x s) (hi:∀ r ∈ s.wait ++ s.v.d.l,ReqOk r) (h2:s.v.d.l.length≤2):HeldBy w 82 #[.pointer (some ⟨b,0,none⟩)] #[] s.heldP :=
 ⟨enters Tryz.func82 (by kernel_rfl) rfl,fun w' p hb h0 h1=>held_any col w' b bd N x s p (h.below hb) (fun r hr=>(hi r (List.mem_append.2 (.inl hr))).span) (fun r hr=>(hi r (List.mem_append.2 (.inr hr))).span) h2 ⟨h0,h1⟩⟩
def Sv.dn (x:Sv):Nat→ByteArray
 |0=>x.d0
 |1=>x.d1
 |_=>x.d2
def Sv.er (x:Sv):Nat→Nat
 |0=>x.e0
 |1=>x.e1
 |_=>x.e2
theorem StAt.got_eq {T:Tys} {col:Nat→Nat} {w:World} {b bd N:Nat} {x:Sv} {s:St} (h:StAt T col w b bd N x s) {c:Nat} (hc:c<3):s.got c=if x.er c=0 then (x.dn c,0) else (noB,x.er c):=by
 unfold St.got;rw [h.done,h.errs]
 match c,hc with | 0,_=>rfl | 1,_=>rfl | 2,_=>rfl
theorem got_any (col:Nat→Nat) (w:World) (b bd N:Nat) (x:Sv) (s:St) (c:Nat) (h:StAt Ts col w b bd N x s) (hc:c<3) :
  Calls Tryz.prog 79 #[.pointer (some ⟨b,0,none⟩),.int .i64 (c:Int)] w (Ret (.tuple #[.string (s.got c).1,errV (s.got c).2]) w):=by
 rw [h.got_eq hc]
 match c,hc with
 |0,_ =>
  have c1:w.cell? ⟨b,14,none⟩=some (.string (x.dn 0)):=h.cell 14;have c2:w.cell? ⟨b,17,none⟩=some (.int .i64 (x.er 0:Int)):=h.cell 17;clear h;generalize x.dn 0=D at *;generalize x.er 0=E at *;by_cases he:E=0
  ·subst he
   go_enter Tryz.func79,Tryz.ntmps79;go_wp2_with fail;go_ret2;exact ⟨rfl,Below.refl _ _⟩
  ·have hne:((E:Int) != 0)=true:=by simp; omega
   rw [if_neg he,errV_pos he];go_enter Tryz.func79,Tryz.ntmps79;go_wp2_with fail;go_quiet (fail);go_wp2_with fail;go_ret2;exact ⟨rfl,belowN (Below.refl _ _) _⟩
 |1,_ =>
  have c1:w.cell? ⟨b,15,none⟩=some (.string (x.dn 1)):=h.cell 15;have c2:w.cell? ⟨b,18,none⟩=some (.int .i64 (x.er 1:Int)):=h.cell 18;clear h;generalize x.dn 1=D at *;generalize x.er 1=E at *;by_cases he:E=0
  ·subst he
   go_enter Tryz.func79,Tryz.ntmps79;go_wp2_with fail;go_ret2;exact ⟨rfl,Below.refl _ _⟩
  ·have hne:((E:Int) != 0)=true:=by simp; omega
   rw [if_neg he,errV_pos he];go_enter Tryz.func79,Tryz.ntmps79;go_wp2_with fail;go_quiet (fail);go_wp2_with fail;go_ret2;exact ⟨rfl,belowN (Below.refl _ _) _⟩
 |2,_ =>
  have c1:w.cell? ⟨b,16,none⟩=some (.string (x.dn 2)):=h.cell 16;have c2:w.cell? ⟨b,19,none⟩=some (.int .i64 (x.er 2:Int)):=h.cell 19;clear h;generalize x.dn 2=D at *;generalize x.er 2=E at *;by_cases he:E=0
  ·subst he
   go_enter Tryz.func79,Tryz.ntmps79;go_wp2_with fail;go_ret2;exact ⟨rfl,Below.refl _ _⟩
  ·have hne:((E:Int) != 0)=true:=by simp; omega
   rw [if_neg he,errV_pos he];go_enter Tryz.func79,Tryz.ntmps79;go_wp2_with fail;go_quiet (fail);go_wp2_with fail;go_ret2;exact ⟨rfl,belowN (Below.refl _ _) _⟩
end Go.Proofs.YtagndjihiklmiaaGreatDoor
namespace Go.Proofs.YtagndjihiklmiaaGreatDoor
open Go.RowKit Go.Sort
def Avs (x y:Sv) (t:St):Prop:=∀ j,j<3→y.av j=x.av j∨t.askAt j=none
theorem Avs.refl {x:Sv} {t:St}:Avs x x t:=fun _ _=>.inl rfl
theorem Avs.wait {x:Sv} {t:St} {v:Value}:Avs x { x with wait:=v } t:=fun _ _=>.inl (by unfold Sv.av; split <;> rfl)
theorem Avs.bufs {x:Sv} {t:St} {v:Value}:Avs x { x with bufs:=v } t:=fun _ _=>.inl (by unfold Sv.av; split <;> rfl)
theorem Avs.ans {x y:Sv} {t:St} {c:Nat} {d:ByteArray} {e:Nat} (h:Avs x y t) (h3:t.asks.length=3) (hc:c<3):Avs x (y.ans c d e) (t.answer c d e):=fun j hj=>by
 rw [askAt_answer h3 hc];by_cases hj':j=c
 ·right; rw [if_pos hj']
 ·rw [if_neg hj']
  refine (h j hj).imp (fun h=>?_) id;rw [← h]
  match c,hc,j,hj with
  |0,_,0,_=>exact absurd rfl hj'
  |0,_,1,_=>rfl
  |0,_,2,_=>rfl
  |1,_,0,_=>rfl
  |1,_,1,_=>exact absurd rfl hj'
  |1,_,2,_=>rfl
  |2,_,0,_=>rfl
  |2,_,1,_=>rfl
  |2,_,2,_=>exact absurd rfl hj'
theorem Avs.trans {x y z:Sv} {t u:St} (h:Avs x y t) (k:Avs y z u) (hn:∀ j,t.askAt j=none→u.askAt j=none):Avs x z u:=fun j hj=>by
 rcases k j hj with k | k
 ·rcases h j hj with h | h
  ·exact .inl (k.trans h)
  ·exact .inr (hn j h)
 ·exact .inr k
def Ret2 (T:Tys) (col:Nat→Nat) (w:World) (b bd N:Nat) (x:Sv) (t:St) (v:Value):Ending→World→Prop:=fun e w'=>∃ y,e=.returned v∧StAt T col w' b bd N y t∧Chg (fun k=>k=b) w w'∧Avs x y t
def S0 (col:Nat→Nat):Nat→Prop:=fun k=>col k=0
theorem rd_1 {S:Nat→Prop} {w:World} {b:Nat} {T:TypeId} {u:Value} (hb:w.heap[b]?=some (.cells #[u] T (0,0))) (hS:S b):Rd S w 1 (.slice (some ⟨b,0,none⟩) 1 1) 1 [u] :=
 ⟨_,_,rfl,by omega,by simp [maxLen],rfl,fun _=>⟨b,0,rfl,hS,fun j v hv=>by rw [Nat.zero_add,cell_of_row _ _ _ _ _ _ hb]; simpa using hv⟩⟩
section
variable {T:Tys} {col:Nat→Nat} {w w1 w2 w':World} {b bd N:Nat} {x:Sv} {s:St}
theorem StAt.s0 (h:StAt T col w b bd N x s):∀ k,w.heap.size≤k→S0 col k:=fun k hk=>by
 rcases Nat.eq_zero_or_pos (col k) with h2 | h2
 ·exact h2
 ·have:=h.lt k (by omega); omega
theorem S0.im {v:Value} {l:List Rq} (h:ReqsAt (S0 col) w v l):ReqsAt (Im w col) w v l:=h.lt.more (fun k hk=>⟨hk.2,hk.1⟩)
theorem StAt.queued (h:StAt T col w b bd N x s) (hb:Same1 b w w') {v:Value} {l:List Rq} {t:Int} (hv:ReqsAt (S0 col) w v l) (hrow:w'.heap[b]?=some (.cells (({ x with wait:=v }:Sv).row { s with wait:=l,tag:=t } bd) T.S (0,0))) :
  StAt T col w' b bd N { x with wait:=v } { s with wait:=l,tag:=t }:=by
 refine h.turn1 hb hrow rfl rfl rfl rfl h.bufs (S0.im hv) h.asks (fun c hc=>?_) h.done h.errs;have:=h.ask c hc
 match c,hc with | 0,_=>exact this | 1,_=>exact this | 2,_=>exact this
end
def Kq (b q n:Nat) (xw vd:Value) (wb:Bool) (p t:Int) (u:World):Prop:=u.cell? ⟨b,3,none⟩=some xw∧u.cell? ⟨q,0,none⟩=some (.bool wb)∧u.cell? ⟨q,1,none⟩=some (.int .i64 p)∧u.cell? ⟨q,2,none⟩=some (.int .i64 1)∧u.cell? ⟨q,3,none⟩=some vd∧u.cell? ⟨q,4,none⟩=some (.slice (some ⟨n,0,none⟩) 1 1)∧u.cell? ⟨q,5,none⟩=some (.int .i64 t)
theorem Kq.b {b q n:Nat} {xw vd:Value} {wb:Bool} {p t:Int} {u u':World} (h:Kq b q n xw vd wb p t u) (hb:Below u.heap.size u u'):Kq b q n xw vd wb p t u':=by
 obtain ⟨h0,h1,h2,h3,h4,h5,h6⟩:=h;exact ⟨cell_b hb h0,cell_b hb h1,cell_b hb h2,cell_b hb h3,cell_b hb h4,cell_b hb h5,cell_b hb h6⟩
theorem req_mk {col:Nat→Nat} {s:St} {wb:Bool} {p:Int} {d:ByteArray} {n:Nat} {u:World} {vd:Value} {l:List ByteArray} (hr:s.reqOf wb p d=⟨wb,p,1,l,[s.tag+1],s.now⟩) (hn:u.heap[n]?=some (.cells #[.int .i64 (s.tag+1)] 3 (0,0))) (hs:S0 col n) (hl:StrsAt (S0 col) u vd l) (ht:0≤s.tag∧s.tag≤1000000000) (hw:0≤s.now∧s.now≤1000000000) (hp:0≤p∧p≤31) :
  ReqAt (S0 col) u (.agg #[.bool wb,.int .i64 p,.int .i64 1,vd,.slice (some ⟨n,0,none⟩) 1 1,.int .i64 s.now]) (s.reqOf wb p d):=by
 rw [hr];exact ⟨⟨⟨wb,p,1,l,[s.tag+1],s.now⟩,vd,.slice (some ⟨n,0,none⟩) 1 1⟩,rfl,rfl,hl,⟨rd_1 hn hs,fun y hy=>by simp at hy; subst hy; omega⟩,by unfold i64; simp only; omega,by unfold i64; simp only; omega,by unfold i64; simp only; omega⟩
theorem queue_any (col:Nat→Nat) (w:World) (b bd N:Nat) (x:Sv) (s:St) (wb:Bool) (p:Int) (d:ByteArray) (h:StAt Ts col w b bd N x s) (hi:∀ r ∈ s.wait,ReqOk r) (h6:s.wait.length≤6) (ht:0≤s.tag∧s.tag≤1000000000) (hn:0≤s.now∧s.now≤1000000000) (hp:0≤p∧p≤31) (hd:d.size≤16) :
  Calls Tryz.prog 84 #[.pointer (some ⟨b,0,none⟩),.bool wb,.int .i64 p,.string d] w (Ret2 Ts col w b bd N x (s.queue wb p d).1 (.bool (s.queue wb p d).2)):=by
 have H:=Lib.hid h;have Hi:=Lib.hid hi;have H6:=Lib.hid h6;have c8:w.cell? ⟨b,8,none⟩=some (.int .i64 s.now):=h.cell 8;have c10:w.cell? ⟨b,10,none⟩=some (.int .i64 s.tag):=h.cell 10;have hw:IntKind.i64.wrap (s.tag+1)=s.tag+1:=by rw [IntKind.wrap_i64]; omega
 have hbl:=h.bl;have Hs0:=Lib.hid h.s0;have Hmk:=Lib.hid (fun n u vd l (hr:s.reqOf wb p d=⟨wb,p,1,l,[s.tag+1],s.now⟩) hn' hs (hl:StrsAt (S0 col) u vd l)=>req_mk (n:=n) hr hn' hs hl ht hn hp)
 obtain ⟨rq,hrq⟩:∃ r,s.reqOf wb p d=r:=⟨_,rfl⟩
 have Hrq:=Lib.hid hrq;clear h hi h6 hrq;go_enter Tryz.func84,Tryz.ntmps84;go_wp2_with fail;go_region
 focus
  have L:=((((LayF.refl (fun _=>False) w).alloc' (w.heap.size) #[.int .i64 (s.tag+1)] 3 rfl).alloc' (w.heap.size+1) #[.bool wb,.int .i64 p,.int .i64 1,.slice none 0 0,.slice (some ⟨w.heap.size,0,none⟩) 1 1,.int .i64 s.now] 117 (by simp)).drew)
  have h1:=L.chg.below (fun _ h=>h.elim) (Nat.le_refl _);have h2:=L.at_ 0 rfl;have h3:=L.at_ 1 rfl;clear L;generalize World.drew _=W1 at h1 h2 h3 ⊢
  obtain ⟨q,hq⟩:∃ q,w.heap.size+1=q:=⟨_,rfl⟩
  obtain ⟨n,hn⟩:∃ n,w.heap.size=n:=⟨_,rfl⟩
  have Hqn:Hid (w.heap.size≤q∧w.heap.size≤n∧n≠q):=show _∧_ from ⟨by omega,by omega,by omega⟩;have HB1:=Lib.hid h1;rw [hq,hn] at h2;rw [hn] at h3;rw [hq,hn];have HQ:=Lib.hid h2;have HN:=Lib.hid h3;clear h1 h2 h3 hq hn
 rotate_left
 focus
  have L:=((((LayF.refl (fun _=>False) w).alloc' (w.heap.size) #[.bool wb,.int .i64 p,.int .i64 1,.slice none 0 0,.slice (some ⟨w.heap.size+1,0,none⟩) 1 1,.int .i64 s.now] 117 rfl).alloc' (w.heap.size+1) #[.int .i64 (s.tag+1)] 3 (by simp)).drew)
  have h1:=L.chg.below (fun _ h=>h.elim) (Nat.le_refl _);have h2:=L.at_ 1 rfl;have h3:=L.at_ 0 rfl;clear L;generalize World.drew _=W1 at h1 h2 h3 ⊢
  obtain ⟨n,hn⟩:∃ q,w.heap.size+1=q:=⟨_,rfl⟩
  obtain ⟨q,hq⟩:∃ n,w.heap.size=n:=⟨_,rfl⟩
  have Hqn:Hid (w.heap.size≤q∧w.heap.size≤n∧n≠q):=show _∧_ from ⟨by omega,by omega,by omega⟩;have HB1:=Lib.hid h1;rw [hn,hq] at h2;rw [hn] at h3;rw [hn,hq];have HQ:=Lib.hid h2;have HN:=Lib.hid h3;clear h1 h2 h3 hq hn
 all_goals
  clear c8 c10;go_upto_if 26 with fail
  go_cut [] from 27 to 54 (fun wx=>∃ vd,Hid (Below w.heap.size w wx)∧Hid (wx.heap[q]?=some (.cells #[.bool wb,.int .i64 p,.int .i64 1,vd,.slice (some ⟨n,0,none⟩) 1 1,.int .i64 s.now] 117 (0,0)))∧Hid (ReqAt (S0 col) wx (.agg #[.bool wb,.int .i64 p,.int .i64 1,vd,.slice (some ⟨n,0,none⟩) 1 1,.int .i64 s.now]) rq))
  case first =>
   have hql:=(Array.getElem?_eq_some_iff.1 HQ.out).1;have hnl:=(Array.getElem?_eq_some_iff.1 HN.out).1
   cases wb
   ·go_wp2_with fail
    go_meet
    case rel=>exact ⟨_,HB1.out,HQ.out,by rw [← Hrq.out]; exact Hmk.out n _ _ [] rfl HN.out (Hs0.out _ Hqn.out.2.1) ⟨Rd.nil,by simp⟩⟩
   ·have f3:=frozen_of_row _ _ 3 _ _ HQ.out
    have q3:W1.cell? ⟨q,3,none⟩=some (.slice none 0 0):=cell_of_row _ _ 3 _ _ _ HQ.out;go_wp2_with fail;go_meet
    case rel =>
     have e:(W1.setCell ⟨q,3,none⟩ (.slice (some ⟨W1.heap.size,0,none⟩) 1 1)).heap.size=W1.heap.size:=by simp
     refine ⟨_,(HB1.out.setCell (p:=⟨q,3,none⟩) Hqn.out.1 _).alloc (by rw [e]; exact HB1.out.size) _,(Below.heap_alloc _ _ _ (by rw [e]; exact hql)).trans (heap_setCell_same _ _ 3 _ _ _ HQ.out),?_⟩;rw [← Hrq.out];exact Hmk.out n _ _ [d] rfl ((Below.heap_alloc _ _ _ (by rw [e]; exact hnl)).trans ((heap_setCell_other _ _ n _ (by simpa using Hqn.out.2.2)).trans HN.out)) (Hs0.out _ Hqn.out.2.1) ⟨rd_1 (e▸heap_alloc_new _ _) (Hs0.out _ HB1.out.size),fun y hy=>by simp at hy; subst hy; simp only [maxLen]; omega⟩
  case rest =>
   obtain ⟨vd,HB,HR,hrq⟩:=hcut;clear HQ HN HB1;have H3:=Lib.hid (H.out.below HB.out);have H3d:=Lib.hid (H3.out.below (Below.refl _ _).drew);have Hrqa:=Lib.hid (hrq.out.below (Below.refl _ _).drew);have HWt:Hid (ReqsAt (S0 col) wc.drew x.wait s.wait):=H3d.out.wait.more (fun k hk=>hk.2);have Hsz0:=Lib.hid H3d.out.s0;have H6':Hid (s.wait.length≤60000):=show _≤_ by have:=H6.out; omega
   have K0:Kq b q n x.wait vd wb p s.now wc.drew:=⟨H3.out.cell 3,cell_of_row _ _ 0 _ _ _ HR.out,cell_of_row _ _ 1 _ _ _ HR.out,cell_of_row _ _ 2 _ _ _ HR.out,cell_of_row _ _ 3 _ _ _ HR.out,cell_of_row _ _ 4 _ _ _ HR.out,cell_of_row _ _ 5 _ _ _ HR.out⟩
   clear hrq;go_wp2_with fail
   go_region_held3 (fun u=>u.cell? ⟨b,3,none⟩=some x.wait∧u.cell? ⟨q,0,none⟩=some (.bool wb)∧u.cell? ⟨q,1,none⟩=some (.int .i64 p)∧u.cell? ⟨q,2,none⟩=some (.int .i64 1)∧u.cell? ⟨q,3,none⟩=some vd∧u.cell? ⟨q,4,none⟩=some (.slice (some ⟨n,0,none⟩) 1 1)∧u.cell? ⟨q,5,none⟩=some (.int .i64 s.now))
    (first | exact K1 | exact K0)
    (first
     |((with_reducible refine (add_any (S0 col) s.wait rq _ _ _ Hsz0.out HWt.out Hrqa.out Hi.out H6'.out).mono ?_); rintro e u1 ⟨v1,rfl,hv1,hb1⟩; have HB1:=Lib.hid hb1; have Hv1:=Lib.hid hv1; have K1:=K0.b hb1; clear hv1 hb1)
     |fail)
   have H4:=Lib.hid (H3d.out.below HB1.out);have c10:=H4.out.cell 10;have c3':=H4.out.cell 3;rw [show (x.row s bd)[10]?=some (.int .i64 s.tag) from rfl] at c10;rw [show (x.row s bd)[3]?=some x.wait from rfl] at c3';have f3:=H4.out.frozen 3;have f10:=H4.out.frozen 10;have HC:Hid (Chg (fun k=>k=b) w u1):=show Chg _ _ _ from Chg.of_below (HB.out.trans (((Below.refl _ _).drew.trans HB1.out).mono HB.out.size));clear K0 K1;have hqe:s.queue wb p d=if (addM s.wait rq).2=0 then ({ s with wait:=(addM s.wait rq).1,tag:=s.tag+1 },true) else (s,false):=by rw [← Hrq.out]; rfl
   by_cases h0:(addM s.wait rq).2=0
   ·rw [if_pos h0] at hqe
    have Hqe:=Lib.hid hqe;rw [h0];have he0:=errV_zero;obtain ⟨A1,cp1,e1,_,_⟩:=Hv1.out.form;subst e1;clear hqe h0;go_wp2_with fail;go_ret;rw [Hqe.out];have hS:=((Same1.refl (b:=b) (w:=u1)).setCell 3 (.slice A1 (addM s.wait rq).1.length cp1)).setCell 10 (.int .i64 (s.tag+1));exact ⟨_,rfl,H4.out.queued hS Hv1.out (heap_setCell_same _ _ 10 _ _ _ (heap_setCell_same _ _ 3 _ _ _ H4.out.row)),HC.out.trans ((hS.chg (F:=fun k=>k=b) rfl).mono (fun k hk=>.inl hk)),.wait⟩
   ·rw [if_neg h0] at hqe
    have Hqe:=Lib.hid hqe;have hb0:((addM s.wait rq).2 == 0)=false:=by simpa using h0
    clear hqe h0;go_wp2_with fail;go_ret;rw [Hqe.out];exact ⟨_,rfl,H4.out,HC.out,.refl⟩
end Go.Proofs.YtagndjihiklmiaaGreatDoor
namespace Go.Proofs.YtagndjihiklmiaaGreatDoor
theorem bestB_none {ok:Bf→Bool} {l:List Bf}:∀ {n:Nat},bestB ok l n<0→∀ i x,i<n→l[i]?=some x→ok x=false
 |0,_,i,x,hi,_=>by omega
 |n+1,h,i,x,hi,hx=>by
  rcases Nat.eq_or_lt_of_le (Nat.le_of_lt_succ hi) with e | e
  ·subst e
   cases ho:ok x with
   |false=>rfl
   |true =>
    exfalso;by_cases hb:bestB ok l i<0
    ·rw [bestB_first hx ho hb] at h; omega
    ·rw [bestB,hx] at h
     simp only at h
     split at h <;> omega
  ·refine bestB_none (n:=n) ?_ i x e hx
   rw [bestB] at h
   cases hn:l[n]? with
   |none=>simpa [hn] using h
   |some r =>
    rw [hn] at h;simp only at h
    split at h
    ·omega
    ·exact h
theorem bestB_some {ok:Bf→Bool} {l:List Bf}:∀ {n j:Nat},bestB ok l n=(j:Int)→∃ x,l[j]?=some x∧ok x=true∧∀ i y,i<n→l[i]?=some y→ok y=true→x.used≤y.used
 |0,j,h=>by simp [bestB] at h
 |n+1,j,h=>by
  cases hn:l[n]? with
  |none =>
   have e:bestB ok l (n+1)=bestB ok l n:=by rw [bestB,hn]
   rw [e] at h;obtain ⟨x,h1,h2,h3⟩:=bestB_some h;refine ⟨x,h1,h2,fun i y hi hy ho=>?_⟩;rcases Nat.eq_or_lt_of_le (Nat.le_of_lt_succ hi) with e | e
   ·subst e; rw [hn] at hy; cases hy
   ·exact h3 i y e hy ho
  |some r =>
   by_cases ho:ok r=true
   ·by_cases hb:bestB ok l n<0
    ·rw [bestB_first hn ho hb] at h
     obtain rfl:n=j:=by omega
     refine ⟨r,hn,ho,fun i y hi hy hoy=>?_⟩;rcases Nat.eq_or_lt_of_le (Nat.le_of_lt_succ hi) with e | e
     ·subst e; rw [hn] at hy; cases hy; exact Int.le_refl _
     ·have:=bestB_none hb i y e hy; rw [this] at hoy; cases hoy
    ·obtain ⟨k,hk⟩:∃ k:Nat,bestB ok l n=(k:Int):=⟨(bestB ok l n).toNat,by omega⟩
     obtain ⟨x,h1,h2,h3⟩:=bestB_some hk;by_cases hl:r.used<x.used
     ·rw [bestB_less hn ho hk h1 hl] at h
      obtain rfl:n=j:=by omega
      refine ⟨r,hn,ho,fun i y hi hy hoy=>?_⟩;rcases Nat.eq_or_lt_of_le (Nat.le_of_lt_succ hi) with e | e
      ·subst e; rw [hn] at hy; cases hy; exact Int.le_refl _
      ·have:=h3 i y e hy hoy; omega
     ·rw [bestB_more hn hk h1 hl] at h
      obtain rfl:k=j:=by omega
      refine ⟨x,h1,h2,fun i y hi hy hoy=>?_⟩;rcases Nat.eq_or_lt_of_le (Nat.le_of_lt_succ hi) with e | e
      ·subst e; rw [hn] at hy; cases hy; omega
      ·exact h3 i y e hy hoy
   ·have ho:ok r=false:=by simpa using ho
    rw [bestB_no hn ho] at h;obtain ⟨x,h1,h2,h3⟩:=bestB_some h;refine ⟨x,h1,h2,fun i y hi hy hoy=>?_⟩;rcases Nat.eq_or_lt_of_le (Nat.le_of_lt_succ hi) with e | e
    ·subst e; rw [hn] at hy; cases hy; rw [ho] at hoy; cases hoy
    ·exact h3 i y e hy hoy
theorem getB_mem {l:List Bf} (h:Rises l) {x:Bf} (hx:x ∈ l):getB l x.pos=(x,true):=by
 obtain ⟨i,hi⟩:=List.mem_iff_getElem?.1 hx;exact getB_of h hi rfl
theorem mem_insB {l:List Bf} {b y:Bf}:y ∈ insB l b↔y=b∨y ∈ l:=by
 unfold insB;constructor
 ·intro h
  rcases List.mem_append.1 h with h | h
  ·exact .inr (List.mem_of_mem_take h)
  ·rcases List.mem_cons.1 h with rfl | h
   ·exact .inl rfl
   ·exact .inr (List.mem_of_mem_drop h)
 ·rintro (rfl | h)
  ·simp
  ·have:=List.take_append_drop (posB l b.pos) l
   rw [← this] at h;rcases List.mem_append.1 h with h | h
   ·exact List.mem_append.2 (.inl h)
   ·exact List.mem_append.2 (.inr (List.mem_cons_of_mem _ h))
theorem insB_length (l:List Bf) (b:Bf):(insB l b).length=l.length+1:=by
 have:=posB_le l b.pos;unfold insB; simp; omega
structure PutSpec (l m:List Bf) (b:Bf) (held:Int→Bool) (J:Nat):Prop where
 rises:Rises m
 len:m.length≤8
 own:getB m b.pos=(b,true)
 stay:∀ i x,l[i]?=some x→x.pos≠b.pos→i≠J→getB m x.pos=(x,true)
 gone:∀ x,l[J]?=some x→x.pos≠b.pos∧getB m x.pos=(zeroBf,false)∧x.dirty=false∧held x.pos=false∧l.length=8∧∀ (k:Nat) (y:Bf),l[k]?=some y→y.dirty=false→held y.pos=false→x.used≤y.used
theorem put_spec {l m:List Bf} {b:Bf} {held:Int→Bool} (hr:Rises l) (h8:l.length≤8) (hp:putB l b held=some m):∃ J,PutSpec l m b held J:=by
 have hrm:=putB_rises hr hp;unfold putB at hp
 cases hi:isB l b.pos with
 |true =>
  rw [hi,if_pos rfl] at hp
  cases hp
  refine ⟨l.length,hrm,by simpa using h8,?_,fun i x hx hne _=>?_,fun x hx=>by simp at hx⟩
  ·refine getB_mem hrm ?_
   obtain ⟨c,hc,hcp⟩:=isB_iff.1 hi;exact List.mem_map.2 ⟨c,hc,if_pos hcp⟩
  ·exact getB_mem hrm (List.mem_map.2 ⟨x,List.mem_of_getElem? hx,if_neg hne⟩)
 |false =>
  rw [hi,if_neg (by simp)] at hp;by_cases hl8:8≤l.length
  ·rw [if_pos hl8] at hp
   by_cases hv:leastB l false held<0
   ·rw [if_pos hv] at hp; cases hp
   ·rw [if_neg hv] at hp
    cases hp
    obtain ⟨j,hj⟩:∃ j:Nat,leastB l false held=(j:Int):=⟨(leastB l false held).toNat,by omega⟩
    rw [hj,Int.toNat_natCast] at hrm ⊢;obtain ⟨x,hx,hox,hmin⟩:=bestB_some hj;have hjl:=(List.getElem?_eq_some_iff.1 hx).1;refine ⟨j,hrm,?_,getB_mem hrm (mem_insB.2 (.inl rfl)),fun i y hy hne hij=>?_,fun y hy=>?_⟩
    ·rw [insB_length,List.length_eraseIdx_of_lt hjl]; omega
    ·refine getB_mem hrm (mem_insB.2 (.inr ?_))
     exact List.mem_eraseIdx_iff_getElem?.2 ⟨i,hij,hy⟩
    ·rw [hx] at hy
     cases hy
     simp at hox;refine ⟨isB_false.1 hi x (List.mem_of_getElem? hx),getB_no (isB_false.2 fun y hy=>?_),hox.1,hox.2,by omega,fun k y hy hd hh=>hmin k y (List.getElem?_eq_some_iff.1 hy).1 hy (by simp [hd,hh])⟩;rcases mem_insB.1 hy with rfl | hy
     ·exact fun e=>isB_false.1 hi x (List.mem_of_getElem? hx) e.symm
     ·obtain ⟨i,hij,hy⟩:=List.mem_eraseIdx_iff_getElem?.1 hy
      exact fun e=>hij (hr.inj hy hx e)
  ·rw [if_neg hl8] at hp
   cases hp
   refine ⟨l.length,hrm,by rw [insB_length]; omega,getB_mem hrm (mem_insB.2 (.inl rfl)),fun i x hx hne _=>getB_mem hrm (mem_insB.2 (.inr (List.mem_of_getElem? hx))),fun x hx=>by simp at hx⟩
theorem pick_some {l:List Bf} {held:Int→Bool} (hr:Rises l) (h:¬ pickB l held<0):∃ x ∈ l,x.pos=pickB l held∧getB l (pickB l held)=(x,true)∧x.dirty=true∧held x.pos=false∧∀ y ∈ l,y.dirty=true→held y.pos=false→x.used≤y.used:=by
 unfold pickB at h ⊢;by_cases hv:leastB l true held<0
 ·rw [if_pos hv] at h; omega
 ·rw [if_neg hv]
  obtain ⟨j,hj⟩:∃ j:Nat,leastB l true held=(j:Int):=⟨(leastB l true held).toNat,by omega⟩
  obtain ⟨x,hx,ho,hmin⟩:=bestB_some hj;rw [hj,Int.toNat_natCast,List.getD_eq_getElem?_getD,hx,Option.getD_some];simp at ho;refine ⟨x,List.mem_of_getElem? hx,rfl,getB_of hr hx rfl,ho.1,ho.2,fun y hy hd hh=>?_⟩;obtain ⟨i,hi⟩:=List.mem_iff_getElem?.1 hy;exact hmin i y (List.getElem?_eq_some_iff.1 hi).1 hi (by simp [hd,hh])
end Go.Proofs.YtagndjihiklmiaaGreatDoor
