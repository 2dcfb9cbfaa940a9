/- A drawn region that makes a box and writes a struct into it: what is known, whatever the order. -/
import Derived.Test.YtagndjihiklmiaaGreatDoorQ18
set_option linter.unusedSimpArgs false
set_option linter.unusedVariables false
set_option maxRecDepth 100000
set_option maxHeartbeats 8000000
namespace Go.Proofs.YtagndjihiklmiaaGreatDoor
open Go.RowKit
def BxR (T:TypeId) (m k:Nat) (u:World):Prop:=∃ cs:Array Value,cs.size=m∧u.heap[k]?=some (.cells cs T (0,0))
structure BR (T:TypeId) (F:Array Value) (base:Nat) (u u':World):Prop where
 size:u.heap.size≤u'.heap.size
 keep:∀ k,k<u.heap.size→u'.heap[k]?=u.heap[k]?∨(base≤k∧BxR T F.size k u∧u'.heap[k]?=some (.cells F T (0,0)))
section
variable {T:TypeId} {F:Array Value} {base:Nat} {u u':World} {v:Value}
theorem BR.refl (u:World):BR T F base u u:=⟨Nat.le_refl _,fun _ _=>.inl rfl⟩
theorem BR.below (hb:Below u.heap.size u u'):BR T F base u u':=⟨hb.size,fun k hk=>.inl (hb.block k hk)⟩
theorem BxR.lt {m k:Nat} (h:BxR T m k u):k<u.heap.size:=by
 obtain ⟨_,_,h⟩:=h;rcases Nat.lt_or_ge k u.heap.size with h1 | h1
 ·exact h1
 ·rw [Array.getElem?_eq_none h1] at h; cases h
theorem BxR.step {k:Nat} (h:BxR T F.size k u) (hr:BR T F base u u'):BxR T F.size k u':=by
 rcases hr.keep k h.lt with h1 | ⟨_,_,h2⟩
 ·obtain ⟨cs,hs,h⟩:=h
  exact ⟨cs,hs,h1.trans h⟩
 ·exact ⟨F,rfl,h2⟩
def BxF (T:TypeId) (F:Array Value) (base:Nat):SlotFact:=fun v u=>∃ b,v=.pointer (some ⟨b,0,none⟩)∧base≤b∧BxR T F.size b u
theorem BxF.step (h:BxF T F base v u) (hr:BR T F base u u'):BxF T F base v u':=by
 obtain ⟨b,e,h1,h2⟩:=h;exact ⟨b,e,h1,h2.step hr⟩
def BxE (T:TypeId) (F:Array Value) (i:Nat) (k:Nat) (vs:List Value) (u:World):Prop:=k=i→∀ b,vs.head?=some (.pointer (some ⟨b,0,none⟩))→u.heap[b]?=some (.cells F T (0,0))
theorem BxE.step {i k:Nat} {vs:List Value} (h:BxE T F i k vs u) (hr:BR T F base u u'):BxE T F i k vs u':=fun hk b hb=>by
 have h1:=h hk b hb;have hl:b<u.heap.size:=(Array.getElem?_eq_some_iff.1 h1).1
 rcases hr.keep b hl with h2 | ⟨_,_,h2⟩
 ·exact h2.trans h1
 ·exact h2
theorem BxE.at {i:Nat} {ρ:Operand→Value} {op:Oper} {T':TypeId} {p q:Tmp} {bb:Nat} (e1:ρ (.tmp p)=.pointer (some ⟨bb,0,none⟩)) (h:op.op=Op.store T' (.tmp p) (.tmp q)) (g:u.heap[bb]?=some (.cells F T (0,0))):BxE T F i i (argsOf (fun d=>ρ (.tmp d)) op) u:=by
 intro _ b hb;rw [argsOf_store h] at hb;simp only [List.head?_cons,Option.some.injEq] at hb;rw [e1] at hb;simp only [Value.pointer.injEq,Option.some.injEq,Addr.mk.injEq] at hb;rw [← hb.1];exact g
theorem bx4 {b:Nat} (h:BxR T 4 b u):∃ z0 z1 z2 z3,u.heap[b]?=some (.cells #[z0,z1,z2,z3] T (0,0)):=by
 obtain ⟨⟨l⟩,hs,h⟩:=h
 match l,hs with
 | [z0,z1,z2,z3],_=>exact ⟨z0,z1,z2,z3,h⟩
theorem bx_put4 {b:Nat} {v0 v1 v2 v3:Value} (hbase:base≤b) (hx:BxR T 4 b u) (u':World) (hu:u'=(((u.setCell ⟨b,0,none⟩ v0).setCell ⟨b,1,none⟩ v1).setCell ⟨b,2,none⟩ v2).setCell ⟨b,3,none⟩ v3) :
  BR T #[v0,v1,v2,v3] base u u'∧u'.heap[b]?=some (.cells #[v0,v1,v2,v3] T (0,0))∧Below base u u':=by
 obtain ⟨z0,z1,z2,z3,hz⟩:=bx4 hx;have k0:=heap_setCell_same _ _ 0 _ _ v0 hz;have k1:=heap_setCell_same _ _ 1 _ _ v1 k0;have k2:=heap_setCell_same _ _ 2 _ _ v2 k1;have k3:=heap_setCell_same _ _ 3 _ _ v3 k2;rw [← hu] at k3
 have hko:∀ j,j≠b→u'.heap[j]?=u.heap[j]?:=by
  intro j hj;rw [hu];repeat (rw [heap_setCell_other _ _ j _ (by simpa using hj)])
 have hsz:u'.heap.size=u.heap.size:=by rw [hu]; simp
 refine ⟨⟨by omega,fun k _=>?_⟩,k3,?_⟩
 ·by_cases hk:k=b
  ·subst hk; exact .inr ⟨hbase,hx,k3⟩
  ·exact .inl (hko k hk)
 ·rw [hu]
  exact ((((Below.refl _ _).setCell hbase _).setCell hbase _).setCell hbase _).setCell hbase _
theorem bx_store {v0 v1 v2 v3 p:Value} (h:BxF T F base p u) (hF:F=#[v0,v1,v2,v3]):∃ bb z0 z1 z2 z3,p=.pointer (some ⟨bb,0,none⟩)∧u.cell? ⟨bb,0,none⟩=some z0∧u.cell? ⟨bb,1,none⟩=some z1∧u.cell? ⟨bb,2,none⟩=some z2∧u.cell? ⟨bb,3,none⟩=some z3∧(∀ j,u.frozen? ⟨bb,j,none⟩=false) ∧
  BR T F base u ((((u.setCell ⟨bb,0,none⟩ v0).setCell ⟨bb,1,none⟩ v1).setCell ⟨bb,2,none⟩ v2).setCell ⟨bb,3,none⟩ v3)∧((((u.setCell ⟨bb,0,none⟩ v0).setCell ⟨bb,1,none⟩ v1).setCell ⟨bb,2,none⟩ v2).setCell ⟨bb,3,none⟩ v3).heap[bb]?=some (.cells F T (0,0))∧Below base u ((((u.setCell ⟨bb,0,none⟩ v0).setCell ⟨bb,1,none⟩ v1).setCell ⟨bb,2,none⟩ v2).setCell ⟨bb,3,none⟩ v3):=by
 subst hF;obtain ⟨bb,e1,hbb,hbx⟩:=h;obtain ⟨g1,g2,g3⟩:=bx_put4 (v0:=v0) (v1:=v1) (v2:=v2) (v3:=v3) hbb hbx _ rfl;obtain ⟨z0,z1,z2,z3,hz⟩:=bx4 hbx;exact ⟨bb,z0,z1,z2,z3,e1,cell_of_row _ _ 0 _ _ _ hz,cell_of_row _ _ 1 _ _ _ hz,cell_of_row _ _ 2 _ _ _ hz,cell_of_row _ _ 3 _ _ _ hz,fun j=>frozen_of_row _ _ j _ _ hz,g1,g2,g3⟩
end
end Go.Proofs.YtagndjihiklmiaaGreatDoor
namespace Go.Proofs.YtagndjihiklmiaaGreatDoor
open Go.RowKit Go.Sort
theorem StAt.askc {T:Tys} {col:Nat→Nat} {w:World} {b bd N c:Nat} {x:Sv} {s:St} {a:Ak} {ba:Nat} (h:StAt T col w b bd N x s) (hc:c<3) (ha:s.askAt c=some a) (hv:x.av c=.pointer (some ⟨ba,0,none⟩)) :
  ∃ lv,w.heap[ba]?=some (.cells #[.int .i64 a.kind,.int .i64 a.pos,.string a.data,lv] T.A (0,0))∧Fa col c ba∧Ow (Fa col c) w 3 1 lv a.left.length (a.left.map (.int .i64)):=by
 have:=h.ask c hc;rw [ha] at this;obtain ⟨ba',lv,h1,h2,h3,h4⟩:=this;rw [hv] at h1
 cases h1
 exact ⟨lv,h3,h2,h4⟩
theorem get_st {T:Tys} {col:Nat→Nat} {w:World} {b bd N:Nat} {x:Sv} {s:St} (h:StAt T col w b bd N x s) (hI:Inv s) (p:Int) (w':World) (hb:Below w.heap.size w w') :
  Calls Tryz.prog 83 #[x.bufs,.int .i64 p] w' (Ret (.tuple #[bfV (getB s.bufs p).1,.bool (getB s.bufs p).2]) w'):=get_any _ _ _ p _ (h.bufs.below hb) hI.rises (by have:=hI.len8; omega)
theorem Inv.bok {s:St} (h:Inv s) (hu:s.use≤900000001):∀ b ∈ s.bufs,BfOk b:=fun b hb=>by
 have h1:=h.inb b hb;have h2:=h.used b hb;have h3:=h.size b hb;exact ⟨by unfold i64; omega,by unfold i64; omega,by unfold maxLen; omega⟩
theorem StAt.bufd {T:Tys} {col:Nat→Nat} {w w':World} {b bd N:Nat} {x:Sv} {s:St} (h:StAt T col w b bd N x s) (hb:Same1 b w w') {v:Value} {l:List Bf} (hv:BufsAt (S0 col) w v l) (hrow:w'.heap[b]?=some (.cells (({ x with bufs:=v }:Sv).row { s with bufs:=l } bd) T.S (0,0))) :
  StAt T col w' b bd N { x with bufs:=v } { s with bufs:=l }:=by
 refine h.turn1 hb hrow rfl rfl rfl rfl (hv.lt.more (fun k hk=>⟨hk.2,hk.1⟩)) h.wait h.asks (fun c hc=>?_) h.done h.errs;have:=h.ask c hc
 match c,hc with | 0,_=>exact this | 1,_=>exact this | 2,_=>exact this
theorem StAt.ask_ne {T:Tys} {col:Nat→Nat} {w:World} {b bd N c ba:Nat} {x:Sv} {s:St} (h:StAt T col w b bd N x s) (hf:Fa col c ba):ba≠b:=fun e=>by
 have h1:col ba=5+c:=hf;rw [e,h.cb] at h1;omega
theorem read_any (col:Nat→Nat) (w:World) (b bd N c:Nat) (x:Sv) (s:St) (a:Ak) (ba:Nat) (h:StAt Ts col w b bd N x s) (hI:Inv s) (hu:s.use≤900000000∧s.tag≤900000000) (hc:c<3) (ha:s.askAt c=some a) (hv:x.av c=.pointer (some ⟨ba,0,none⟩)) :
  Calls Tryz.prog 115 #[.pointer (some ⟨b,0,none⟩),.int .i64 (c:Int),.pointer (some ⟨ba,0,none⟩)] w (Ret2 Ts col w b bd N x (s.read c a) (.tuple #[])):=by
 obtain ⟨lv,hrow,hfa,_⟩:=h.askc hc ha hv;have Hne:=Lib.hid (h.ask_ne hfa);have Hbl:=Lib.hid h.bl;have Hs0:=Lib.hid h.s0;clear hfa;have H:=Lib.hid h;have HI:=Lib.hid hI;have Ha:=Lib.hid (hI.ask c a ha);have c2:w.cell? ⟨b,2,none⟩=some x.bufs:=h.cell 2;have p1:w.cell? ⟨ba,1,none⟩=some (.int .i64 a.pos):=cell_of_row _ _ 1 _ _ _ hrow;have Hrow:=Lib.hid hrow;clear h hI ha hrow hv;go_enter Tryz.func115,Tryz.ntmps115;go_wp2_with fail;have hz:=zero_buf
 obtain ⟨FB,hFB⟩:∃ F:Array Value,F=#[.int .i64 (getB s.bufs a.pos).1.pos,.string (getB s.bufs a.pos).1.data,.bool (getB s.bufs a.pos).1.dirty,.int .i64 (getB s.bufs a.pos).1.used]:=⟨_,rfl⟩
 refine wp_region_ev mixed [(9,fun v _=>v=(.pointer (some ⟨b,0,none⟩))),(10,fun v _=>v=(.pointer (some ⟨b,0,none⟩))),(11,fun v _=>v=(.pointer (some ⟨b,2,none⟩))),(12,fun v _=>v=x.bufs),(13,fun v _=>v=(.pointer (some ⟨ba,0,none⟩))),(14,fun v _=>v=(.pointer (some ⟨ba,0,none⟩))),(15,fun v _=>v=(.pointer (some ⟨ba,1,none⟩))),(16,fun v _=>v=(.int .i64 a.pos)),(17,fun v _=>v=(.tuple #[.agg #[.int .i64 (getB s.bufs a.pos).1.pos,.string (getB s.bufs a.pos).1.data,.bool (getB s.bufs a.pos).1.dirty,.int .i64 (getB s.bufs a.pos).1.used],.bool (getB s.bufs a.pos).2])),(8,fun v _=>v=(.tuple #[.agg #[.int .i64 (getB s.bufs a.pos).1.pos,.string (getB s.bufs a.pos).1.data,.bool (getB s.bufs a.pos).1.dirty,.int .i64 (getB s.bufs a.pos).1.used],.bool (getB s.bufs a.pos).2])),(18,fun v _=>v=(.agg #[.int .i64 (getB s.bufs a.pos).1.pos,.string (getB s.bufs a.pos).1.data,.bool (getB s.bufs a.pos).1.dirty,.int .i64 (getB s.bufs a.pos).1.used])),(19,fun v _=>v=(.bool (getB s.bufs a.pos).2)),(6,BxF 107 FB w.heap.size),(7,fun v _=>v=(.bool (getB s.bufs a.pos).2))] (fun u=>Below w.heap.size w u) (BR 107 FB w.heap.size) (BxE 107 FB 13) (by kernel_rfl) rfl (by decide) (Below.refl _ _).drew ?st (fun k vs u u' h hr=>h.step hr) ?steps ?fin;case st=>exact ⟨fun v u u' h _=>h,fun v u u' h _=>h,fun v u u' h _=>h,fun v u u' h _=>h,fun v u u' h _=>h,fun v u u' h _=>h,fun v u u' h _=>h,fun v u u' h _=>h,fun v u u' h _=>h,fun v u u' h _=>h,fun v u u' h _=>h,fun v u u' h _=>h,fun v u u' h hr=>h.step hr,fun v u u' h _=>h,trivial⟩
 case steps =>
  refine ⟨?_,?_,?_,?_,?_,?_,?_,?_,?_,?_,?_,?_,?_,?_,?_,trivial⟩
  all_goals
   intro ρ u hp hJ hr
   try
    have r1:ρ _=_:=hr.1;clear hr;have c2:=cell_b hJ c2;have p1:=cell_b hJ p1;refine gives_value (v:=_) (w':=u) ?_ ⟨rfl,hJ,BR.refl _,fun h=>absurd h (by decide)⟩;go_simp
    done
  ·have r1:ρ (.tmp 12)=x.bufs:=hr.1
   have r2:ρ (.tmp 16)=(.int .i64 a.pos):=hr.2.1;clear hr;refine gives_enter (f:=83) (args:=#[x.bufs,.int .i64 a.pos]) (w':=u) ?_ ((get_st H.out HI.out a.pos u hJ).mono ?_)
   ·have hpf:=hp.func 83
    go_simp
   rintro e u' ⟨rfl,hb⟩;exact ⟨_,rfl,rfl,hJ.trans (hb.mono hJ.size),BR.below hb,fun h=>absurd h (by decide)⟩
  ·clear hr
   refine gives_value (v:=.pointer (some ⟨u.heap.size,0,none⟩)) (w':=u.alloc (.cells #[.int .i64 0,.string ⟨#[]⟩,.bool false,.int .i64 0] 107)) ?_ ⟨⟨_,rfl,hJ.size,⟨_,by rw [hFB]; rfl,heap_alloc_new _ _⟩⟩,hJ.trans (((Below.refl _ _).alloc (Nat.le_refl _) _).mono hJ.size),BR.below ((Below.refl _ _).alloc (Nat.le_refl _) _),fun h=>absurd h (by decide)⟩;go_simp
  ·obtain ⟨bb,y0,y1,y2,y3,e1,z0,z1,z2,z3,f0,g1,g2,g3⟩:=bx_store hr.1 hFB
   have r2:ρ (.tmp 18)=(.agg #[.int .i64 (getB s.bufs a.pos).1.pos,.string (getB s.bufs a.pos).1.data,.bool (getB s.bufs a.pos).1.dirty,.int .i64 (getB s.bufs a.pos).1.used]):=hr.2.1;clear hr;refine gives_skip (w':=_) ?_ ⟨trivial,hJ.trans g3,g1,BxE.at e1 rfl g2⟩;clear g1 g2 g3;go_simp
 intro f u hF hJ hU hE;have f6:BxF 107 FB w.heap.size (f 6) u:=hF.2.2.2.2.2.2.2.2.2.2.2.2.1;have f7:f 7=(.bool (getB s.bufs a.pos).2):=hF.2.2.2.2.2.2.2.2.2.2.2.2.2.1;obtain ⟨bb,e6,hbb,hbz⟩:=f6;have hbx:u.heap[bb]?=some (.cells FB 107 (0,0)):=hE 13 _ rfl rfl bb (by rw [argsOf_store rfl,e6]; rfl);clear hF hU hE c2 p1;rw [hFB] at hbx;clear hbz hFB FB;have HJ:=Lib.hid hJ;have Hbx:=Lib.hid hbx;have Hbb:=Lib.hid hbb;clear hJ hbx hbb;simp only [laid];have H1:=Lib.hid (H.out.below HJ.out);have H1d:=Lib.hid (H1.out.below (Below.refl _ _).drew);have Hr1:Hid (u.heap[ba]?=_):=show _=_ from (HJ.out.block _ (Array.getElem?_eq_some_iff.1 Hrow.out).1).trans Hrow.out;have Hln:Hid (s.bufs.length≤65536):=show _≤_ by have:=HI.out.len8; omega
 cases hg:(getB s.bufs a.pos).2 with
 |true =>
  rw [hg] at f7;have Hg:=Lib.hid hg;have Hsr:Hid (s.read c a=({ s with use:=s.use+1,bufs:=useB s.bufs a.pos (s.use+1) }:St).answer c (getB s.bufs a.pos).1.data 0):=show _=_ by unfold St.read; rw [hg,if_pos rfl]
  have Hus:Hid (0≤s.use∧s.use≤1000000000):=show _∧_ from ⟨HI.out.use0,by omega⟩;have Hub:=Lib.hid hu;clear hg hu;have c2:u.cell? ⟨b,2,none⟩=some x.bufs:=H1.out.cell 2;have p1:u.cell? ⟨ba,1,none⟩=some (.int .i64 a.pos):=cell_of_row _ _ 1 _ _ _ Hr1.out;go_wp2_with fail
  go_region_law
   (first
    |(go_simp
      go_at_call 93;refine (used_any col u.drew b bd N x s H1d.out Hus.out).mono ?_;rintro e u1 ⟨rfl,hS1,hst1⟩;have q2:u1.cell? ⟨b,2,none⟩=some x.bufs:=hst1.cell 2;have q1:u1.cell? ⟨ba,1,none⟩=some (.int .i64 a.pos):=cell_of_row _ _ 1 _ _ _ ((hS1.block ba Hne.out).trans Hr1.out);have HS1:=Lib.hid hS1;have Hst1:=Lib.hid hst1;have Hbu:=Lib.hid hst1.bufs
      clear hS1 hst1)
    |(go_simp
      go_at_call 157;refine (use_any (Im u1 col) s.bufs x.bufs a.pos (s.use+1) u1 Hbu.out HI.out.rises Hln.out).mono ?_;rintro e u2 ⟨v2,rfl,ho2,hb2⟩;obtain ⟨A2,n2,m2,e2,en⟩:=own_slice' ho2;subst e2;subst en;have Ho2:=Lib.hid ho2;have HB2:=Lib.hid hb2;have Hst2:=Lib.hid (Hst1.out.below hb2);have f2:=Hst2.out.frozen 2;have q3:u2.cell? ⟨b,2,none⟩=some x.bufs:=cell_b hb2 q2
      clear ho2 hb2)
    |fail)
  all_goals
   have hS3:=(Same1.refl (b:=b) (w:=u2)).setCell 2 (.slice A2 (useB s.bufs a.pos (s.use+1)).length m2);have hv3:BufsAt (S0 col) u2 (.slice A2 (useB s.bufs a.pos (s.use+1)).length m2) (useB s.bufs a.pos (s.use+1)):=bufs_of_own (fun k hk=>Hst1.out.s0 k hk) Ho2.out ((HI.out.useB a.pos (s.use+1) (by omega)).bok (by show s.use+1≤_; have:=Hub.out; omega));have Hst3:=Lib.hid (Hst2.out.bufd hS3 hv3 (heap_setCell_same _ _ 2 _ _ _ Hst2.out.row));have hbb:bb≠b:=by have:=Hbb.out; have:=Hbl.out; omega
   have k1:((u2.setCell ⟨b,2,none⟩ (.slice A2 (useB s.bufs a.pos (s.use+1)).length m2)).cell? ⟨bb,1,none⟩)=some (.string (getB s.bufs a.pos).1.data):=by
    have h1:=(HS1.out.block bb hbb).trans Hbx.out;have h2:=(HB2.out.block _ (Array.getElem?_eq_some_iff.1 h1).1).trans h1;exact cell_of_row _ _ 1 _ _ _ ((hS3.block bb hbb).trans h2)
   have HC:Hid (Chg (fun k=>k=b) w (u2.setCell ⟨b,2,none⟩ (.slice A2 (useB s.bufs a.pos (s.use+1)).length m2))):=show Chg _ _ _ from
    ((Chg.of_below (HJ.out.trans (((Below.refl _ _).drew).mono HJ.out.size))).trans ((HS1.out.chg (F:=fun k=>k=b) rfl).mono (fun k hk=>.inl hk))).trans (((Chg.of_below HB2.out).trans ((hS3.chg (F:=fun k=>k=b) rfl).mono (fun k hk=>.inl hk))).mono (fun k hk=>.inl hk))
   clear hS3 hv3;generalize World.setCell _ _ _=u3 at k1 HC Hst3 ⊢;go_wp2_with fail;refine (answer_any col u3 b bd N _ _ c (getB s.bufs a.pos).1.data 0 Hst3.out hc).mono ?_;rintro e w4 ⟨rfl,hS4,hst4⟩;have HS4:=Lib.hid hS4;have Hst4:=Lib.hid hst4;clear hS4 hst4;go_wp2_with fail;go_end0;rw [Hsr.out];exact ⟨_,rfl,Hst4.out,HC.out.trans ((HS4.out.chg (F:=fun k=>k=b) rfl).mono (fun k hk=>.inl hk)),Avs.ans .bufs Hst3.out.asks hc⟩
 |false =>
  rw [hg] at f7;have Hg:=Lib.hid hg;have Hsr:Hid (s.read c a=if s.heldP a.pos then s else (s.queue false a.pos noB).1):=show _=_ by unfold St.read; rw [hg]; rfl
  have Hub:=Lib.hid hu;clear hg hu;have c2:u.cell? ⟨b,2,none⟩=some x.bufs:=H1.out.cell 2;have p1:u.cell? ⟨ba,1,none⟩=some (.int .i64 a.pos):=cell_of_row _ _ 1 _ _ _ Hr1.out;go_wp2_with fail;refine (held_any col u b bd N x s a.pos H1.out (fun r hr=>(good_oks HI.out.good r (List.mem_append.2 (.inl hr))).span) (fun r hr=>(good_oks HI.out.good r (List.mem_append.2 (.inr hr))).span) HI.out.dv.two ⟨Ha.out.lo,Ha.out.hi⟩).mono ?_;rintro e u' ⟨rfl,hb1⟩;have HB1:=Lib.hid hb1;have Hst1:=Lib.hid (H1.out.below hb1);have p1:u'.cell? ⟨ba,1,none⟩=some (.int .i64 a.pos):=cell_b hb1 p1;clear hb1 c2
  cases hh:s.heldP a.pos with
  |true =>
   have Hh:=Lib.hid hh;go_wp2_with fail;go_end0;rw [Hsr.out,Hh.out,if_pos rfl];exact ⟨_,rfl,Hst1.out,Chg.of_below (HJ.out.trans (HB1.out.mono HJ.out.size)),.refl⟩
  |false =>
   have Hh:=Lib.hid hh;go_wp2_with fail;refine (queue_any col u' b bd N x s false a.pos noB Hst1.out (good_oks (good_app.1 HI.out.good).1) HI.out.wait6 ⟨HI.out.tag0,by have:=Hub.out; omega⟩ HI.out.now ⟨Ha.out.lo,Ha.out.hi⟩ noB16).mono ?_;rintro e w4 ⟨y,rfl,hst4,hc4,hav⟩;have Hav:=Lib.hid hav;have Hst4:=Lib.hid hst4;have Hc4:=Lib.hid hc4;clear hst4 hc4 hav;go_wp2_with fail;go_end0;rw [Hsr.out,Hh.out,if_neg (by decide)];exact ⟨_,rfl,Hst4.out,(Chg.of_below (HJ.out.trans (HB1.out.mono HJ.out.size))).trans (Hc4.out.mono (fun k hk=>.inl hk)),Hav.out⟩
end Go.Proofs.YtagndjihiklmiaaGreatDoor
namespace Go.Proofs.YtagndjihiklmiaaGreatDoor
open Go.RowKit
abbrev zeroBv:Value:=.agg #[.int .i64 0,.string ⟨#[]⟩,.bool false,.int .i64 0]
theorem zero_bufv:∀ w,(zeroValue 107).run Tryz.prog w=.ok zeroBv w:=fun _=>by kernel_rfl
theorem bdelete_any (base g n cap i:Nat) (xs:List Value) (w:World) (hown:w.ownsRow base 107 4 (.slice (some ⟨g,0,none⟩) n cap) n xs) (h1:∀ u ∈ xs,u.oneCell'=true) (hi:i<n) (hn:n≤65536) :
  Calls Tryz.prog 135 #[.slice (some ⟨g,0,none⟩) n cap,.int .i64 i,.int .i64 ((i:Int)+1)] w fun E w' =>
   ∃ v,E=.returned v∧w'.ownsRow base 107 4 v (n - 1) (xs.take (i * 4) ++ xs.drop ((i+1) * 4))∧w.grownBy w' (some g):=by
 obtain ⟨i0,hi0,hz0,hz1,hz2⟩:=info_parts bufInfo
 have hcap:n≤cap∧cap≤maxLen:=by
  rcases hown.2 with ⟨hv,_⟩ | ⟨_,_,_,hv,_,_,h3,h4,_⟩
  ·cases hv
  ·cases hv; exact ⟨h3,h4⟩
 obtain ⟨hc1,hc2⟩:=hcap;unfold maxLen at hc2;have hin:(i:Int)<(n:Int):=by omega
 have hne:((i:Int) == (i:Int)+1)=false:=by simp; omega
 have hlen:=hown.1;have hrd:=Rd.of_own (S:=fun _=>True) w (fun _ _=>trivial) hown
 obtain ⟨X,hX,hR⟩:∃ X:Option Addr,(if cap=i+1 then some (⟨g,0,none⟩:Addr) else some ⟨g,(i+1) * 4,none⟩)=X∧Hid (Rd (fun _=>True) w.drew 4 (.slice X (n - (i+1)) (cap - (i+1))) (n - (i+1)) (xs.drop ((i+1) * 4))):=by
  refine ⟨_,rfl,?_⟩;show Rd _ _ _ _ _ _;refine ⟨_,_,rfl,by omega,by simp only [maxLen]; omega,by rw [List.length_drop,hlen]; omega,fun hpos=>?_⟩;rw [if_neg (by omega)];obtain ⟨b,off,e,_,_,hcell⟩:=hrd.at_ (by omega) (by omega)
  cases e
  refine ⟨g,(i+1) * 4,rfl,trivial,fun j u hu=>?_⟩;rw [List.getElem?_drop] at hu;have:=hcell _ _ hu
  simpa using this
 have hT:=Lib.hid (own_take w (k:=i) (by omega) (by omega) hown);have hic:i≤cap:=by omega
 have hbase:base≤w.heap.size:=by have:=hown.lt g rfl; omega
 have hgl:g<w.heap.size:=(hown.lt g rfl).2;have hbg:base≤g:=(hown.lt g rfl).1;clear hrd hown;have hp0:(0:Int)≤(i:Int)+1:=by omega
 have hp1:(i:Int)+1≤(n:Int):=by omega
 have hp2:((i:Int)+1).toNat=i+1:=by omega
 go_enter Tryz.func135,Tryz.ntmps135;go_wp2_with fail;go_region_law (refine step_append_rd_fits (S:=fun _=>True) _ rfl (.tmp 22) (.tmp 25) _ rfl base 107 i0 4 Tryz.underlying66 hi0 hz1 g i cap (xs.take (i * 4)) rfl hT.out (.slice X (n - (i+1)) (cap - (i+1))) (n - (i+1)) (xs.drop ((i+1) * 4)) rfl hR.out (fun u hu=>h1 u (List.mem_of_mem_drop hu)) (by omega) ?_; intro w1 hown1 hg1)
 have hm:i+(n - (i+1))=n - 1:=by omega
 obtain ⟨cur,hcell,hsz,htk⟩:∃ cur,w1.heap[g]?=some (.cells cur 107 (0,0))∧cur.size=cap * 4∧cur.toList.take ((i+(n - (i+1))) * 4)=xs.take (i * 4) ++ xs.drop ((i+1) * 4):=by
  rcases hown1.2 with ⟨hv,_⟩ | ⟨_,_,cur,hv,_,h2,_,_,h5,h6⟩
  ·cases hv
  ·cases hv; exact ⟨cur,h2,h5,h6⟩
 obtain ⟨cur',hrun,hsz',htk'⟩:=run_clear_row (P:=Tryz.prog) w1 66 107 0 zeroBv 4 Tryz.underlying66 zero_bufv rfl
  (fun n u hu=>one_zeros (by decide) n u hu) g ((i+(n - (i+1))) * 4) (n - (i+(n - (i+1)))) (cap - (i+(n - (i+1)))) _ cur hcell (by rw [hsz]; omega)
 have Hown:=Lib.hid hown1;have Hcell:=Lib.hid hcell;have Hs:=Lib.hid hsz;have Hs':=Lib.hid hsz';have Ht:=Lib.hid htk;have Ht':=Lib.hid htk';have Hm:=Lib.hid hm;clear hown1 hcell hsz hsz' htk htk' hm hlen hX hR hT;go_wp2_with fail;go_ret;refine ⟨_,rfl,?_,?_⟩
 ·have ht:=Ht'.out.trans Ht.out
  have ht2:=Ht.out;rw [Hm.out] at ht ht2 ⊢;refine ⟨by rw [← ht2,List.length_take,Array.length_toList,Hs.out]; omega,.inr ⟨g,cap,cur',rfl,hbg,setRow_heap _ _ _ _ _ _ Hcell.out,by omega,by simp only [maxLen]; omega,by rw [Hs'.out,Hs.out],ht⟩⟩
 ·exact ⟨hg1.os,hg1.tape,hg1.output,by simpa using hg1.size,fun k hk hkg=>by rw [setRow_other _ _ _ _ (fun h=>hkg (by rw [h]))]; exact hg1.block k (by simpa using hk) hkg⟩
end Go.Proofs.YtagndjihiklmiaaGreatDoor
