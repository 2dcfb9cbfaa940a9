/- The reference's PutBuf: one pass. -/
import Derived.Test.YtagndjihiklmiaaGreatDoorQ27
set_option linter.unusedSimpArgs false
set_option linter.unusedVariables false
set_option maxRecDepth 100000
set_option maxHeartbeats 8000000
namespace Go.Proofs.YtagndjihiklmiaaGreatDoor
open Go.RowKit
structure PutInv (w:World) (B0:Nat) (bl:List (Nat × TypeId × Array Value)) (b:Bf) (gone:Int) (l R:List Bf) (k:Nat) (acc:List Bf) (ld:Bool) (vo:Value) (wr:World):Prop where
 lay:Lay w wr bl
 own:wr.ownsRow B0 107 4 vo acc.length (flatB acc)
 len:acc.length≤k+if ld then 1 else 0
 eq:acc ++ rput b gone k (l.drop k) ld=R
 sz:B0≤wr.heap.size
theorem rd_box {w:World} {vb:Nat} {c0 c1 c2 c3:Value} {T:TypeId} (h:w.heap[vb]?=some (.cells #[c0,c1,c2,c3] T (0,0))):Rd (fun _=>True) w 4 (.slice (some ⟨vb,0,none⟩) 1 1) 1 [c0,c1,c2,c3] :=
 ⟨_,_,rfl,by omega,by simp [maxLen],rfl,fun _=>⟨vb,0,rfl,trivial,fun j u hu=>by rw [Nat.zero_add,cell_of_row _ _ _ _ _ _ h]; simpa using hu⟩⟩
theorem lay_app {w wr W2 w1:World} {B0 n:Nat} {bl:List (Nat × TypeId × Array Value)} {vo:Value} {xs:List Value} (h:Lay w wr bl) (ho:wr.ownsRow B0 107 4 vo n xs) (hB:w.heap.size≤B0) (hbl:∀ x ∈ bl,x.1<B0)
  (hb:Below wr.heap.size wr W2) (hg:W2.grownBy w1 vo.ownBlock):Lay w w1 bl :=
 (h.step hb).chg (F:=fun k=>B0≤k) ((Chg.refl).grown hg (fun k hk=>.inl (ho.lt k hk).1)) (fun k hk=>by omega) (fun x hx hk=>by have:=hbl x hx; omega)
theorem rput_cons (b x:Bf) (gone:Int) (k:Nat) (l:List Bf) (ld:Bool) (hx:l[k]?=some x):rput b gone k (l.drop k) ld=(if !ld && decide (b.pos≤x.pos) then [b] else []) ++ (if !decide (x.pos=b.pos) && !decide ((k:Int)=gone) then [x] else []) ++ rput b gone (k+1:Nat) (l.drop (k+1)) (ld || decide (b.pos≤x.pos)):=by
 obtain ⟨h,e⟩:=List.getElem?_eq_some_iff.1 hx;rw [List.drop_eq_getElem_cons h,e,rput];rfl
theorem flatB_one1 (b:Bf):flatB [b]=b.cells:=by simp [flatB]
theorem flatB_snoc (acc:List Bf) (b:Bf):flatB acc ++ [.int .i64 b.pos,.string b.data,.bool b.dirty,.int .i64 b.used]=flatB (acc ++ [b]):=by rw [flatB_app,flatB_one1]; rfl
theorem own_snoc {w:World} {B:Nat} {v:Value} {acc:List Bf} {x:Bf} (h:w.ownsRow B 107 4 v (acc.length+1) (flatB acc ++ [.int .i64 x.pos,.string x.data,.bool x.dirty,.int .i64 x.used])):w.ownsRow B 107 4 v (acc ++ [x]).length (flatB (acc ++ [x])):=by
 rw [← flatB_snoc,List.length_append]; exact h
def RetPut0 (m:List Bf) (w:World):Ending→World→Prop:=fun e w'=>∃ v,e=.returned (.tuple #[v,.int .i64 0])∧w'.ownsRow w.heap.size 107 4 v m.length (flatB m)∧Below w.heap.size w w'
theorem rput_no (S:Nat→Prop) (l R:List Bf) (v:Value) (b:Bf) (hl:List Bool) (w:World) (h:BufsAt S w v l) (hr:Rises l) (hin:InB l) (h32:hl.length=32) (hn:l.length≤8) (hi:isB l b.pos=false) (h8:8≤l.length) (hv:leastB l false (heldL hl)<0) :
  Calls Tryz.prog 69 #[v,bfV b,.agg (hldV hl)] w (Ret (.tuple #[.slice none 0 0,.int .i64 7]) w):=by
 obtain ⟨A,cap,rfl,h1,h2⟩:=h.form;unfold maxLen at h2;obtain ⟨i0,hi0,hz0,hz1,hz2⟩:=info_parts bufInfo;have H:=Lib.hid h;have HR:=Lib.hid hr;have HI:=Lib.hid hin;have Hi:=Lib.hid hi;have H32:=Lib.hid h32;have hz:=zero_buf;clear h hr hin hi h32
 obtain ⟨V,hV⟩:∃ V,hldV hl=V:=⟨_,rfl⟩
 have HV:=Lib.hid hV;rw [hV];have Hs:Hid ((Tryz.prog.info? 109).map (·.size)=some V.size):=show _=_ by rw [← HV.out,heldInfo]; simp [hldV,H32.out]
 clear hV;go_enter Tryz.func69,Tryz.ntmps69;go_wp2_with fail;have L:=Lib.hid (((Lay.refl w).alloc' w.heap.size #[.int .i64 b.pos,.string b.data,.bool b.dirty,.int .i64 b.used] 107 rfl).alloc' (w.heap.size+1) V 109 (by simp));generalize World.alloc _ _=W at L ⊢;refine (rget_any S l _ b.pos _ (H.out.below L.out.below) HR.out (by omega)).mono ?_;rintro e w1 ⟨rfl,hb1⟩;have L1:=Lib.hid (L.out.step hb1)
 obtain ⟨g1,hg1⟩:∃ g1,(getB l b.pos).1=g1:=⟨_,rfl⟩
 rw [getB_is,Hi.out,hg1];clear hb1 hg1 L
 obtain ⟨n2,hn2⟩:∃ n2,w1.heap.size=n2:=⟨_,rfl⟩
 obtain ⟨q0,q1,q2,q3⟩:=L1.out.c4 1 rfl;have hd0:(8:Int)≤(l.length:Int):=by omega
 have L2:=L1.out.alloc' n2 #[.int .i64 g1.pos,.string g1.data,.bool g1.dirty,.int .i64 g1.used] 107 hn2;have Hrow:=Lib.hid (L2.at_ 1 rfl);have L2:=Lib.hid L2;go_wp2_with (refine wpList_load_row rfl 109 (.tmp 5) rfl (w.heap.size+1) rfl 109 V (0,0) _ Hrow.out Tryz.underlying109 rfl Hs.out ?_);clear Hrow q0 q1 q2 q3 hd0 L1;rw [← HV.out] at L2 ⊢;generalize World.alloc _ _=w4 at L2 ⊢;refine (least_any S l _ false hl _ (H.out.below L2.out.below) HI.out H32.out (by omega)).mono ?_;rintro e w5 ⟨rfl,hb5⟩;have HL5:=Lib.hid (L2.out.step hb5);rw [HV.out] at HL5 ⊢;clear hb5 L2;go_wp2_with fail;go_ret2;exact ⟨rfl,HL5.out.below⟩
theorem rput_all (S:Nat→Prop) (l R:List Bf) (v:Value) (b:Bf) (hl:List Bool) (w:World) (h:BufsAt S w v l) (hr:Rises l) (hin:InB l) (h32:hl.length=32) (hn:l.length≤8) (gone:Int) (hR:rput b gone 0 l false=R)
  (hc:(isB l b.pos=true∧gone = -1)∨(isB l b.pos=false∧l.length<8∧gone = -1)∨(isB l b.pos=false∧8≤l.length∧0≤gone∧leastB l false (heldL hl)=gone)) :
  Calls Tryz.prog 69 #[v,bfV b,.agg (hldV hl)] w (RetPut0 R w):=by
 have HR0:=Lib.hid hR;have HC:=Lib.hid hc;clear hR hc;obtain ⟨A,cap,rfl,h1,h2⟩:=h.form;unfold maxLen at h2;obtain ⟨i0,hi0,hz0,hz1,hz2⟩:=info_parts bufInfo;have H:=Lib.hid h;have HR:=Lib.hid hr;have HI:=Lib.hid hin;have H32:=Lib.hid h32;have hz:=zero_buf;clear h hr hin h32
 obtain ⟨V,hV⟩:∃ V,hldV hl=V:=⟨_,rfl⟩
 have HV:=Lib.hid hV;rw [hV];have Hs:Hid ((Tryz.prog.info? 109).map (·.size)=some V.size):=show _=_ by rw [← HV.out,heldInfo]; simp [hldV,H32.out]
 clear hV;go_enter Tryz.func69,Tryz.ntmps69;go_wp2_with fail;have L:=Lib.hid (((Lay.refl w).alloc' w.heap.size #[.int .i64 b.pos,.string b.data,.bool b.dirty,.int .i64 b.used] 107 rfl).alloc' (w.heap.size+1) V 109 (by simp));generalize World.alloc _ _=W at L ⊢;refine (rget_any S l _ b.pos _ (H.out.below L.out.below) HR.out (by omega)).mono ?_;rintro e w1 ⟨rfl,hb1⟩;have L1:=Lib.hid (L.out.step hb1)
 obtain ⟨g1,hg1⟩:∃ g1,(getB l b.pos).1=g1:=⟨_,rfl⟩
 rw [getB_is,hg1];clear hb1 hg1 L
 obtain ⟨n2,hn2⟩:∃ n2,w1.heap.size=n2:=⟨_,rfl⟩
 obtain ⟨q0,q1,q2,q3⟩:=L1.out.c4 1 rfl
 rcases HC.out with ⟨hi,hg⟩ | ⟨hi,h8,hg⟩ | ⟨hi,h8,hg,hv⟩
 case' inl =>
  have Hg:=Lib.hid hg;rw [hi];clear hi hg HC;have hd0:=trivial;have HL5:=Lib.hid (L1.out.alloc' n2 #[.int .i64 g1.pos,.string g1.data,.bool g1.dirty,.int .i64 g1.used] 107 hn2);go_wp2_with fail;generalize World.alloc _ _=w5 at HL5 ⊢;clear q0 q1 q2 q3 hn2 L1 hd0;rw [← Hg.out]
 case' inr.inl =>
  have Hg:=Lib.hid hg;have hd0:decide ((8:Int)≤(l.length:Int))=false:=by simp; omega
  rw [hi];clear hi hg HC h8;have HL5:=Lib.hid (L1.out.alloc' n2 #[.int .i64 g1.pos,.string g1.data,.bool g1.dirty,.int .i64 g1.used] 107 hn2);go_wp2_with fail;generalize World.alloc _ _=w5 at HL5 ⊢;clear q0 q1 q2 q3 hn2 L1 hd0;rw [← Hg.out]
 case' inr.inr =>
  have Hg:=Lib.hid hg;have Hv:=Lib.hid hv;rw [hi];clear hi hg hv HC;have hd0:(8:Int)≤(l.length:Int):=by omega
  have L2:=L1.out.alloc' n2 #[.int .i64 g1.pos,.string g1.data,.bool g1.dirty,.int .i64 g1.used] 107 hn2;have Hrow:=Lib.hid (L2.at_ 1 rfl);have L2:=Lib.hid L2;go_wp2_with (refine wpList_load_row rfl 109 (.tmp 5) rfl (w.heap.size+1) rfl 109 V (0,0) _ Hrow.out Tryz.underlying109 rfl Hs.out ?_);clear Hrow q0 q1 q2 q3 hd0 L1;rw [← HV.out] at L2 ⊢;generalize World.alloc _ _=w4 at L2 ⊢;refine (least_any S l _ false hl _ (H.out.below L2.out.below) HI.out H32.out (by omega)).mono ?_;rintro e w5 ⟨rfl,hb5⟩;have HL5:=Lib.hid (L2.out.step hb5);rw [HV.out] at HL5 ⊢;clear hb5 L2;rw [Hv.out];have hj0:decide (gone<0)=false:=by have:=Hg.out; simp; omega
  clear hn2 h8;go_wp2_with fail;clear hj0 Hv
 all_goals
  clear Hg;have HB5:Hid (w.heap.size≤w5.heap.size):=HL5.out.size;have Hbl:Hid (∀ x ∈ [(n2,107,#[.int .i64 g1.pos,.string g1.data,.bool g1.dirty,.int .i64 g1.used]),(w.heap.size+1,109,V),(w.heap.size,107,#[.int .i64 b.pos,.string b.data,.bool b.dirty,.int .i64 b.used])],x.1<w5.heap.size):=fun x hx=>HL5.out.lt hx
  have H0:Hid (PutInv w w5.heap.size [(n2,107,#[.int .i64 g1.pos,.string g1.data,.bool g1.dirty,.int .i64 g1.used]),(w.heap.size+1,109,V),(w.heap.size,107,#[.int .i64 b.pos,.string b.data,.bool b.dirty,.int .i64 b.used])] b gone l R 0 [] false (.slice none 0 0) w5):=⟨HL5.out,World.ownsRow_nil _ _ _ _,by simp,by simpa using HR0.out,Nat.le_refl _⟩
  go_loopw [11,12,13] (fun vo lb i wr=>∃ (k:Nat) (acc:List Bf) (ld:Bool),k≤l.length∧i=.int .i64 k∧lb=.bool ld∧Hid (PutInv w w5.heap.size [(n2,107,#[.int .i64 g1.pos,.string g1.data,.bool g1.dirty,.int .i64 g1.used]),(w.heap.size+1,109,V),(w.heap.size,107,#[.int .i64 b.pos,.string b.data,.bool b.dirty,.int .i64 b.used])] b gone l R k acc ld vo wr)) (fun _ _ i _=>l.length - (intOf i).toNat)
  case atStart=>exact ⟨0,[],false,by omega,rfl,rfl,H0⟩
  case round =>
   obtain ⟨k,acc,ld,hk,rfl,rfl,HP⟩:=hrel;by_cases hlt:k<l.length
   ·have hkl:(k:Int)<(l.length:Int):=by omega
    have hx:l[k]?=some l[k]:=List.getElem?_eq_getElem hlt;have Hx:=Lib.hid hx;clear hx;generalize l[k]=x at *;have Ho:=Lib.hid HP.out.own;have HL:=Lib.hid HP.out.lay;have Hlen:=Lib.hid HP.out.len;have Heq:=Lib.hid HP.out.eq;have Hswr:=Lib.hid HP.out.sz;have Hlen6:Hid (acc.length≤9):=by show _≤_; have:=Hlen.out; split at this <;> omega
    clear HP
    rcases (by cases ld <;> simp <;> omega:ld=true∨(ld=false∧b.pos≤x.pos)∨(ld=false∧¬ b.pos≤x.pos)) with rfl | ⟨rfl,e0⟩ | ⟨rfl,e0⟩
    all_goals
     try have E0:=Lib.hid e0
     obtain ⟨q0,q1,q2,q3⟩:=HL.out.c4 2 rfl;obtain ⟨bx,off,e,_,hbl,hc⟩:=(H.out.below HL.out.below).at_ (by omega)
     cases e
     obtain ⟨_,k0,k1,k2,k3⟩:=hc k _ Hx.out;clear hc;go_wp2_with fail;go_quiet (fail);have Hbw6:=Lib.hid (drewN_below' wr.heap.size wr nq);have Ho6:=Lib.hid (own_below Ho.out Hbw6.out);have HL6:=Lib.hid (HL.out.step Hbw6.out);have Hsw6:=Lib.hid (Nat.le_trans Hswr.out Hbw6.out.size);clear q0 q1 q2 q3 k0 k1 k2 k3;generalize World.drewN _ _=w6 at Hbw6 Ho6 HL6 Hsw6 ⊢;obtain ⟨q0,q1,q2,q3⟩:=HL6.out.c4 2 rfl;obtain ⟨bx,off,e,_,hbl,hc⟩:=(H.out.below HL6.out.below).at_ (by omega)
     cases e
     obtain ⟨_,k0,k1,k2,k3⟩:=hc k _ Hx.out;clear hc;go_wp2_with (at_builtin; refine wpList_append_rd (S:=fun _=>True) _ rfl (.tmp 51) (.tmp 53) _ rfl w5.heap.size 107 i0 _ 4 40 Tryz.underlying66 hi0 hz0 hz1 hz2 rfl (by omega) _ _ _ rfl (own_below Ho6.out ((Below.refl _ _).alloc (Nat.le_refl _) _)) _ 1 _ rfl (rd_box (heap_alloc_new _ _)) (cellsB_one b) (by have:=Hlen6.out; simp only [maxLen]; omega) (by have:=Hlen6.out; omega) (by simp; have:=Hsw6.out; omega) ?_; intro vw7 w7 hownw7 hgw7 hatw7; clear hatw7)
     first
      |(have Ho7:=Lib.hid (own_snoc hownw7)
        have HL7:=Lib.hid (lay_app HL6.out Ho6.out HB5.out Hbl.out ((Below.refl _ _).alloc (Nat.le_refl _) _) hgw7);have Hsw7:Hid (w5.heap.size≤w7.heap.size):=Nat.le_trans Hsw6.out (Nat.le_trans (by simp) hgw7.size);clear hownw7 hgw7 q0 q1 q2 q3 k0 k1 k2 k3
        have Hlen7:Hid ((acc ++ [b]).length≤9):=by show _≤_; have:=Hlen.out; simp at this ⊢; omega)
      |(obtain ⟨w7,hw7⟩:∃ w7,w6=w7:=⟨_,rfl⟩
        clear q0 q1 q2 q3 k0 k1 k2 k3;rw [hw7] at HL6 Ho6 Hsw6 ⊢;have Ho7:=Ho6;have HL7:=HL6;have Hsw7:=Hsw6;have Hlen7:=Hlen6
        clear hw7)
     rcases (by omega:x.pos=b.pos∨(¬ x.pos=b.pos∧(k:Int)=gone)∨(¬ x.pos=b.pos∧¬ (k:Int)=gone)) with e1 | ⟨e1,e2⟩ | ⟨e1,e2⟩
     all_goals
      first
       |have f1:(x.pos != b.pos)=false:=by simp [e1]
       |have f1:(x.pos != b.pos)=true:=by simp [e1]
      try first
       |have f2:((k:Int) != gone)=false:=by simp [e2]
       |have f2:((k:Int) != gone)=true:=by simp [e2]
      have E1:=Lib.hid e1;try have E2:=Lib.hid e2
      clear e1;try clear e2
      obtain ⟨q0,q1,q2,q3⟩:=HL7.out.c4 2 rfl;obtain ⟨bx,off,e,_,hbl,hc⟩:=(H.out.below HL7.out.below).at_ (by omega)
      cases e
      obtain ⟨_,k0,k1,k2,k3⟩:=hc k _ Hx.out;clear hc;go_wp2_with fail;go_quiet (fail);have Hbw8:=Lib.hid (drewN_below' w7.heap.size w7 nq);have Ho8:=Lib.hid (own_below Ho7.out Hbw8.out);have HL8:=Lib.hid (HL7.out.step Hbw8.out);have Hsw8:=Lib.hid (Nat.le_trans Hsw7.out Hbw8.out.size);clear q0 q1 q2 q3 k0 k1 k2 k3;generalize World.drewN _ _=w8 at Hbw8 Ho8 HL8 Hsw8 ⊢;obtain ⟨q0,q1,q2,q3⟩:=HL8.out.c4 2 rfl;obtain ⟨bx,off,e,_,hbl,hc⟩:=(H.out.below HL8.out.below).at_ (by omega)
      cases e
      obtain ⟨_,k0,k1,k2,k3⟩:=hc k _ Hx.out;clear hc;go_wp2_with (at_builtin; refine wpList_append_rd (S:=fun _=>True) _ rfl (.tmp 68) (.tmp 73) _ rfl w5.heap.size 107 i0 _ 4 40 Tryz.underlying66 hi0 hz0 hz1 hz2 rfl (by omega) _ _ _ rfl (own_below Ho8.out ((Below.refl _ _).alloc (Nat.le_refl _) _)) _ 1 _ rfl (rd_box (heap_alloc_new _ _)) (cellsB_one x) (by have:=Hlen7.out; simp only [maxLen]; omega) (by have:=Hlen7.out; omega) (by simp; have:=Hsw8.out; omega) ?_; intro vw9 w9 hownw9 hgw9 hatw9; clear hatw9)
      first
       |(have Ho9:=Lib.hid (own_snoc hownw9)
         have HL9:=Lib.hid (lay_app HL8.out Ho8.out HB5.out Hbl.out ((Below.refl _ _).alloc (Nat.le_refl _) _) hgw9);have Hsw9:Hid (w5.heap.size≤w9.heap.size):=Nat.le_trans Hsw8.out (Nat.le_trans (by simp) hgw9.size);clear hownw9 hgw9 q0 q1 q2 q3 k0 k1 k2 k3
         go_wp2_with fail)
       |(have Ho9:=Ho8
         have HL9:=HL8
         have Hsw9:=Hsw8)
      go_roundw
      case rel =>
       refine ⟨k+1,_,_,by omega,by go_num,rfl,⟨HL9.out,Ho9.out,?_,?_,Hsw9.out⟩⟩
       ·have:=Hlen.out; simp at this ⊢; omega
       ·have h9:=Heq.out
        rw [rput_cons b x _ k l _ Hx.out] at h9;have e1:=E1.out;try have e2:=E2.out
        try have e0:=E0.out
        first
         |(exfalso; omega)
         |(first | rw [decide_eq_false e1] at h9 | rw [decide_eq_true e1] at h9
           try first | rw [decide_eq_false e2] at h9 | rw [decide_eq_true e2] at h9
           try first | rw [decide_eq_false (Int.not_le.2 e0)] at h9 | rw [decide_eq_true e0] at h9
           simpa using h9)
      case measure=>simp [intOf]; omega
   ·obtain rfl:k=l.length:=by omega
    have Ho:=Lib.hid HP.out.own;have HL:=Lib.hid HP.out.lay;have Hlen:=Lib.hid HP.out.len;have Heq:=Lib.hid HP.out.eq;have Hswr:=Lib.hid HP.out.sz;clear HP;have hi1:decide ((l.length:Int)<(l.length:Int))=false:=by simp
    obtain ⟨q0,q1,q2,q3⟩:=HL.out.c4 2 rfl
    cases ld with
    |true =>
     go_wp2_with fail;go_ret2;have h9:=Heq.out;rw [List.drop_eq_nil_of_le (Nat.le_refl _)] at h9;simp [rput] at h9;subst h9;exact ⟨_,rfl,own_lo Ho.out HB5.out,HL.out.below⟩
    |false =>
     have Hlen6:Hid (acc.length≤8):=by show _≤_; have:=Hlen.out; simp at this; omega
     have k0:=trivial;have k1:=trivial;have k2:=trivial;have k3:=trivial;go_wp2_with (at_builtin; refine wpList_append_rd (S:=fun _=>True) _ rfl (.tmp 77) (.tmp 79) _ rfl w5.heap.size 107 i0 _ 4 40 Tryz.underlying66 hi0 hz0 hz1 hz2 rfl (by omega) _ _ _ rfl (own_below Ho.out ((Below.refl _ _).alloc (Nat.le_refl _) _)) _ 1 _ rfl (rd_box (heap_alloc_new _ _)) (cellsB_one b) (by have:=Hlen6.out; simp only [maxLen]; omega) (by have:=Hlen6.out; omega) (by simp; have:=Hswr.out; omega) ?_; intro vw7 w7 hownw7 hgw7 hatw7; clear hatw7);have Ho7:Hid (w7.ownsRow w5.heap.size 107 4 vw7 (acc ++ [b]).length (flatB (acc ++ [b]))):=by show w7.ownsRow _ _ _ _ _ _; rw [← flatB_snoc,List.length_append]; exact hownw7
     have HL7:=Lib.hid (lay_app HL.out Ho.out HB5.out Hbl.out ((Below.refl _ _).alloc (Nat.le_refl _) _) hgw7);have Hsw7:Hid (w5.heap.size≤w7.heap.size):=Nat.le_trans Hswr.out (Nat.le_trans (by simp) hgw7.size);clear hownw7 hgw7;clear q0 q1 q2 q3 k0 k1 k2 k3;go_wp2_with fail;go_ret2;have h9:=Heq.out;rw [List.drop_eq_nil_of_le (Nat.le_refl _)] at h9;simp [rput] at h9;subst h9;exact ⟨_,rfl,own_lo Ho7.out HB5.out,HL7.out.below⟩
theorem rput_some (S:Nat→Prop) (l m:List Bf) (v:Value) (b:Bf) (hl:List Bool) (w:World) (h:BufsAt S w v l) (hr:Rises l) (hin:InB l) (h32:hl.length=32) (hn:l.length≤8) (hp:putB l b (heldL hl)=some m) :
  Calls Tryz.prog 69 #[v,bfV b,.agg (hldV hl)] w (RetPut0 m w):=by
 unfold putB at hp
 cases hi:isB l b.pos with
 |true =>
  rw [hi,if_pos rfl] at hp
  cases hp
  exact rput_all S l _ v b hl w h hr hin h32 hn (-1) (rput_map l b 0 (by omega) hr hi) (.inl ⟨hi,rfl⟩)
 |false =>
  rw [hi,if_neg (by simp)] at hp;by_cases h8:8≤l.length
  ·rw [if_pos h8] at hp
   by_cases hv:leastB l false (heldL hl)<0
   ·rw [if_pos hv] at hp; cases hp
   ·rw [if_neg hv] at hp
    cases hp
    have hj:leastB l false (heldL hl)=((leastB l false (heldL hl)).toNat:Int):=by omega
    have:=rput_ins l b (leastB l false (heldL hl)) 0 hr (isB_false.1 hi);rw [if_pos (by omega),Int.sub_zero] at this;exact rput_all S l _ v b hl w h hr hin h32 hn _ this (.inr (.inr ⟨hi,h8,by omega,rfl⟩))
  ·rw [if_neg h8] at hp
   cases hp
   have:=rput_ins l b (-1) 0 hr (isB_false.1 hi);rw [if_neg (by omega)] at this;exact rput_all S l _ v b hl w h hr hin h32 hn (-1) this (.inr (.inl ⟨hi,by omega,rfl⟩))
theorem rput_none (S:Nat→Prop) (l:List Bf) (v:Value) (b:Bf) (hl:List Bool) (w:World) (h:BufsAt S w v l) (hr:Rises l) (hin:InB l) (h32:hl.length=32) (hn:l.length≤8) (hp:putB l b (heldL hl)=none) :
  Calls Tryz.prog 69 #[v,bfV b,.agg (hldV hl)] w (Ret (.tuple #[.slice none 0 0,.int .i64 7]) w):=by
 unfold putB at hp
 cases hi:isB l b.pos with
 |true=>rw [hi,if_pos rfl] at hp; cases hp
 |false =>
  rw [hi,if_neg (by simp)] at hp;by_cases h8:8≤l.length
  ·rw [if_pos h8] at hp
   by_cases hv:leastB l false (heldL hl)<0
   ·exact rput_no S l [] v b hl w h hr hin h32 hn hi h8 hv
   ·rw [if_neg hv] at hp; cases hp
  ·rw [if_neg h8] at hp; cases hp
end Go.Proofs.YtagndjihiklmiaaGreatDoor
namespace Go.Proofs.YtagndjihiklmiaaGreatDoor
open Go
section
variable {P:Program}
def StableBut (dead:List Tmp) (R:World→World→Prop):List (Tmp × SlotFact)→Prop
 | []=>True
 |g :: gs=>(dead.contains g.1=true∨∀ v w w',g.2 v w→R w w'→g.2 v w')∧StableBut dead R gs
theorem slotG_stable_but {dead:List Tmp} {R:World→World→Prop} {a:Act} {d:Tmp} {v:Value} {w w':World} (hd0:dead.contains d=false):∀ {Gs:List (Tmp × SlotFact)},StableBut dead R Gs→slotG Gs a d v w→R w w'→slotG Gs a d v w'
 | [],_,h,_=>h
 |g :: gs,hst,h,hr=>by
  unfold slotG at *;rw [List.lookup_cons] at *;by_cases hd:(d == g.1)=true
  ·have e:d=g.1:=beq_iff_eq.1 hd
   simp only [hd,cond_true] at *;rcases hst.1 with h1 | h1
   ·rw [← e,hd0] at h1; cases h1
   ·exact h1 _ _ _ h hr
  ·simp only [Bool.not_eq_true] at hd
   simp only [hd,cond_false] at *;exact slotG_stable_but (Gs:=gs) (a:=a) hd0 hst.2 h hr
def FinBut (dead:List Tmp) (f:Tmp→Value) (w:World):List (Tmp × SlotFact)→Prop
 | []=>True
 |g :: gs=>(dead.contains g.1=true∨g.2 (f g.1) w)∧FinBut dead f w gs
theorem slotG_fin_but {dead:List Tmp} {f:Tmp→Value} {w:World} {a:Act}:∀ {Gs:List (Tmp × SlotFact)},(Gs.map (·.1)).Nodup→(∀ d,d ∈ Gs.map (·.1)→dead.contains d=false→slotG Gs a d (f d) w)→FinBut dead f w Gs
 | [],_,_=>trivial
 |g :: gs,hn,h=>by
  rw [List.map_cons,List.nodup_cons] at hn;refine ⟨?_,slotG_fin_but (a:=a) hn.2 (fun d hd hdd=>?_)⟩
  ·cases hc:dead.contains g.1 with
   |true=>exact .inl rfl
   |false =>
    right;have:=h g.1 (by simp) hc;unfold slotG at this;rw [List.lookup_cons] at this
    simpa using this
  ·have:=h d (by simp [hd]) hdd
   unfold slotG at this ⊢;rw [List.lookup_cons] at this
   have hne:(d == g.1)=false:=by
    have:d≠g.1:=fun e=>hn.1 (e▸hd)
    simpa using this
   rw [hne] at this;exact this
def deadB (L:List Oper) (m:Nat) (dead:List Tmp):Bool:=(List.range L.length).all fun k=>k == m || match L[k]? with
 |some o=>(tmpsOf o).all (fun d=>!dead.contains d)
 |none=>true
theorem deadB_ok {L:List Oper} {m:Nat} {dead:List Tmp} (h:deadB L m dead=true) {k:Nat} {o:Oper} (ho:L[k]?=some o) (hk:k≠m) {d:Tmp} (hd:d ∈ tmpsOf o):dead.contains d=false:=by
 unfold deadB at h;rw [List.all_eq_true] at h
 have hkl:k<L.length:=by
  rcases Nat.lt_or_ge k L.length with h' | h'
  ·exact h'
  ·rw [List.getElem?_eq_none h'] at ho; cases ho
 have h1:=h k (List.mem_range.2 hkl);rw [ho,Bool.or_eq_true,beq_iff_eq,List.all_eq_true] at h1;have h2:=(h1.resolve_left hk) d hd
 simpa using h2
def StepR (P:Program) (G:Tmp→SlotFact) (J:World→Prop) (R:World→World→Prop) (o:Oper):Prop :=
 ∀ ρ w,Plain ρ→J w→Reads G ρ w (tmpsOf o)→OpGives P o ρ w (fun v w'=>GD G o.dst v w'∧J w'∧R w w')
def StepsR (P:Program) (G:Tmp→SlotFact) (J:World→Prop) (R:Nat→World→World→Prop):Nat→List Oper→Prop
 |_,[]=>True
 |i,o :: os=>StepR P G J (R i) o∧StepsR P G J R (i+1) os
theorem steps_at_r {G:Tmp→SlotFact} {J:World→Prop} {R:Nat→World→World→Prop}:∀ {ops:List Oper} {k:Nat},StepsR P G J R k ops→∀ {i:Nat} {o:Oper},ops[i]?=some o→StepR P G J (R (k+i)) o
 | [],_,_,i,o,h=>by simp at h
 |o' :: os,k,hs,0,o,h=>by simp at h; subst h; exact hs.1
 |o' :: os,k,hs,i+1,o,h=>by
  have:=steps_at_r hs.2 (i:=i) (o:=o) (by simpa using h)
  rwa [show k+1+i=k+(i+1) by omega] at this
def tailB (L:List Oper):Bool:=(List.range (L.length - 1)).all fun j=>(List.range L.length).any fun k=>decide (j<k) && match L[k]? with
 |some o=>o.after.toList.any (fun e=>Region.binds .any e && e.on == j)
 |none=>false
theorem tail_all {L:List Oper} (h:tailB L=true) {C:Nat→Prop} (hC:∀ k o,L[k]?=some o→C k→∀ e ∈ o.after,Region.binds .any e=true→C e.on) (hl:C (L.length - 1)):∀ j,j<L.length→C j:=by
 unfold tailB at h;rw [List.all_eq_true] at h
 have key:∀ m j,j<L.length→L.length - 1 - j≤m→C j:=by
  intro m
  induction m with
  |zero=>intro j hj hm; have:j=L.length - 1:=by omega
         rw [this]; exact hl
  |succ m ih =>
   intro j hj hm;by_cases hje:j=L.length - 1
   ·rw [hje]; exact hl
   ·have h1:=h j (List.mem_range.2 (by omega))
    rw [List.any_eq_true] at h1;obtain ⟨k,hk,h2⟩:=h1;rw [List.mem_range] at hk;rw [Bool.and_eq_true,decide_eq_true_eq] at h2;obtain ⟨h3,h4⟩:=h2
    cases ho:L[k]? with
    |none=>rw [ho] at h4; cases h4
    |some o =>
     rw [ho] at h4;simp only [List.any_eq_true,Bool.and_eq_true,beq_iff_eq] at h4;obtain ⟨e,he,hb,hj'⟩:=h4;rw [← hj'];exact hC k o ho (ih k hk (by omega)) e (by simpa using he) hb
 exact fun j hj=>key _ j hj (Nat.le_refl _)
theorem wp_region_tail {id n:Nat} (m:Nat) (dead q:List Tmp) {L:List Oper} {t:Oper} {Q:Exit→Act→World→Prop} {a:Act} {w:World} (hm:P.follows .mixedOrders=true) (Gs:List (Tmp × SlotFact)) (J:World→Prop) (R:Nat→World→World→Prop)
  (hB:regB a.tmps.size L=true) (hn:L.length=n+1) (ht:L[n]?=some t) (htd:t.dst=none) (hT:tailB L=true) (hGs:Gs.map (·.1)=dstsOf (L.take n)) (hnd:(dstsOf (L.take n)).Nodup) (hdead:deadB L m dead=true) (hq:(q.all fun d=>dead.contains d || (L[m]?.bind (·.dst)) == some d)=true) (hJ:J w.drew) (hst:∀ i,i≠m→StableAll (R i) Gs) (hstm:StableBut q (R m) Gs)
  (hsteps:StepsR P (slotG Gs a) J R 0 (L.take n))
  (hlast:∀ f ρ w',FinBut dead f w' Gs→J w'→(∀ d,d ∉ dstsOf (L.take n)→f d=a.eval (.tmp d))→Plain ρ→(∀ d,ρ (.tmp d)=f d)→OpGives P t ρ w' (fun _ w''=>Q .normal (laid f (L.take n) a) w'')):(Code.region id L.toArray true).wp P Q a w:=by
 have hR:=regB_ok hB;have hget:∀ j:Nat,L.toArray[j]?=L[j]?:=fun j=>by simp
 have htake:∀ {j:Nat} {o:Oper},(L.take n)[j]?=some o→L[j]?=some o∧j<n:=fun {j o} h=>by
  rw [List.getElem?_take] at h
  split at h
  ·exact ⟨h,by assumption⟩
  ·cases h
 have hput:∀ {j:Nat} {o:Oper},L[j]?=some o→j<n→(L.take n)[j]?=some o:=fun {j o} h hj=>by rw [List.getElem?_take,if_pos hj]; exact h
 have hdst:∀ {j:Nat} {o:Oper} {d:Tmp},L[j]?=some o→o.dst=some d→j<n:=fun {j o d} h hd=>by
  have hjl:j<L.length:=by
   rcases Nat.lt_or_ge j L.length with h' | h'
   ·exact h'
   ·rw [List.getElem?_eq_none h'] at h; cases h
  apply Classical.byContradiction;intro hjn;have:j=n:=by omega
  subst this;rw [ht] at h
  cases h
  rw [htd] at hd
  cases hd
 have done:∀ (fuel:Nat) (listed:Array Bool) (b:Act) (w:World),listed.size=L.length→(∀ j,j<L.length→listed.getD j false=true)→Q .normal b w→wpAny P .any L.toArray Q fuel listed b w:=by
  intro fuel listed b w hsz hall hq
  have hnil:Region.ready .any L.toArray listed=[]:=by
   rw [List.eq_nil_iff_forall_not_mem];intro j hjr;obtain ⟨h1,o,ho,_⟩:=mem_ready.1 hjr;rw [hget] at ho
   have hjl:j<L.length:=by
    rcases Nat.lt_or_ge j L.length with h | h
    ·exact h
    ·rw [List.getElem?_eq_none h] at ho; cases ho
   have h2:=hall j hjl;simp only [Array.getD,hsz,hjl,dite_true] at h1 h2;rw [h1] at h2; cases h2
  cases fuel with
  |zero=>exact ⟨hnil,hq⟩
  |succ fuel=>exact ⟨fun _=>hq,fun i hi=>by rw [hnil] at hi; cases hi⟩
 have main:∀ (fuel:Nat) (listed:Array Bool) (b:Act) (w:World),listed.size=L.length→listed.getD n false=false→((List.range L.length).filter (fun j=>!listed.getD j true)).length≤fuel→J w→b.defers=a.defers→b.tmps.size=a.tmps.size →
   (∀ d,(∀ j o,L[j]?=some o→o.dst=some d→listed.getD j false=true)→(dead.contains d=true→listed.getD m false=false)→slotG Gs a d (b.eval (.tmp d)) w)→(∀ d,d ∉ dstsOf (L.take n)→b.tmps[d]?=a.tmps[d]?)→(∀ k o,L[k]?=some o→listed.getD k false=true→∀ e ∈ o.after,Region.binds .any e=true→listed.getD e.on false=true)→wpAny P .any L.toArray Q fuel listed b w:=by
  intro fuel
  induction fuel with
  |zero =>
   intro listed b w hsz hun hcnt hj hd1 hd2 hG hU hC;exfalso;have h0:(List.range L.length).filter (fun j=>!listed.getD j true)=[]:=List.eq_nil_of_length_eq_zero (by omega);have hnl:n<L.length:=by omega
   have:=List.filter_eq_nil_iff.1 h0 n (List.mem_range.2 hnl);simp only [Array.getD,hsz,hnl,dite_true] at this hun;rw [hun] at this;exact this rfl
  |succ fuel ih =>
   intro listed b w hsz hln hcnt hj hd1 hd2 hG hU hC;refine ⟨fun hr=>?_,fun i hi=>?_⟩
   ·exfalso
    have hall:∀ j,j<L.length→listed.getD j false=true:=by
     intro j hjl
     induction j using Nat.strongRecOn with
     |_ j ihj =>
      cases hl:listed.getD j false with
      |true=>rfl
      |false =>
       exfalso
       have hmem:j ∈ Region.ready .any L.toArray listed:=by
        refine mem_ready.2 ⟨?_,L[j],by rw [hget]; exact List.getElem?_eq_getElem hjl,fun e he hb=>?_⟩
        ·simp only [Array.getD,hsz,hjl,dite_true] at hl ⊢
         exact hl
        ·have ho:=hR.order j _ e (List.getElem?_eq_getElem hjl) he hb
         exact ihj e.on ho (by omega)
       rw [hr] at hmem; cases hmem
    have:=hall n (by omega);rw [hln] at this; cases this
   ·obtain ⟨hun,o,ho,hdone⟩:=mem_ready.1 hi
    have ho':=ho;rw [hget] at ho'
    have hil:i<L.length:=by
     rcases Nat.lt_or_ge i L.length with h | h
     ·exact h
     ·rw [List.getElem?_eq_none h] at ho'; cases ho'
    unfold wpOp;simp only [ho];have hw:Region.wanted o (yielded L.toArray b.tmps)=true:=by simp [Region.wanted,hR.guard i o ho']
    rw [if_pos hw];left;by_cases hin:i=n
    ·subst hin
     rw [ht] at ho'
     cases ho'
     have hL1:L.length - 1=i:=by omega
     have hall:∀ j,j<L.length→j≠i→listed.getD j false=true:=by
      have h:=tail_all hT (C:=fun k=>k=i∨listed.getD k false=true) (fun k ok hok hk e he hb=>by
       rcases hk with hk | hk
       ·subst hk
        rw [ht] at hok
        cases hok
        exact .inr (hdone e he hb)
       ·exact .inr (hC k ok hok hk e he hb)) (by rw [hL1]; exact .inl rfl)
      exact fun j hjl hji=>(h j hjl).resolve_left hji
     have hF:FinBut dead (fun d=>b.eval (.tmp d)) w Gs:=slotG_fin_but (a:=a) (by rw [hGs]; exact hnd) (fun d _ hdd=>hG d (fun j oj hoj hdj=>hall j (by have:=hdst hoj hdj; omega) (by have:=hdst hoj hdj; omega)) (fun h=>by rw [hdd] at h; cases h));have hstep:=hlast (fun d=>b.eval (.tmp d)) b.eval w hF hj (fun d hd=>by simp [Act.eval,hU d hd]) ⟨fun _=>rfl,fun _=>rfl,fun _=>rfl⟩ (fun _=>rfl)
     rw [laid_eq (a:=b) (fun d hl=>by simp [Act.eval,hl]) (L.take i) a hd1.symm hd2.symm (fun d hl=>by
      by_cases hm:d ∈ dstsOf (L.take i)
      ·exact .inr hm
      ·exact .inl (hU d hm).symm)] at hstep
     refine wp_of_gives hstep fun v w' hq=>?_;rw [htd];refine done _ _ _ _ (by simpa using hsz) (fun j hjl=>?_) hq;by_cases hji:j=i
     ·subst hji; simp [Array.getD,hsz,hil]
     ·rw [getD_set_ne false (Ne.symm hji)]
      exact hall j hjl hji
    ·have hlt:i<n:=by omega
     have hunl:listed.getD i false=false:=by
      simp only [Array.getD,hsz,hil,dite_true] at hun ⊢;exact hun
     have hstep:=steps_at_r hsteps (hput ho' hlt) b.eval w ⟨fun _=>rfl,fun _=>rfl,fun _=>rfl⟩ hj (reads_of fun d hd=>hG d (fun j oj hoj hdj=>by
      obtain ⟨e,he,hb,rfl⟩:=hR.waits i o j oj d ho' hoj hdj hd
      exact hdone e he hb) (fun hdd=>by
      by_cases him:i=m
      ·rw [← him]; exact hunl
      ·rw [deadB_ok hdead ho' him hd] at hdd; cases hdd))
     rw [Nat.zero_add] at hstep;refine wp_of_gives hstep fun v w' ⟨hv,hj',hr'⟩=>?_
     have hcnt':((List.range L.length).filter (fun j=>!(listed.setIfInBounds i true).getD j true)).length≤fuel:=by
      have hlt:((List.range L.length).filter (fun j=>!(listed.setIfInBounds i true).getD j true)).length<((List.range L.length).filter (fun j=>!listed.getD j true)).length:=by
       have e:(List.range L.length).filter (fun j=>!(listed.setIfInBounds i true).getD j true)=((List.range L.length).filter (fun j=>!listed.getD j true)).filter (fun j=>j != i):=by
        rw [List.filter_filter];apply List.filter_congr;intro j hj;by_cases hji:j=i
        ·subst hji
         have:(listed.setIfInBounds j true).getD j true=true:=by simp [Array.getD,hsz,hil]
         rw [this]; simp
        ·rw [getD_set_ne true (Ne.symm hji)]
         simp [hji]
       rw [e];apply List.length_filter_lt_length_iff_exists.2;exact ⟨i,List.mem_filter.2 ⟨List.mem_range.2 hil,by simpa using hun⟩,by simp⟩
      omega
     refine ih (listed.setIfInBounds i true) _ w' (by simpa using hsz) (by rw [getD_set_ne false hin]; exact hln) hcnt' hj' ?_ ?_ (fun d hd hdd=>?_) (fun d hd=>?_) (fun k ok hok hk e he hb=>?_)
     ·unfold Act.put; split <;> exact hd1
     ·unfold Act.put; split <;> simpa using hd2
     ·by_cases hod:o.dst=some d
      ·rw [hod] at hv
       have hdn:=hR.dst i o d ho' hod
       have:(b.put o.dst v).eval (.tmp d)=v:=by
        rw [hod];simp [Act.put,Act.eval,hd2,hdn]
       rw [this];exact hv
      ·have:(b.put o.dst v).eval (.tmp d)=b.eval (.tmp d):=Act.eval_put (fun e he=>by
        intro hh;injection hh with hh
        exact hod (by rw [he,hh]))
       rw [this]
       have hold:slotG Gs a d (b.eval (.tmp d)) w:=by
        refine hG d (fun j oj hoj hdj=>?_) (fun hc=>?_)
        ·have h3:=hd j oj hoj hdj
         by_cases hji:j=i
         ·subst hji
          rw [ho'] at hoj
          cases hoj
          exact absurd hdj hod
         ·rwa [getD_set_ne false (Ne.symm hji)] at h3
        ·have h3:=hdd hc
         by_cases hmi:m=i
         ·rw [hmi]; exact hunl
         ·rwa [getD_set_ne false (Ne.symm hmi)] at h3
       by_cases him:i=m
       ·subst him
        cases hc:dead.contains d with
        |true =>
         have h3:=hdd hc;simp [Array.getD,hsz,hil] at h3
        |false =>
         have hqc:q.contains d=false:=by
          cases hqd:q.contains d with
          |false=>rfl
          |true =>
           rw [List.all_eq_true] at hq;have h4:=hq d (by simpa using hqd);rw [hc,ho',Bool.false_or,beq_iff_eq] at h4;exact absurd h4 hod
         exact slotG_stable_but hqc hstm hold hr'
       ·exact slotG_stable (hst i him) hold hr'
     ·have hne:o.dst≠some d:=fun h=>hd (List.mem_filterMap.2 ⟨o,List.mem_of_getElem? (hput ho' hlt),h⟩)
      have hU':=hU d hd;unfold Act.put
      split
      ·rename_i e he
       simp only;rw [Array.getElem?_setIfInBounds_ne (fun h=>hne (by rw [he,h]))];exact hU'
      ·exact hU'
     ·by_cases hei:e.on=i
      ·rw [hei]
       simp [Array.getD,hsz,hil]
      ·rw [getD_set_ne false (Ne.symm hei)]
       by_cases hki:k=i
       ·subst hki
        rw [ho'] at hok
        cases hok
        exact hdone e he hb
       ·rw [getD_set_ne false (Ne.symm hki)] at hk
        exact hC k ok hok hk e he hb
 have hnone:∀ j,(Array.replicate L.toArray.size false).getD j false=false:=fun j=>by
  simp only [Array.getD]
  split <;> simp
 refine wp_region_any hm ?_;refine main _ _ _ _ (by simp) (hnone n) ?_ hJ rfl rfl (fun d hd _=>?_) (fun _ _=>rfl) (fun k ok _ hk=>?_)
 ·have:=List.length_filter_le (fun j=>!(Array.replicate L.toArray.size false).getD j true) (List.range L.length)
  simpa using this
 ·have:d ∉ Gs.map (·.1):=by
   rw [hGs];intro hm;obtain ⟨o,ho,hdo⟩:=List.mem_filterMap.1 hm;obtain ⟨j,hj⟩:=List.mem_iff_getElem?.1 ho;have:=hd j o (htake hj).1 hdo;rw [hnone] at this; cases this
  rw [slotG_none this]
 ·exfalso
  rw [hnone] at hk; cases hk
end
end Go.Proofs.YtagndjihiklmiaaGreatDoor
