/- The reference's PutBuf: one pass. gen_rput.py prints this text. -/
import Derived.Test.YtlomdfbnicbceaaGreatM31
import Derived.Test.YtlomdfbnicbceaaGreatM21
set_option linter.unusedSimpArgs false
set_option linter.unusedVariables false
set_option maxRecDepth 100000
set_option maxHeartbeats 8000000
namespace Go.Proofs.YtlomdfbnicbceaaGreat
open Go.RowKit
structure PutInv (w:World) (B0:Nat) (bl:List (Nat × TypeId × Array Value)) (b:Bf) (gone:Int) (l R:List Bf) (k:Nat) (acc:List Bf) (ld:Bool) (vo:Value) (wr:World):Prop where
 lay:Lay w wr bl
 own:wr.ownsRow B0 92 4 vo acc.length (flatB acc)
 len:acc.length≤k+if ld then 1 else 0
 eq:acc ++ rput b gone k (l.drop k) ld=R
 sz:B0≤wr.heap.size
theorem rd_box {w:World} {vb:Nat} {c0 c1 c2 c3:Value} {T:TypeId} (h:w.heap[vb]?=some (.cells #[c0,c1,c2,c3] T (0,0))):Rd (fun _=>True) w 4 (.slice (some ⟨vb,0,none⟩) 1 1) 1 [c0,c1,c2,c3] :=
 ⟨_,_,rfl,by omega,by simp [maxLen],rfl,fun _=>⟨vb,0,rfl,trivial,fun j u hu=>by rw [Nat.zero_add,cell_of_row _ _ _ _ _ _ h]; simpa using hu⟩⟩
theorem lay_app {w wr W2 w1:World} {B0 n:Nat} {bl:List (Nat × TypeId × Array Value)} {vo:Value} {xs:List Value} (h:Lay w wr bl) (ho:wr.ownsRow B0 92 4 vo n xs) (hB:w.heap.size≤B0) (hbl:∀ x ∈ bl,x.1<B0)
  (hb:Below wr.heap.size wr W2) (hg:W2.grownBy w1 vo.ownBlock):Lay w w1 bl :=
 (h.step hb).chg (F:=fun k=>B0≤k) ((Chg.refl).grown hg (fun k hk=>.inl (ho.lt k hk).1)) (fun k hk=>by omega) (fun x hx hk=>by have:=hbl x hx; omega)
theorem rput_cons (b x:Bf) (gone:Int) (k:Nat) (l:List Bf) (ld:Bool) (hx:l[k]?=some x):rput b gone k (l.drop k) ld=(if !ld && decide (b.pos≤x.pos) then [b] else []) ++ (if !decide (x.pos=b.pos) && !decide ((k:Int)=gone) then [x] else []) ++ rput b gone (k+1:Nat) (l.drop (k+1)) (ld || decide (b.pos≤x.pos)):=by
 obtain ⟨h,e⟩:=List.getElem?_eq_some_iff.1 hx
 rw [List.drop_eq_getElem_cons h,e,rput]
 rfl
theorem flatB_one1 (b:Bf):flatB [b]=b.cells:=by simp [flatB]
theorem flatB_snoc (acc:List Bf) (b:Bf):flatB acc ++ [.int .i64 b.pos,.string b.data,.bool b.dirty,.int .i64 b.used]=flatB (acc ++ [b]):=by rw [flatB_app,flatB_one1]; rfl
def RetPut0 (m:List Bf) (w:World):Ending→World→Prop:=fun e w'=>∃ v,e=.returned (.tuple #[v,.int .i64 0])∧w'.ownsRow w.heap.size 92 4 v m.length (flatB m)∧Below w.heap.size w w'
theorem rput_no (S:Nat→Prop) (l R:List Bf) (v:Value) (b:Bf) (hl:List Bool) (w:World) (h:BufsAt S w v l) (hr:Rises l) (hin:InB l) (h32:hl.length=32) (hn:l.length≤8) (hi:isB l b.pos=false) (h8:8≤l.length) (hv:leastB l false (heldL hl)<0) :
  Calls Tryz.prog 69 #[v,bfV b,.agg (hldV hl)] w (Ret (.tuple #[.slice none 0 0,.int .i64 7]) w):=by
 obtain ⟨A,cap,rfl,h1,h2⟩:=h.form
 unfold maxLen at h2
 obtain ⟨i0,hi0,hz0,hz1,hz2⟩:=info_parts bufInfo
 have H:=Lib.hid h
 have HR:=Lib.hid hr
 have HI:=Lib.hid hin
 have Hi:=Lib.hid hi
 have H32:=Lib.hid h32
 have hz:=zero_buf
 clear h hr hin hi h32
 obtain ⟨V,hV⟩:∃ V,hldV hl=V:=⟨_,rfl⟩
 have HV:=Lib.hid hV
 rw [hV]
 have Hs:Hid ((Tryz.prog.info? 103).map (·.size)=some V.size):=show _=_ by rw [← HV.out,heldInfo]; simp [hldV,H32.out]
 clear hV
 go_enter Tryz.func69,Tryz.ntmps69
 go_wp2_with fail
 have L:=Lib.hid (((Lay.refl w).alloc' w.heap.size #[.int .i64 b.pos,.string b.data,.bool b.dirty,.int .i64 b.used] 92 rfl).alloc' (w.heap.size+1) V 103 (by simp))
 generalize World.alloc _ _=W at L ⊢
 refine (rget_any S l _ b.pos _ (H.out.below L.out.below) HR.out (by omega)).mono ?_
 rintro e w1 ⟨rfl,hb1⟩
 have L1:=Lib.hid (L.out.step hb1)
 obtain ⟨g1,hg1⟩:∃ g1,(getB l b.pos).1=g1:=⟨_,rfl⟩
 rw [getB_is,Hi.out,hg1]
 clear hb1 hg1 L
 obtain ⟨n2,hn2⟩:∃ n2,w1.heap.size=n2:=⟨_,rfl⟩
 obtain ⟨q0,q1,q2,q3⟩:=L1.out.c4 1 rfl
 have hd0:(8:Int)≤(l.length:Int):=by omega
 have L2:=L1.out.alloc' n2 #[.int .i64 g1.pos,.string g1.data,.bool g1.dirty,.int .i64 g1.used] 92 hn2
 have Hrow:=Lib.hid (L2.at_ 1 rfl)
 have L2:=Lib.hid L2
 go_wp2_with (refine wpList_load_row rfl 103 (.tmp 5) rfl (w.heap.size+1) rfl 103 V (0,0) _ Hrow.out Tryz.underlying103 rfl Hs.out ?_)
 clear Hrow q0 q1 q2 q3 hd0 L1
 rw [← HV.out] at L2 ⊢
 generalize World.alloc _ _=w4 at L2 ⊢
 refine (least_any S l _ false hl _ (H.out.below L2.out.below) HI.out H32.out (by omega)).mono ?_
 rintro e w5 ⟨rfl,hb5⟩
 have HL5:=Lib.hid (L2.out.step hb5)
 rw [HV.out] at HL5 ⊢
 clear hb5 L2
 go_wp2_with fail
 go_ret2
 exact ⟨rfl,HL5.out.below⟩
theorem rput_all (S:Nat→Prop) (l R:List Bf) (v:Value) (b:Bf) (hl:List Bool) (w:World) (h:BufsAt S w v l) (hr:Rises l) (hin:InB l) (h32:hl.length=32) (hn:l.length≤8) (gone:Int) (hR:rput b gone 0 l false=R)
  (hc:(isB l b.pos=true∧gone = -1)∨(isB l b.pos=false∧l.length<8∧gone = -1)∨(isB l b.pos=false∧8≤l.length∧0≤gone∧leastB l false (heldL hl)=gone)) :
  Calls Tryz.prog 69 #[v,bfV b,.agg (hldV hl)] w (RetPut0 R w):=by
 have HR0:=Lib.hid hR
 have HC:=Lib.hid hc
 clear hR hc
 obtain ⟨A,cap,rfl,h1,h2⟩:=h.form
 unfold maxLen at h2
 obtain ⟨i0,hi0,hz0,hz1,hz2⟩:=info_parts bufInfo
 have H:=Lib.hid h
 have HR:=Lib.hid hr
 have HI:=Lib.hid hin
 have H32:=Lib.hid h32
 have hz:=zero_buf
 clear h hr hin h32
 obtain ⟨V,hV⟩:∃ V,hldV hl=V:=⟨_,rfl⟩
 have HV:=Lib.hid hV
 rw [hV]
 have Hs:Hid ((Tryz.prog.info? 103).map (·.size)=some V.size):=show _=_ by rw [← HV.out,heldInfo]; simp [hldV,H32.out]
 clear hV
 go_enter Tryz.func69,Tryz.ntmps69
 go_wp2_with fail
 have L:=Lib.hid (((Lay.refl w).alloc' w.heap.size #[.int .i64 b.pos,.string b.data,.bool b.dirty,.int .i64 b.used] 92 rfl).alloc' (w.heap.size+1) V 103 (by simp))
 generalize World.alloc _ _=W at L ⊢
 refine (rget_any S l _ b.pos _ (H.out.below L.out.below) HR.out (by omega)).mono ?_
 rintro e w1 ⟨rfl,hb1⟩
 have L1:=Lib.hid (L.out.step hb1)
 obtain ⟨g1,hg1⟩:∃ g1,(getB l b.pos).1=g1:=⟨_,rfl⟩
 rw [getB_is,hg1]
 clear hb1 hg1 L
 obtain ⟨n2,hn2⟩:∃ n2,w1.heap.size=n2:=⟨_,rfl⟩
 obtain ⟨q0,q1,q2,q3⟩:=L1.out.c4 1 rfl
 rcases HC.out with ⟨hi,hg⟩ | ⟨hi,h8,hg⟩ | ⟨hi,h8,hg,hv⟩
 case' inl =>
  have Hg:=Lib.hid hg
  rw [hi]
  clear hi hg HC
  have hd0:=trivial
  have HL5:=Lib.hid (L1.out.alloc' n2 #[.int .i64 g1.pos,.string g1.data,.bool g1.dirty,.int .i64 g1.used] 92 hn2)
  go_wp2_with fail
  generalize World.alloc _ _=w5 at HL5 ⊢
  clear q0 q1 q2 q3 hn2 L1 hd0
  rw [← Hg.out]
 case' inr.inl =>
  have Hg:=Lib.hid hg
  have hd0:decide ((8:Int)≤(l.length:Int))=false:=by simp; omega
  rw [hi]
  clear hi hg HC h8
  have HL5:=Lib.hid (L1.out.alloc' n2 #[.int .i64 g1.pos,.string g1.data,.bool g1.dirty,.int .i64 g1.used] 92 hn2)
  go_wp2_with fail
  generalize World.alloc _ _=w5 at HL5 ⊢
  clear q0 q1 q2 q3 hn2 L1 hd0
  rw [← Hg.out]
 case' inr.inr =>
  have Hg:=Lib.hid hg
  have Hv:=Lib.hid hv
  rw [hi]
  clear hi hg hv HC
  have hd0:(8:Int)≤(l.length:Int):=by omega
  have L2:=L1.out.alloc' n2 #[.int .i64 g1.pos,.string g1.data,.bool g1.dirty,.int .i64 g1.used] 92 hn2
  have Hrow:=Lib.hid (L2.at_ 1 rfl)
  have L2:=Lib.hid L2
  go_wp2_with (refine wpList_load_row rfl 103 (.tmp 5) rfl (w.heap.size+1) rfl 103 V (0,0) _ Hrow.out Tryz.underlying103 rfl Hs.out ?_)
  clear Hrow q0 q1 q2 q3 hd0 L1
  rw [← HV.out] at L2 ⊢
  generalize World.alloc _ _=w4 at L2 ⊢
  refine (least_any S l _ false hl _ (H.out.below L2.out.below) HI.out H32.out (by omega)).mono ?_
  rintro e w5 ⟨rfl,hb5⟩
  have HL5:=Lib.hid (L2.out.step hb5)
  rw [HV.out] at HL5 ⊢
  clear hb5 L2
  rw [Hv.out]
  have hj0:decide (gone<0)=false:=by have:=Hg.out; simp; omega
  clear hn2 h8
  go_wp2_with fail
  clear hj0 Hv
 all_goals
  clear Hg
  have HB5:Hid (w.heap.size≤w5.heap.size):=HL5.out.size
  have Hbl:Hid (∀ x ∈ [(n2,92,#[.int .i64 g1.pos,.string g1.data,.bool g1.dirty,.int .i64 g1.used]),(w.heap.size+1,103,V),(w.heap.size,92,#[.int .i64 b.pos,.string b.data,.bool b.dirty,.int .i64 b.used])],x.1<w5.heap.size):=fun x hx=>HL5.out.lt hx
  have H0:Hid (PutInv w w5.heap.size [(n2,92,#[.int .i64 g1.pos,.string g1.data,.bool g1.dirty,.int .i64 g1.used]),(w.heap.size+1,103,V),(w.heap.size,92,#[.int .i64 b.pos,.string b.data,.bool b.dirty,.int .i64 b.used])] b gone l R 0 [] false (.slice none 0 0) w5):=⟨HL5.out,World.ownsRow_nil _ _ _ _,by simp,by simpa using HR0.out,Nat.le_refl _⟩
  go_loopw [11,12,13] (fun vo lb i wr=>∃ (k:Nat) (acc:List Bf) (ld:Bool),k≤l.length∧i=.int .i64 k∧lb=.bool ld∧Hid (PutInv w w5.heap.size [(n2,92,#[.int .i64 g1.pos,.string g1.data,.bool g1.dirty,.int .i64 g1.used]),(w.heap.size+1,103,V),(w.heap.size,92,#[.int .i64 b.pos,.string b.data,.bool b.dirty,.int .i64 b.used])] b gone l R k acc ld vo wr)) (fun _ _ i _=>l.length - (intOf i).toNat)
  case atStart=>exact ⟨0,[],false,by omega,rfl,rfl,H0⟩
  case round =>
   obtain ⟨k,acc,ld,hk,rfl,rfl,HP⟩:=hrel
   by_cases hlt:k<l.length
   ·have hkl:(k:Int)<(l.length:Int):=by omega
    have hx:l[k]?=some l[k]:=List.getElem?_eq_getElem hlt
    have Hx:=Lib.hid hx
    clear hx
    generalize l[k]=x at *
    cases ld with
    |true =>
     by_cases e1:x.pos=b.pos
     ·have f1:(x.pos != b.pos)=false:=by simp [e1]
      have F1:Hid (decide (x.pos=b.pos)=true):=decide_eq_true e1
      clear e1
      have Ho:=Lib.hid HP.out.own
      have HL:=Lib.hid HP.out.lay
      have Hlen:=Lib.hid HP.out.len
      have Heq:=Lib.hid HP.out.eq
      have Hswr:=Lib.hid HP.out.sz
      clear HP
      obtain ⟨q0,q1,q2,q3⟩:=HL.out.c4 2 rfl
      obtain ⟨bx,off,e,_,hbl,hc⟩:=(H.out.below HL.out.below).at_ (by omega)
      cases e
      obtain ⟨_,k0,k1,k2,k3⟩:=hc k _ Hx.out
      clear hc
      go_wp2_with fail
      go_quiet (fail)
      have Hbw6:=Lib.hid (drewN_below' wr.heap.size wr nq)
      have Ho6:=Lib.hid (own_below Ho.out Hbw6.out)
      have HL6:=Lib.hid (HL.out.step Hbw6.out)
      have Hsw6:=Lib.hid (Nat.le_trans Hswr.out Hbw6.out.size)
      clear q0 q1 q2 q3 k0 k1 k2 k3
      generalize World.drewN _ _=w6 at Hbw6 Ho6 HL6 Hsw6 ⊢
      obtain ⟨q0,q1,q2,q3⟩:=HL6.out.c4 2 rfl
      obtain ⟨bx,off,e,_,hbl,hc⟩:=(H.out.below HL6.out.below).at_ (by omega)
      cases e
      obtain ⟨_,k0,k1,k2,k3⟩:=hc k _ Hx.out
      clear hc
      have Hlen6:Hid (acc.length≤8):=by show _≤_; have:=Hlen.out; split at this <;> omega
      go_wp2_with fail
      go_quiet (fail)
      have Hbw8:=Lib.hid (drewN_below' w6.heap.size w6 nq)
      have Ho8:=Lib.hid (own_below Ho6.out Hbw8.out)
      have HL8:=Lib.hid (HL6.out.step Hbw8.out)
      have Hsw8:=Lib.hid (Nat.le_trans Hsw6.out Hbw8.out.size)
      clear q0 q1 q2 q3 k0 k1 k2 k3
      generalize World.drewN _ _=w8 at Hbw8 Ho8 HL8 Hsw8 ⊢
      obtain ⟨q0,q1,q2,q3⟩:=HL8.out.c4 2 rfl
      obtain ⟨bx,off,e,_,hbl,hc⟩:=(H.out.below HL8.out.below).at_ (by omega)
      cases e
      obtain ⟨_,k0,k1,k2,k3⟩:=hc k _ Hx.out
      clear hc
      go_wp2_with fail
      go_roundw
      case rel =>
       refine ⟨k+1,acc,_,by omega,by go_num,rfl,⟨HL8.out,Ho8.out,?_,?_,Hsw8.out⟩⟩
       ·have:=Hlen.out; simp at this ⊢; omega
       ·have h9:=Heq.out; rw [rput_cons b x _ k l _ Hx.out] at h9; rw [Bool.true_or,F1.out] at h9; simpa using h9
      case measure=>simp [intOf]; omega
     ·have f1:(x.pos != b.pos)=true:=by simp [e1]
      have F1:Hid (decide (x.pos=b.pos)=false):=decide_eq_false e1
      clear e1
      by_cases e2:(k:Int)=gone
      ·have f2:((k:Int) != gone)=false:=by simp [e2]
       have F2:Hid (decide ((k:Int)=gone)=true):=decide_eq_true e2
       clear e2
       have Ho:=Lib.hid HP.out.own
       have HL:=Lib.hid HP.out.lay
       have Hlen:=Lib.hid HP.out.len
       have Heq:=Lib.hid HP.out.eq
       have Hswr:=Lib.hid HP.out.sz
       clear HP
       obtain ⟨q0,q1,q2,q3⟩:=HL.out.c4 2 rfl
       obtain ⟨bx,off,e,_,hbl,hc⟩:=(H.out.below HL.out.below).at_ (by omega)
       cases e
       obtain ⟨_,k0,k1,k2,k3⟩:=hc k _ Hx.out
       clear hc
       go_wp2_with fail
       go_quiet (fail)
       have Hbw6:=Lib.hid (drewN_below' wr.heap.size wr nq)
       have Ho6:=Lib.hid (own_below Ho.out Hbw6.out)
       have HL6:=Lib.hid (HL.out.step Hbw6.out)
       have Hsw6:=Lib.hid (Nat.le_trans Hswr.out Hbw6.out.size)
       clear q0 q1 q2 q3 k0 k1 k2 k3
       generalize World.drewN _ _=w6 at Hbw6 Ho6 HL6 Hsw6 ⊢
       obtain ⟨q0,q1,q2,q3⟩:=HL6.out.c4 2 rfl
       obtain ⟨bx,off,e,_,hbl,hc⟩:=(H.out.below HL6.out.below).at_ (by omega)
       cases e
       obtain ⟨_,k0,k1,k2,k3⟩:=hc k _ Hx.out
       clear hc
       have Hlen6:Hid (acc.length≤8):=by show _≤_; have:=Hlen.out; split at this <;> omega
       go_wp2_with fail
       go_quiet (fail)
       have Hbw8:=Lib.hid (drewN_below' w6.heap.size w6 nq)
       have Ho8:=Lib.hid (own_below Ho6.out Hbw8.out)
       have HL8:=Lib.hid (HL6.out.step Hbw8.out)
       have Hsw8:=Lib.hid (Nat.le_trans Hsw6.out Hbw8.out.size)
       clear q0 q1 q2 q3 k0 k1 k2 k3
       generalize World.drewN _ _=w8 at Hbw8 Ho8 HL8 Hsw8 ⊢
       obtain ⟨q0,q1,q2,q3⟩:=HL8.out.c4 2 rfl
       obtain ⟨bx,off,e,_,hbl,hc⟩:=(H.out.below HL8.out.below).at_ (by omega)
       cases e
       obtain ⟨_,k0,k1,k2,k3⟩:=hc k _ Hx.out
       clear hc
       go_wp2_with fail
       go_roundw
       case rel =>
        refine ⟨k+1,acc,_,by omega,by go_num,rfl,⟨HL8.out,Ho8.out,?_,?_,Hsw8.out⟩⟩
        ·have:=Hlen.out; simp at this ⊢; omega
        ·have h9:=Heq.out; rw [rput_cons b x _ k l _ Hx.out] at h9; rw [Bool.true_or,F1.out,F2.out] at h9; simpa using h9
       case measure=>simp [intOf]; omega
      ·have f2:((k:Int) != gone)=true:=by simp [e2]
       have F2:Hid (decide ((k:Int)=gone)=false):=decide_eq_false e2
       clear e2
       have Ho:=Lib.hid HP.out.own
       have HL:=Lib.hid HP.out.lay
       have Hlen:=Lib.hid HP.out.len
       have Heq:=Lib.hid HP.out.eq
       have Hswr:=Lib.hid HP.out.sz
       clear HP
       obtain ⟨q0,q1,q2,q3⟩:=HL.out.c4 2 rfl
       obtain ⟨bx,off,e,_,hbl,hc⟩:=(H.out.below HL.out.below).at_ (by omega)
       cases e
       obtain ⟨_,k0,k1,k2,k3⟩:=hc k _ Hx.out
       clear hc
       go_wp2_with fail
       go_quiet (fail)
       have Hbw6:=Lib.hid (drewN_below' wr.heap.size wr nq)
       have Ho6:=Lib.hid (own_below Ho.out Hbw6.out)
       have HL6:=Lib.hid (HL.out.step Hbw6.out)
       have Hsw6:=Lib.hid (Nat.le_trans Hswr.out Hbw6.out.size)
       clear q0 q1 q2 q3 k0 k1 k2 k3
       generalize World.drewN _ _=w6 at Hbw6 Ho6 HL6 Hsw6 ⊢
       obtain ⟨q0,q1,q2,q3⟩:=HL6.out.c4 2 rfl
       obtain ⟨bx,off,e,_,hbl,hc⟩:=(H.out.below HL6.out.below).at_ (by omega)
       cases e
       obtain ⟨_,k0,k1,k2,k3⟩:=hc k _ Hx.out
       clear hc
       have Hlen6:Hid (acc.length≤8):=by show _≤_; have:=Hlen.out; split at this <;> omega
       go_wp2_with fail
       go_quiet (fail)
       have Hbw8:=Lib.hid (drewN_below' w6.heap.size w6 nq)
       have Ho8:=Lib.hid (own_below Ho6.out Hbw8.out)
       have HL8:=Lib.hid (HL6.out.step Hbw8.out)
       have Hsw8:=Lib.hid (Nat.le_trans Hsw6.out Hbw8.out.size)
       clear q0 q1 q2 q3 k0 k1 k2 k3
       generalize World.drewN _ _=w8 at Hbw8 Ho8 HL8 Hsw8 ⊢
       obtain ⟨q0,q1,q2,q3⟩:=HL8.out.c4 2 rfl
       obtain ⟨bx,off,e,_,hbl,hc⟩:=(H.out.below HL8.out.below).at_ (by omega)
       cases e
       obtain ⟨_,k0,k1,k2,k3⟩:=hc k _ Hx.out
       clear hc
       go_wp2_with (at_builtin; refine wpList_append_rd (S:=fun _=>True) _ rfl (.tmp 68) (.tmp 73) _ rfl w5.heap.size 92 i0 _ 4 40 Tryz.underlying52 hi0 hz0 hz1 hz2 rfl (by omega) _ _ _ rfl (own_below Ho8.out ((Below.refl _ _).alloc (Nat.le_refl _) _)) _ 1 _ rfl (rd_box (heap_alloc_new _ _)) (cellsB_one x) (by have:=Hlen6.out; simp only [maxLen]; omega) (by have:=Hlen6.out; omega) (by simp; have:=Hsw8.out; omega) ?_; intro vw9 w9 hownw9 hgw9 hatw9; clear hatw9)
       have Ho9:Hid (w9.ownsRow w5.heap.size 92 4 vw9 (acc ++ [x]).length (flatB (acc ++ [x]))):=by show w9.ownsRow _ _ _ _ _ _; rw [← flatB_snoc,List.length_append]; exact hownw9
       have HL9:=Lib.hid (lay_app HL8.out Ho8.out HB5.out Hbl.out ((Below.refl _ _).alloc (Nat.le_refl _) _) hgw9)
       have Hsw9:Hid (w5.heap.size≤w9.heap.size):=Nat.le_trans Hsw8.out (Nat.le_trans (by simp) hgw9.size)
       clear hownw9 hgw9
       clear q0 q1 q2 q3 k0 k1 k2 k3
       go_wp2_with fail
       go_roundw
       case rel =>
        refine ⟨k+1,(acc ++ [x]),_,by omega,by go_num,rfl,⟨HL9.out,Ho9.out,?_,?_,Hsw9.out⟩⟩
        ·have:=Hlen.out; simp at this ⊢; omega
        ·have h9:=Heq.out; rw [rput_cons b x _ k l _ Hx.out] at h9; rw [Bool.true_or,F1.out,F2.out] at h9; simpa using h9
       case measure=>simp [intOf]; omega
    |false =>
     by_cases e0:b.pos≤x.pos
     ·have F0:Hid (decide (b.pos≤x.pos)=true):=decide_eq_true e0
      by_cases e1:x.pos=b.pos
      ·have f1:(x.pos != b.pos)=false:=by simp [e1]
       have F1:Hid (decide (x.pos=b.pos)=true):=decide_eq_true e1
       clear e1
       have Ho:=Lib.hid HP.out.own
       have HL:=Lib.hid HP.out.lay
       have Hlen:=Lib.hid HP.out.len
       have Heq:=Lib.hid HP.out.eq
       have Hswr:=Lib.hid HP.out.sz
       clear HP
       obtain ⟨q0,q1,q2,q3⟩:=HL.out.c4 2 rfl
       obtain ⟨bx,off,e,_,hbl,hc⟩:=(H.out.below HL.out.below).at_ (by omega)
       cases e
       obtain ⟨_,k0,k1,k2,k3⟩:=hc k _ Hx.out
       clear hc
       go_wp2_with fail
       go_quiet (fail)
       have Hbw6:=Lib.hid (drewN_below' wr.heap.size wr nq)
       have Ho6:=Lib.hid (own_below Ho.out Hbw6.out)
       have HL6:=Lib.hid (HL.out.step Hbw6.out)
       have Hsw6:=Lib.hid (Nat.le_trans Hswr.out Hbw6.out.size)
       clear q0 q1 q2 q3 k0 k1 k2 k3
       generalize World.drewN _ _=w6 at Hbw6 Ho6 HL6 Hsw6 ⊢
       obtain ⟨q0,q1,q2,q3⟩:=HL6.out.c4 2 rfl
       obtain ⟨bx,off,e,_,hbl,hc⟩:=(H.out.below HL6.out.below).at_ (by omega)
       cases e
       obtain ⟨_,k0,k1,k2,k3⟩:=hc k _ Hx.out
       clear hc
       have Hlen6:Hid (acc.length≤8):=by show _≤_; have:=Hlen.out; split at this <;> omega
       go_wp2_with (at_builtin; refine wpList_append_rd (S:=fun _=>True) _ rfl (.tmp 51) (.tmp 53) _ rfl w5.heap.size 92 i0 _ 4 40 Tryz.underlying52 hi0 hz0 hz1 hz2 rfl (by omega) _ _ _ rfl (own_below Ho6.out ((Below.refl _ _).alloc (Nat.le_refl _) _)) _ 1 _ rfl (rd_box (heap_alloc_new _ _)) (cellsB_one b) (by have:=Hlen6.out; simp only [maxLen]; omega) (by have:=Hlen6.out; omega) (by simp; have:=Hsw6.out; omega) ?_; intro vw7 w7 hownw7 hgw7 hatw7; clear hatw7)
       have Ho7:Hid (w7.ownsRow w5.heap.size 92 4 vw7 (acc ++ [b]).length (flatB (acc ++ [b]))):=by show w7.ownsRow _ _ _ _ _ _; rw [← flatB_snoc,List.length_append]; exact hownw7
       have HL7:=Lib.hid (lay_app HL6.out Ho6.out HB5.out Hbl.out ((Below.refl _ _).alloc (Nat.le_refl _) _) hgw7)
       have Hsw7:Hid (w5.heap.size≤w7.heap.size):=Nat.le_trans Hsw6.out (Nat.le_trans (by simp) hgw7.size)
       clear hownw7 hgw7
       clear q0 q1 q2 q3 k0 k1 k2 k3
       have Hlen7:Hid ((acc ++ [b]).length≤9):=by show _≤_; have:=Hlen6.out; simp; omega
       obtain ⟨q0,q1,q2,q3⟩:=HL7.out.c4 2 rfl
       obtain ⟨bx,off,e,_,hbl,hc⟩:=(H.out.below HL7.out.below).at_ (by omega)
       cases e
       obtain ⟨_,k0,k1,k2,k3⟩:=hc k _ Hx.out
       clear hc
       go_wp2_with fail
       go_quiet (fail)
       have Hbw8:=Lib.hid (drewN_below' w7.heap.size w7 nq)
       have Ho8:=Lib.hid (own_below Ho7.out Hbw8.out)
       have HL8:=Lib.hid (HL7.out.step Hbw8.out)
       have Hsw8:=Lib.hid (Nat.le_trans Hsw7.out Hbw8.out.size)
       clear q0 q1 q2 q3 k0 k1 k2 k3
       generalize World.drewN _ _=w8 at Hbw8 Ho8 HL8 Hsw8 ⊢
       obtain ⟨q0,q1,q2,q3⟩:=HL8.out.c4 2 rfl
       obtain ⟨bx,off,e,_,hbl,hc⟩:=(H.out.below HL8.out.below).at_ (by omega)
       cases e
       obtain ⟨_,k0,k1,k2,k3⟩:=hc k _ Hx.out
       clear hc
       go_wp2_with fail
       go_roundw
       case rel =>
        refine ⟨k+1,(acc ++ [b]),_,by omega,by go_num,rfl,⟨HL8.out,Ho8.out,?_,?_,Hsw8.out⟩⟩
        ·have:=Hlen.out; simp at this ⊢; omega
        ·have h9:=Heq.out; rw [rput_cons b x _ k l _ Hx.out] at h9; rw [F0.out,F1.out] at h9; simpa using h9
       case measure=>simp [intOf]; omega
      ·have f1:(x.pos != b.pos)=true:=by simp [e1]
       have F1:Hid (decide (x.pos=b.pos)=false):=decide_eq_false e1
       clear e1
       by_cases e2:(k:Int)=gone
       ·have f2:((k:Int) != gone)=false:=by simp [e2]
        have F2:Hid (decide ((k:Int)=gone)=true):=decide_eq_true e2
        clear e2
        have Ho:=Lib.hid HP.out.own
        have HL:=Lib.hid HP.out.lay
        have Hlen:=Lib.hid HP.out.len
        have Heq:=Lib.hid HP.out.eq
        have Hswr:=Lib.hid HP.out.sz
        clear HP
        obtain ⟨q0,q1,q2,q3⟩:=HL.out.c4 2 rfl
        obtain ⟨bx,off,e,_,hbl,hc⟩:=(H.out.below HL.out.below).at_ (by omega)
        cases e
        obtain ⟨_,k0,k1,k2,k3⟩:=hc k _ Hx.out
        clear hc
        go_wp2_with fail
        go_quiet (fail)
        have Hbw6:=Lib.hid (drewN_below' wr.heap.size wr nq)
        have Ho6:=Lib.hid (own_below Ho.out Hbw6.out)
        have HL6:=Lib.hid (HL.out.step Hbw6.out)
        have Hsw6:=Lib.hid (Nat.le_trans Hswr.out Hbw6.out.size)
        clear q0 q1 q2 q3 k0 k1 k2 k3
        generalize World.drewN _ _=w6 at Hbw6 Ho6 HL6 Hsw6 ⊢
        obtain ⟨q0,q1,q2,q3⟩:=HL6.out.c4 2 rfl
        obtain ⟨bx,off,e,_,hbl,hc⟩:=(H.out.below HL6.out.below).at_ (by omega)
        cases e
        obtain ⟨_,k0,k1,k2,k3⟩:=hc k _ Hx.out
        clear hc
        have Hlen6:Hid (acc.length≤8):=by show _≤_; have:=Hlen.out; split at this <;> omega
        go_wp2_with (at_builtin; refine wpList_append_rd (S:=fun _=>True) _ rfl (.tmp 51) (.tmp 53) _ rfl w5.heap.size 92 i0 _ 4 40 Tryz.underlying52 hi0 hz0 hz1 hz2 rfl (by omega) _ _ _ rfl (own_below Ho6.out ((Below.refl _ _).alloc (Nat.le_refl _) _)) _ 1 _ rfl (rd_box (heap_alloc_new _ _)) (cellsB_one b) (by have:=Hlen6.out; simp only [maxLen]; omega) (by have:=Hlen6.out; omega) (by simp; have:=Hsw6.out; omega) ?_; intro vw7 w7 hownw7 hgw7 hatw7; clear hatw7)
        have Ho7:Hid (w7.ownsRow w5.heap.size 92 4 vw7 (acc ++ [b]).length (flatB (acc ++ [b]))):=by show w7.ownsRow _ _ _ _ _ _; rw [← flatB_snoc,List.length_append]; exact hownw7
        have HL7:=Lib.hid (lay_app HL6.out Ho6.out HB5.out Hbl.out ((Below.refl _ _).alloc (Nat.le_refl _) _) hgw7)
        have Hsw7:Hid (w5.heap.size≤w7.heap.size):=Nat.le_trans Hsw6.out (Nat.le_trans (by simp) hgw7.size)
        clear hownw7 hgw7
        clear q0 q1 q2 q3 k0 k1 k2 k3
        have Hlen7:Hid ((acc ++ [b]).length≤9):=by show _≤_; have:=Hlen6.out; simp; omega
        obtain ⟨q0,q1,q2,q3⟩:=HL7.out.c4 2 rfl
        obtain ⟨bx,off,e,_,hbl,hc⟩:=(H.out.below HL7.out.below).at_ (by omega)
        cases e
        obtain ⟨_,k0,k1,k2,k3⟩:=hc k _ Hx.out
        clear hc
        go_wp2_with fail
        go_quiet (fail)
        have Hbw8:=Lib.hid (drewN_below' w7.heap.size w7 nq)
        have Ho8:=Lib.hid (own_below Ho7.out Hbw8.out)
        have HL8:=Lib.hid (HL7.out.step Hbw8.out)
        have Hsw8:=Lib.hid (Nat.le_trans Hsw7.out Hbw8.out.size)
        clear q0 q1 q2 q3 k0 k1 k2 k3
        generalize World.drewN _ _=w8 at Hbw8 Ho8 HL8 Hsw8 ⊢
        obtain ⟨q0,q1,q2,q3⟩:=HL8.out.c4 2 rfl
        obtain ⟨bx,off,e,_,hbl,hc⟩:=(H.out.below HL8.out.below).at_ (by omega)
        cases e
        obtain ⟨_,k0,k1,k2,k3⟩:=hc k _ Hx.out
        clear hc
        go_wp2_with fail
        go_roundw
        case rel =>
         refine ⟨k+1,(acc ++ [b]),_,by omega,by go_num,rfl,⟨HL8.out,Ho8.out,?_,?_,Hsw8.out⟩⟩
         ·have:=Hlen.out; simp at this ⊢; omega
         ·have h9:=Heq.out; rw [rput_cons b x _ k l _ Hx.out] at h9; rw [F0.out,F1.out,F2.out] at h9; simpa using h9
        case measure=>simp [intOf]; omega
       ·have f2:((k:Int) != gone)=true:=by simp [e2]
        have F2:Hid (decide ((k:Int)=gone)=false):=decide_eq_false e2
        clear e2
        have Ho:=Lib.hid HP.out.own
        have HL:=Lib.hid HP.out.lay
        have Hlen:=Lib.hid HP.out.len
        have Heq:=Lib.hid HP.out.eq
        have Hswr:=Lib.hid HP.out.sz
        clear HP
        obtain ⟨q0,q1,q2,q3⟩:=HL.out.c4 2 rfl
        obtain ⟨bx,off,e,_,hbl,hc⟩:=(H.out.below HL.out.below).at_ (by omega)
        cases e
        obtain ⟨_,k0,k1,k2,k3⟩:=hc k _ Hx.out
        clear hc
        go_wp2_with fail
        go_quiet (fail)
        have Hbw6:=Lib.hid (drewN_below' wr.heap.size wr nq)
        have Ho6:=Lib.hid (own_below Ho.out Hbw6.out)
        have HL6:=Lib.hid (HL.out.step Hbw6.out)
        have Hsw6:=Lib.hid (Nat.le_trans Hswr.out Hbw6.out.size)
        clear q0 q1 q2 q3 k0 k1 k2 k3
        generalize World.drewN _ _=w6 at Hbw6 Ho6 HL6 Hsw6 ⊢
        obtain ⟨q0,q1,q2,q3⟩:=HL6.out.c4 2 rfl
        obtain ⟨bx,off,e,_,hbl,hc⟩:=(H.out.below HL6.out.below).at_ (by omega)
        cases e
        obtain ⟨_,k0,k1,k2,k3⟩:=hc k _ Hx.out
        clear hc
        have Hlen6:Hid (acc.length≤8):=by show _≤_; have:=Hlen.out; split at this <;> omega
        go_wp2_with (at_builtin; refine wpList_append_rd (S:=fun _=>True) _ rfl (.tmp 51) (.tmp 53) _ rfl w5.heap.size 92 i0 _ 4 40 Tryz.underlying52 hi0 hz0 hz1 hz2 rfl (by omega) _ _ _ rfl (own_below Ho6.out ((Below.refl _ _).alloc (Nat.le_refl _) _)) _ 1 _ rfl (rd_box (heap_alloc_new _ _)) (cellsB_one b) (by have:=Hlen6.out; simp only [maxLen]; omega) (by have:=Hlen6.out; omega) (by simp; have:=Hsw6.out; omega) ?_; intro vw7 w7 hownw7 hgw7 hatw7; clear hatw7)
        have Ho7:Hid (w7.ownsRow w5.heap.size 92 4 vw7 (acc ++ [b]).length (flatB (acc ++ [b]))):=by show w7.ownsRow _ _ _ _ _ _; rw [← flatB_snoc,List.length_append]; exact hownw7
        have HL7:=Lib.hid (lay_app HL6.out Ho6.out HB5.out Hbl.out ((Below.refl _ _).alloc (Nat.le_refl _) _) hgw7)
        have Hsw7:Hid (w5.heap.size≤w7.heap.size):=Nat.le_trans Hsw6.out (Nat.le_trans (by simp) hgw7.size)
        clear hownw7 hgw7
        clear q0 q1 q2 q3 k0 k1 k2 k3
        have Hlen7:Hid ((acc ++ [b]).length≤9):=by show _≤_; have:=Hlen6.out; simp; omega
        obtain ⟨q0,q1,q2,q3⟩:=HL7.out.c4 2 rfl
        obtain ⟨bx,off,e,_,hbl,hc⟩:=(H.out.below HL7.out.below).at_ (by omega)
        cases e
        obtain ⟨_,k0,k1,k2,k3⟩:=hc k _ Hx.out
        clear hc
        go_wp2_with fail
        go_quiet (fail)
        have Hbw8:=Lib.hid (drewN_below' w7.heap.size w7 nq)
        have Ho8:=Lib.hid (own_below Ho7.out Hbw8.out)
        have HL8:=Lib.hid (HL7.out.step Hbw8.out)
        have Hsw8:=Lib.hid (Nat.le_trans Hsw7.out Hbw8.out.size)
        clear q0 q1 q2 q3 k0 k1 k2 k3
        generalize World.drewN _ _=w8 at Hbw8 Ho8 HL8 Hsw8 ⊢
        obtain ⟨q0,q1,q2,q3⟩:=HL8.out.c4 2 rfl
        obtain ⟨bx,off,e,_,hbl,hc⟩:=(H.out.below HL8.out.below).at_ (by omega)
        cases e
        obtain ⟨_,k0,k1,k2,k3⟩:=hc k _ Hx.out
        clear hc
        go_wp2_with (at_builtin; refine wpList_append_rd (S:=fun _=>True) _ rfl (.tmp 68) (.tmp 73) _ rfl w5.heap.size 92 i0 _ 4 40 Tryz.underlying52 hi0 hz0 hz1 hz2 rfl (by omega) _ _ _ rfl (own_below Ho8.out ((Below.refl _ _).alloc (Nat.le_refl _) _)) _ 1 _ rfl (rd_box (heap_alloc_new _ _)) (cellsB_one x) (by have:=Hlen7.out; simp only [maxLen]; omega) (by have:=Hlen7.out; omega) (by simp; have:=Hsw8.out; omega) ?_; intro vw9 w9 hownw9 hgw9 hatw9; clear hatw9)
        have Ho9:Hid (w9.ownsRow w5.heap.size 92 4 vw9 ((acc ++ [b]) ++ [x]).length (flatB ((acc ++ [b]) ++ [x]))):=by show w9.ownsRow _ _ _ _ _ _; rw [← flatB_snoc,List.length_append]; exact hownw9
        have HL9:=Lib.hid (lay_app HL8.out Ho8.out HB5.out Hbl.out ((Below.refl _ _).alloc (Nat.le_refl _) _) hgw9)
        have Hsw9:Hid (w5.heap.size≤w9.heap.size):=Nat.le_trans Hsw8.out (Nat.le_trans (by simp) hgw9.size)
        clear hownw9 hgw9
        clear q0 q1 q2 q3 k0 k1 k2 k3
        go_wp2_with fail
        go_roundw
        case rel =>
         refine ⟨k+1,((acc ++ [b]) ++ [x]),_,by omega,by go_num,rfl,⟨HL9.out,Ho9.out,?_,?_,Hsw9.out⟩⟩
         ·have:=Hlen.out; simp at this ⊢; omega
         ·have h9:=Heq.out; rw [rput_cons b x _ k l _ Hx.out] at h9; rw [F0.out,F1.out,F2.out] at h9; simpa using h9
        case measure=>simp [intOf]; omega
     ·have F0:Hid (decide (b.pos≤x.pos)=false):=decide_eq_false e0
      have f0:decide (b.pos≤x.pos)=false:=decide_eq_false e0
      clear e0
      by_cases e1:x.pos=b.pos
      ·have f1:(x.pos != b.pos)=false:=by simp [e1]
       have F1:Hid (decide (x.pos=b.pos)=true):=decide_eq_true e1
       clear e1
       have Ho:=Lib.hid HP.out.own
       have HL:=Lib.hid HP.out.lay
       have Hlen:=Lib.hid HP.out.len
       have Heq:=Lib.hid HP.out.eq
       have Hswr:=Lib.hid HP.out.sz
       clear HP
       obtain ⟨q0,q1,q2,q3⟩:=HL.out.c4 2 rfl
       obtain ⟨bx,off,e,_,hbl,hc⟩:=(H.out.below HL.out.below).at_ (by omega)
       cases e
       obtain ⟨_,k0,k1,k2,k3⟩:=hc k _ Hx.out
       clear hc
       go_wp2_with fail
       go_quiet (fail)
       have Hbw6:=Lib.hid (drewN_below' wr.heap.size wr nq)
       have Ho6:=Lib.hid (own_below Ho.out Hbw6.out)
       have HL6:=Lib.hid (HL.out.step Hbw6.out)
       have Hsw6:=Lib.hid (Nat.le_trans Hswr.out Hbw6.out.size)
       clear q0 q1 q2 q3 k0 k1 k2 k3
       generalize World.drewN _ _=w6 at Hbw6 Ho6 HL6 Hsw6 ⊢
       obtain ⟨q0,q1,q2,q3⟩:=HL6.out.c4 2 rfl
       obtain ⟨bx,off,e,_,hbl,hc⟩:=(H.out.below HL6.out.below).at_ (by omega)
       cases e
       obtain ⟨_,k0,k1,k2,k3⟩:=hc k _ Hx.out
       clear hc
       have Hlen6:Hid (acc.length≤8):=by show _≤_; have:=Hlen.out; split at this <;> omega
       go_wp2_with fail
       go_quiet (fail)
       have Hbw8:=Lib.hid (drewN_below' w6.heap.size w6 nq)
       have Ho8:=Lib.hid (own_below Ho6.out Hbw8.out)
       have HL8:=Lib.hid (HL6.out.step Hbw8.out)
       have Hsw8:=Lib.hid (Nat.le_trans Hsw6.out Hbw8.out.size)
       clear q0 q1 q2 q3 k0 k1 k2 k3
       generalize World.drewN _ _=w8 at Hbw8 Ho8 HL8 Hsw8 ⊢
       obtain ⟨q0,q1,q2,q3⟩:=HL8.out.c4 2 rfl
       obtain ⟨bx,off,e,_,hbl,hc⟩:=(H.out.below HL8.out.below).at_ (by omega)
       cases e
       obtain ⟨_,k0,k1,k2,k3⟩:=hc k _ Hx.out
       clear hc
       go_wp2_with fail
       go_roundw
       case rel =>
        refine ⟨k+1,acc,_,by omega,by go_num,rfl,⟨HL8.out,Ho8.out,?_,?_,Hsw8.out⟩⟩
        ·have:=Hlen.out; simp at this ⊢; omega
        ·have h9:=Heq.out; rw [rput_cons b x _ k l _ Hx.out] at h9; rw [F0.out,F1.out] at h9; simpa using h9
       case measure=>simp [intOf]; omega
      ·have f1:(x.pos != b.pos)=true:=by simp [e1]
       have F1:Hid (decide (x.pos=b.pos)=false):=decide_eq_false e1
       clear e1
       by_cases e2:(k:Int)=gone
       ·have f2:((k:Int) != gone)=false:=by simp [e2]
        have F2:Hid (decide ((k:Int)=gone)=true):=decide_eq_true e2
        clear e2
        have Ho:=Lib.hid HP.out.own
        have HL:=Lib.hid HP.out.lay
        have Hlen:=Lib.hid HP.out.len
        have Heq:=Lib.hid HP.out.eq
        have Hswr:=Lib.hid HP.out.sz
        clear HP
        obtain ⟨q0,q1,q2,q3⟩:=HL.out.c4 2 rfl
        obtain ⟨bx,off,e,_,hbl,hc⟩:=(H.out.below HL.out.below).at_ (by omega)
        cases e
        obtain ⟨_,k0,k1,k2,k3⟩:=hc k _ Hx.out
        clear hc
        go_wp2_with fail
        go_quiet (fail)
        have Hbw6:=Lib.hid (drewN_below' wr.heap.size wr nq)
        have Ho6:=Lib.hid (own_below Ho.out Hbw6.out)
        have HL6:=Lib.hid (HL.out.step Hbw6.out)
        have Hsw6:=Lib.hid (Nat.le_trans Hswr.out Hbw6.out.size)
        clear q0 q1 q2 q3 k0 k1 k2 k3
        generalize World.drewN _ _=w6 at Hbw6 Ho6 HL6 Hsw6 ⊢
        obtain ⟨q0,q1,q2,q3⟩:=HL6.out.c4 2 rfl
        obtain ⟨bx,off,e,_,hbl,hc⟩:=(H.out.below HL6.out.below).at_ (by omega)
        cases e
        obtain ⟨_,k0,k1,k2,k3⟩:=hc k _ Hx.out
        clear hc
        have Hlen6:Hid (acc.length≤8):=by show _≤_; have:=Hlen.out; split at this <;> omega
        go_wp2_with fail
        go_quiet (fail)
        have Hbw8:=Lib.hid (drewN_below' w6.heap.size w6 nq)
        have Ho8:=Lib.hid (own_below Ho6.out Hbw8.out)
        have HL8:=Lib.hid (HL6.out.step Hbw8.out)
        have Hsw8:=Lib.hid (Nat.le_trans Hsw6.out Hbw8.out.size)
        clear q0 q1 q2 q3 k0 k1 k2 k3
        generalize World.drewN _ _=w8 at Hbw8 Ho8 HL8 Hsw8 ⊢
        obtain ⟨q0,q1,q2,q3⟩:=HL8.out.c4 2 rfl
        obtain ⟨bx,off,e,_,hbl,hc⟩:=(H.out.below HL8.out.below).at_ (by omega)
        cases e
        obtain ⟨_,k0,k1,k2,k3⟩:=hc k _ Hx.out
        clear hc
        go_wp2_with fail
        go_roundw
        case rel =>
         refine ⟨k+1,acc,_,by omega,by go_num,rfl,⟨HL8.out,Ho8.out,?_,?_,Hsw8.out⟩⟩
         ·have:=Hlen.out; simp at this ⊢; omega
         ·have h9:=Heq.out; rw [rput_cons b x _ k l _ Hx.out] at h9; rw [F0.out,F1.out,F2.out] at h9; simpa using h9
        case measure=>simp [intOf]; omega
       ·have f2:((k:Int) != gone)=true:=by simp [e2]
        have F2:Hid (decide ((k:Int)=gone)=false):=decide_eq_false e2
        clear e2
        have Ho:=Lib.hid HP.out.own
        have HL:=Lib.hid HP.out.lay
        have Hlen:=Lib.hid HP.out.len
        have Heq:=Lib.hid HP.out.eq
        have Hswr:=Lib.hid HP.out.sz
        clear HP
        obtain ⟨q0,q1,q2,q3⟩:=HL.out.c4 2 rfl
        obtain ⟨bx,off,e,_,hbl,hc⟩:=(H.out.below HL.out.below).at_ (by omega)
        cases e
        obtain ⟨_,k0,k1,k2,k3⟩:=hc k _ Hx.out
        clear hc
        go_wp2_with fail
        go_quiet (fail)
        have Hbw6:=Lib.hid (drewN_below' wr.heap.size wr nq)
        have Ho6:=Lib.hid (own_below Ho.out Hbw6.out)
        have HL6:=Lib.hid (HL.out.step Hbw6.out)
        have Hsw6:=Lib.hid (Nat.le_trans Hswr.out Hbw6.out.size)
        clear q0 q1 q2 q3 k0 k1 k2 k3
        generalize World.drewN _ _=w6 at Hbw6 Ho6 HL6 Hsw6 ⊢
        obtain ⟨q0,q1,q2,q3⟩:=HL6.out.c4 2 rfl
        obtain ⟨bx,off,e,_,hbl,hc⟩:=(H.out.below HL6.out.below).at_ (by omega)
        cases e
        obtain ⟨_,k0,k1,k2,k3⟩:=hc k _ Hx.out
        clear hc
        have Hlen6:Hid (acc.length≤8):=by show _≤_; have:=Hlen.out; split at this <;> omega
        go_wp2_with fail
        go_quiet (fail)
        have Hbw8:=Lib.hid (drewN_below' w6.heap.size w6 nq)
        have Ho8:=Lib.hid (own_below Ho6.out Hbw8.out)
        have HL8:=Lib.hid (HL6.out.step Hbw8.out)
        have Hsw8:=Lib.hid (Nat.le_trans Hsw6.out Hbw8.out.size)
        clear q0 q1 q2 q3 k0 k1 k2 k3
        generalize World.drewN _ _=w8 at Hbw8 Ho8 HL8 Hsw8 ⊢
        obtain ⟨q0,q1,q2,q3⟩:=HL8.out.c4 2 rfl
        obtain ⟨bx,off,e,_,hbl,hc⟩:=(H.out.below HL8.out.below).at_ (by omega)
        cases e
        obtain ⟨_,k0,k1,k2,k3⟩:=hc k _ Hx.out
        clear hc
        go_wp2_with (at_builtin; refine wpList_append_rd (S:=fun _=>True) _ rfl (.tmp 68) (.tmp 73) _ rfl w5.heap.size 92 i0 _ 4 40 Tryz.underlying52 hi0 hz0 hz1 hz2 rfl (by omega) _ _ _ rfl (own_below Ho8.out ((Below.refl _ _).alloc (Nat.le_refl _) _)) _ 1 _ rfl (rd_box (heap_alloc_new _ _)) (cellsB_one x) (by have:=Hlen6.out; simp only [maxLen]; omega) (by have:=Hlen6.out; omega) (by simp; have:=Hsw8.out; omega) ?_; intro vw9 w9 hownw9 hgw9 hatw9; clear hatw9)
        have Ho9:Hid (w9.ownsRow w5.heap.size 92 4 vw9 (acc ++ [x]).length (flatB (acc ++ [x]))):=by show w9.ownsRow _ _ _ _ _ _; rw [← flatB_snoc,List.length_append]; exact hownw9
        have HL9:=Lib.hid (lay_app HL8.out Ho8.out HB5.out Hbl.out ((Below.refl _ _).alloc (Nat.le_refl _) _) hgw9)
        have Hsw9:Hid (w5.heap.size≤w9.heap.size):=Nat.le_trans Hsw8.out (Nat.le_trans (by simp) hgw9.size)
        clear hownw9 hgw9
        clear q0 q1 q2 q3 k0 k1 k2 k3
        go_wp2_with fail
        go_roundw
        case rel =>
         refine ⟨k+1,(acc ++ [x]),_,by omega,by go_num,rfl,⟨HL9.out,Ho9.out,?_,?_,Hsw9.out⟩⟩
         ·have:=Hlen.out; simp at this ⊢; omega
         ·have h9:=Heq.out; rw [rput_cons b x _ k l _ Hx.out] at h9; rw [F0.out,F1.out,F2.out] at h9; simpa using h9
        case measure=>simp [intOf]; omega
   ·obtain rfl:k=l.length:=by omega
    have Ho:=Lib.hid HP.out.own
    have HL:=Lib.hid HP.out.lay
    have Hlen:=Lib.hid HP.out.len
    have Heq:=Lib.hid HP.out.eq
    have Hswr:=Lib.hid HP.out.sz
    clear HP
    have hi1:decide ((l.length:Int)<(l.length:Int))=false:=by simp
    obtain ⟨q0,q1,q2,q3⟩:=HL.out.c4 2 rfl
    cases ld with
    |true =>
     go_wp2_with fail
     go_ret2
     have h9:=Heq.out
     rw [List.drop_eq_nil_of_le (Nat.le_refl _)] at h9
     simp [rput] at h9
     subst h9
     exact ⟨_,rfl,own_lo Ho.out HB5.out,HL.out.below⟩
    |false =>
     have Hlen6:Hid (acc.length≤8):=by show _≤_; have:=Hlen.out; simp at this; omega
     have k0:=trivial
     have k1:=trivial
     have k2:=trivial
     have k3:=trivial
     go_wp2_with (at_builtin; refine wpList_append_rd (S:=fun _=>True) _ rfl (.tmp 77) (.tmp 79) _ rfl w5.heap.size 92 i0 _ 4 40 Tryz.underlying52 hi0 hz0 hz1 hz2 rfl (by omega) _ _ _ rfl (own_below Ho.out ((Below.refl _ _).alloc (Nat.le_refl _) _)) _ 1 _ rfl (rd_box (heap_alloc_new _ _)) (cellsB_one b) (by have:=Hlen6.out; simp only [maxLen]; omega) (by have:=Hlen6.out; omega) (by simp; have:=Hswr.out; omega) ?_; intro vw7 w7 hownw7 hgw7 hatw7; clear hatw7)
     have Ho7:Hid (w7.ownsRow w5.heap.size 92 4 vw7 (acc ++ [b]).length (flatB (acc ++ [b]))):=by show w7.ownsRow _ _ _ _ _ _; rw [← flatB_snoc,List.length_append]; exact hownw7
     have HL7:=Lib.hid (lay_app HL.out Ho.out HB5.out Hbl.out ((Below.refl _ _).alloc (Nat.le_refl _) _) hgw7)
     have Hsw7:Hid (w5.heap.size≤w7.heap.size):=Nat.le_trans Hswr.out (Nat.le_trans (by simp) hgw7.size)
     clear hownw7 hgw7
     clear q0 q1 q2 q3 k0 k1 k2 k3
     go_wp2_with fail
     go_ret2
     have h9:=Heq.out
     rw [List.drop_eq_nil_of_le (Nat.le_refl _)] at h9
     simp [rput] at h9
     subst h9
     exact ⟨_,rfl,own_lo Ho7.out HB5.out,HL7.out.below⟩
theorem rput_some (S:Nat→Prop) (l m:List Bf) (v:Value) (b:Bf) (hl:List Bool) (w:World) (h:BufsAt S w v l) (hr:Rises l) (hin:InB l) (h32:hl.length=32) (hn:l.length≤8) (hp:putB l b (heldL hl)=some m) :
  Calls Tryz.prog 69 #[v,bfV b,.agg (hldV hl)] w (RetPut0 m w):=by
 unfold putB at hp
 cases hi:isB l b.pos with
 |true =>
  rw [hi,if_pos rfl] at hp
  cases hp
  exact rput_all S l _ v b hl w h hr hin h32 hn (-1) (rput_map l b 0 (by omega) hr hi) (.inl ⟨hi,rfl⟩)
 |false =>
  rw [hi,if_neg (by simp)] at hp
  by_cases h8:8≤l.length
  ·rw [if_pos h8] at hp
   by_cases hv:leastB l false (heldL hl)<0
   ·rw [if_pos hv] at hp; cases hp
   ·rw [if_neg hv] at hp
    cases hp
    have hj:leastB l false (heldL hl)=((leastB l false (heldL hl)).toNat:Int):=by omega
    have:=rput_ins l b (leastB l false (heldL hl)) 0 hr (isB_false.1 hi)
    rw [if_pos (by omega),Int.sub_zero] at this
    exact rput_all S l _ v b hl w h hr hin h32 hn _ this (.inr (.inr ⟨hi,h8,by omega,rfl⟩))
  ·rw [if_neg h8] at hp
   cases hp
   have:=rput_ins l b (-1) 0 hr (isB_false.1 hi)
   rw [if_neg (by omega)] at this
   exact rput_all S l _ v b hl w h hr hin h32 hn (-1) this (.inr (.inl ⟨hi,by omega,rfl⟩))
theorem rput_none (S:Nat→Prop) (l:List Bf) (v:Value) (b:Bf) (hl:List Bool) (w:World) (h:BufsAt S w v l) (hr:Rises l) (hin:InB l) (h32:hl.length=32) (hn:l.length≤8) (hp:putB l b (heldL hl)=none) :
  Calls Tryz.prog 69 #[v,bfV b,.agg (hldV hl)] w (Ret (.tuple #[.slice none 0 0,.int .i64 7]) w):=by
 unfold putB at hp
 cases hi:isB l b.pos with
 |true=>rw [hi,if_pos rfl] at hp; cases hp
 |false =>
  rw [hi,if_neg (by simp)] at hp
  by_cases h8:8≤l.length
  ·rw [if_pos h8] at hp
   by_cases hv:leastB l false (heldL hl)<0
   ·exact rput_no S l [] v b hl w h hr hin h32 hn hi h8 hv
   ·rw [if_neg hv] at hp; cases hp
  ·rw [if_neg h8] at hp; cases hp
end Go.Proofs.YtlomdfbnicbceaaGreat
