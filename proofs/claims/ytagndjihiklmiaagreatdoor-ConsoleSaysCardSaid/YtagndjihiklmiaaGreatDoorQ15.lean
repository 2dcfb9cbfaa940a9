/- find: where a sector is among those at hand (slices.BinarySearchFunc). -/
import Derived.Test.YtagndjihiklmiaaGreatDoorQ14
import Derived.Deep.LoopGhost
import Derived.BigRegion
set_option linter.unusedSimpArgs false
set_option linter.unusedVariables false
set_option maxRecDepth 100000
set_option maxHeartbeats 8000000
namespace Go.Proofs.YtagndjihiklmiaaGreatDoor
open Go.RowKit
theorem isnan_any (x:Int) (w:World):Calls Tryz.prog 189 #[.int .i64 x] w (RetSame (.bool false) w):=by
 go_enter Tryz.func189,Tryz.ntmps189;go_wp2;go_ret;exact ⟨by simp,rfl⟩
def cmpI (a b:Int):Int:=if a<b then -1 else if b<a then 1 else 0
theorem compare_any (a b:Int) (w:World):Calls Tryz.prog 165 #[.int .i64 a,.int .i64 b] w (RetSame (.int .i64 (cmpI a b)) w):=by
 by_cases h1:a<b
 ·have e:cmpI a b = -1:=if_pos h1
  rw [e];clear e;go_enter Tryz.func165,Tryz.ntmps165;go_wp2_with (go_at_call 189; refine (isnan_any _ _).mono ?_; rintro e w1 ⟨rfl,rfl⟩);go_ret;exact ⟨rfl,rfl⟩
 ·by_cases h2:b<a
  ·have e:cmpI a b=1:=by unfold cmpI; rw [if_neg h1,if_pos h2]
   rw [e];clear e;go_enter Tryz.func165,Tryz.ntmps165;go_wp2_with (go_at_call 189; refine (isnan_any _ _).mono ?_; rintro e w1 ⟨rfl,rfl⟩);go_ret;exact ⟨rfl,rfl⟩
  ·have e:cmpI a b=0:=by unfold cmpI; rw [if_neg h1,if_neg h2]
   rw [e];clear e;go_enter Tryz.func165,Tryz.ntmps165;go_wp2_with (go_at_call 189; refine (isnan_any _ _).mono ?_; rintro e w1 ⟨rfl,rfl⟩);go_ret;exact ⟨rfl,rfl⟩
theorem find1_any (b:Bf) (p:Int) (w:World):Calls Tryz.prog 164 #[bfV b,.int .i64 p] w (Ret (.int .i64 (cmpI b.pos p)) w):=by
 go_enter Tryz.func164,Tryz.ntmps164;go_wp2_with (go_at_call 165; refine (compare_any _ _ _).mono ?_; rintro e w1 ⟨rfl,rfl⟩);go_ret;exact ⟨rfl,(Below.refl _ _).alloc (Nat.le_refl _) _⟩
theorem bsearch_any (S:Nat→Prop) (l:List Bf) (v:Value) (p:Int) (w:World) (h:BufsAt S w v l) (hr:Rises l) (hn:l.length≤65536) :
  Calls Tryz.prog 163 #[v,.int .i64 p,.func (.func 164) #[] #[]] w (Ret (.tuple #[.int .i64 (posB l p:Nat),.bool (isB l p)]) w):=by
 obtain ⟨A,cap,rfl,h1,h2⟩:=h.form;unfold maxLen at h2;have H:=Lib.hid h;have HR:=Lib.hid hr;clear h hr
 obtain ⟨P,hP⟩:∃ x,posB l p=x:=⟨_,rfl⟩
 obtain ⟨B,hB⟩:∃ x,isB l p=x:=⟨_,rfl⟩
 rw [hP,hB];have HP:=Lib.hid hP;have HB:=Lib.hid hB;clear hP hB;go_enter Tryz.func163,Tryz.ntmps163;go_wp2;go_loopw [9,10] (fun s9 s10 wr=>∃ lo hi:Nat,s9=.int .i64 lo∧s10=.int .i64 hi∧lo≤hi∧hi≤l.length∧Below w.heap.size w wr∧Hid ((∀ i b,i<lo→l[i]?=some b→b.pos<p)∧(∀ i b,hi≤i→l[i]?=some b→p≤b.pos))) (fun s9 s10 _=>(intOf s10).toNat - (intOf s9).toNat)
 case atStart=>exact ⟨0,l.length,rfl,rfl,by omega,by omega,Below.refl _ _,⟨fun i b hi=>by omega,fun i b hi hb=>by rw [List.getElem?_eq_none hi] at hb; cases hb⟩⟩
 case round =>
  obtain ⟨lo,hi,rfl,rfl,hlh,hhn,hb,hI⟩:=hrel;by_cases hlt:lo<hi
  ·obtain ⟨b,off,rfl,_,hbl,hc⟩:=(H.out.below hb).at_ (by omega)
   have hx:l[(lo+hi) / 2]?=some l[(lo+hi) / 2]:=List.getElem?_eq_getElem (by omega);obtain ⟨hok,k0,k1,k2,k3⟩:=hc _ _ hx;have Hx:=Lib.hid hx;clear hx hc;generalize l[(lo+hi) / 2]=x at *;have hi1:((lo:Int)+(hi:Int)) / 2<(l.length:Int):=by omega
   by_cases hcx:x.pos<p
   ·have hc1:cmpI x.pos p = -1:=if_pos hcx
    go_wp2_with (go_at_call 164; refine (find1_any x p _).mono ?_; rintro e w1 ⟨rfl,hb1⟩; have hb2:=hb.trans (hb1.mono hb.size));go_roundw
    case rel=>exact ⟨(lo+hi) / 2+1,hi,by go_num,rfl,by omega,hhn,hb2,⟨fun i c hi2 hc2=>by
     rcases Nat.eq_or_lt_of_le (Nat.le_of_lt_succ hi2) with e | e
     ·subst e; rw [Hx.out] at hc2; cases hc2; exact hcx
     ·have:=HR.out.lt e hc2 Hx.out; omega,hI.out.2⟩⟩
    case measure=>simp [intOf]; omega
   ·have hc1:0≤cmpI x.pos p:=by unfold cmpI; rw [if_neg hcx]; split <;> omega
    go_wp2_with (go_at_call 164; refine (find1_any x p _).mono ?_; rintro e w1 ⟨rfl,hb1⟩; have hb2:=hb.trans (hb1.mono hb.size));go_roundw
    case rel=>exact ⟨lo,(lo+hi) / 2,rfl,by go_num,by omega,by omega,hb2,⟨hI.out.1,fun i c hi2 hc2=>by
     rcases Nat.eq_or_lt_of_le hi2 with e | e
     ·subst e; rw [Hx.out] at hc2; cases hc2; omega
     ·have:=HR.out.lt e Hx.out hc2; omega⟩⟩
    case measure=>simp [intOf]; omega
  ·obtain rfl:lo=hi:=by omega
   have e:P=lo:=HP.out.symm.trans (posB_eq HR.out hhn hI.out.1 hI.out.2);have e2:=HB.out.symm.trans (isB_pos (p:=p) HR.out);rw [HP.out] at e2;subst e;by_cases hln:P<l.length
   ·obtain ⟨b,off,rfl,_,hbl,hc⟩:=(H.out.below hb).at_ (by omega)
    have hx:l[P]?=some l[P]:=List.getElem?_eq_getElem hln;obtain ⟨hok,k0,k1,k2,k3⟩:=hc _ _ hx;rw [List.getD_eq_getElem?_getD,hx] at e2;clear hx hc;simp only [Option.getD_some] at e2;generalize l[P]=x at *;have E2:=Lib.hid e2;clear e2;have hi1:(P:Int)<(l.length:Int):=by omega
    go_wp2_with (go_at_call 164; refine (find1_any x p _).mono ?_; rintro e w1 ⟨rfl,hb1⟩; have hb2:=hb.trans (hb1.mono hb.size));go_ret2;refine ⟨?_,hb2⟩;rw [E2.out];simp [hln];unfold cmpI
    split
    ·simp; omega
    ·split
     ·simp; omega
     ·simp; omega
   ·have E2:=Lib.hid e2
    clear e2;have hi1:decide ((P:Int)<(l.length:Int))=false:=by simp; omega
    go_wp2;go_ret2;exact ⟨by rw [E2.out]; simp [hln],hb⟩
theorem find_any (S:Nat→Prop) (l:List Bf) (v:Value) (p:Int) (w:World) (h:BufsAt S w v l) (hr:Rises l) (hn:l.length≤65536) :
  Calls Tryz.prog 123 #[v,.int .i64 p] w (Ret (.tuple #[.int .i64 (posB l p:Nat),.bool (isB l p)]) w):=by
 obtain ⟨A,cap,rfl,h1,h2⟩:=h.form;have H:=Lib.hid h;have HR:=Lib.hid hr;clear h hr;go_enter Tryz.func123,Tryz.ntmps123;go_wp2_with (go_at_call 163; refine (bsearch_any S l _ p _ H.out HR.out hn).mono ?_; rintro e w1 ⟨rfl,hb1⟩);go_ret2;exact ⟨rfl,hb1⟩
end Go.Proofs.YtagndjihiklmiaaGreatDoor
namespace Go.Proofs.YtagndjihiklmiaaGreatDoor
open Go.RowKit
theorem zero_buf:∀ w,(zeroValue 107).run Tryz.prog w=.ok (.agg #[.int .i64 0,.string ⟨#[]⟩,.bool false,.int .i64 0]) w:=fun _=>by kernel_rfl
theorem Lay.c4 {w wr:World} {l:List (Nat × TypeId × Array Value)} (h:Lay w wr l) (i:Nat) {b:Nat} {T:TypeId} {c0 c1 c2 c3:Value} (hi:l[i]?=some (b,T,#[c0,c1,c2,c3])) :
  wr.cell? ⟨b,0,none⟩=some c0∧wr.cell? ⟨b,1,none⟩=some c1∧wr.cell? ⟨b,2,none⟩=some c2∧wr.cell? ⟨b,3,none⟩=some c3:=⟨h.cell i hi 0,h.cell i hi 1,h.cell i hi 2,h.cell i hi 3⟩
theorem Lay.put4 {w wr:World} {l:List (Nat × TypeId × Array Value)} (h:Lay w wr l) (i:Nat) {b:Nat} {T:TypeId} {c0 c1 c2 c3:Value} (hi:l[i]?=some (b,T,#[c0,c1,c2,c3])) (v0 v1 v2 v3:Value) :
  Lay w ((((wr.setCell ⟨b,0,none⟩ v0).setCell ⟨b,1,none⟩ v1).setCell ⟨b,2,none⟩ v2).setCell ⟨b,3,none⟩ v3) (l.set i (b,T,#[v0,v1,v2,v3])):=by
 have hlt:i<l.length:=(List.getElem?_eq_some_iff.1 hi).1;have g0:=h.set i hi 0 v0;have g1:=g0.set i (by rw [List.getElem?_set,if_pos rfl,if_pos hlt]) 1 v1;have g2:=g1.set i (by rw [List.getElem?_set,if_pos rfl,if_pos (by simpa using hlt)]) 2 v2;have g3:=g2.set i (by rw [List.getElem?_set,if_pos rfl,if_pos (by simpa using hlt)]) 3 v3
 simpa [List.set_set] using g3
theorem get_any (S:Nat→Prop) (l:List Bf) (v:Value) (p:Int) (w:World) (h:BufsAt S w v l) (hr:Rises l) (hn:l.length≤65536) :
  Calls Tryz.prog 83 #[v,.int .i64 p] w (Ret (.tuple #[bfV (getB l p).1,.bool (getB l p).2]) w):=by
 obtain ⟨A,cap,rfl,h1,h2⟩:=h.form;unfold maxLen at h2;have hz:=zero_buf;have H:=Lib.hid h;have HR:=Lib.hid hr;clear h hr
 cases hi:isB l p with
 |false =>
  rw [getB_no hi];go_enter Tryz.func83,Tryz.ntmps83;go_wp2_with fail;have L:=(Lay.refl w).alloc' w.heap.size #[.int .i64 0,.string ⟨#[]⟩,.bool false,.int .i64 0] 107 rfl;generalize World.alloc _ _=W at L ⊢;refine (find_any S l _ p _ (H.out.below L.below) HR.out hn).mono ?_;rintro e w1 ⟨rfl,hb1⟩;have L1:=L.step hb1;rw [hi];obtain ⟨q0,q1,q2,q3⟩:=L1.c4 0 rfl;have hfr:=L1.frozen 0 rfl;clear hb1 L;go_wp2_with fail;have L2:=L1.put4 0 rfl (.int .i64 0) (.string ⟨#[]⟩) (.bool false) (.int .i64 0);generalize World.setCell _ _ _=W2 at L2 ⊢;obtain ⟨q0,q1,q2,q3⟩:=L2.c4 0 rfl;refine bodyPost_ret (v:=.tuple #[bfV zeroBf,.bool false]) (by simp [results,Tryz.results83,go_sem,q0,q1,q2,q3,zeroBf]) rfl ?_;exact ⟨rfl,L2.below⟩
 |true =>
  obtain ⟨x,hx,hp⟩:=isB_at HR.out hi;rw [getB_of HR.out hx hp];have hlt:=(List.getElem?_eq_some_iff.1 hx).1;have hi1:((posB l p:Nat):Int)<(l.length:Int):=by omega
  have Hx:=Lib.hid hx;clear hx hp;go_enter Tryz.func83,Tryz.ntmps83;go_wp2_with fail;have L:=(Lay.refl w).alloc' w.heap.size #[.int .i64 0,.string ⟨#[]⟩,.bool false,.int .i64 0] 107 rfl;generalize World.alloc _ _=W at L ⊢;refine (find_any S l _ p _ (H.out.below L.below) HR.out hn).mono ?_;rintro e w1 ⟨rfl,hb1⟩;have L1:=L.step hb1;rw [hi];obtain ⟨q0,q1,q2,q3⟩:=L1.c4 0 rfl;have hfr:=L1.frozen 0 rfl;obtain ⟨b,off,rfl,_,hbl,hc⟩:=(H.out.below L1.below).at_ (by omega);obtain ⟨hok,k0,k1,k2,k3⟩:=hc _ _ Hx.out;clear hb1 L hc;go_wp2_with fail;have L2:=L1.put4 0 rfl (.int .i64 x.pos) (.string x.data) (.bool x.dirty) (.int .i64 x.used);generalize World.setCell _ _ _=W2 at L2 ⊢;obtain ⟨q0,q1,q2,q3⟩:=L2.c4 0 rfl;refine bodyPost_ret (v:=.tuple #[bfV x,.bool true]) (by simp [results,Tryz.results83,go_sem,q0,q1,q2,q3]) rfl ?_;exact ⟨rfl,L2.below⟩
end Go.Proofs.YtagndjihiklmiaaGreatDoor
namespace Go.Proofs.YtagndjihiklmiaaGreatDoor
open Go.RowKit
theorem rget_any (S:Nat→Prop) (l:List Bf) (v:Value) (p:Int) (w:World) (h:BufsAt S w v l) (hr:Rises l) (hn:l.length≤65536) :
  Calls Tryz.prog 60 #[v,.int .i64 p] w (Ret (.tuple #[bfV (getB l p).1,.bool (getB l p).2]) w):=by
 obtain ⟨A,cap,rfl,h1,h2⟩:=h.form;unfold maxLen at h2;have hz:=zero_buf;have H:=Lib.hid h;have HR:=Lib.hid hr;clear h hr
 obtain ⟨⟨g,G⟩,hG⟩:∃ x,getB l p=x:=⟨_,rfl⟩
 rw [hG];have HG:=Lib.hid hG;clear hG;go_enter Tryz.func60,Tryz.ntmps60;go_wp2_with fail;have L:=Lib.hid ((Lay.refl w).alloc' w.heap.size #[.int .i64 0,.string ⟨#[]⟩,.bool false,.int .i64 0] 107 rfl);generalize World.alloc _ _=W at L ⊢;go_loopw [6] (fun i wr=>∃ k:Nat,k≤l.length∧i=.int .i64 k∧Hid (Lay w wr [(w.heap.size,107,#[.int .i64 0,.string ⟨#[]⟩,.bool false,.int .i64 0])])∧Hid (∀ j b,j<k→l[j]?=some b→b.pos≠p)) (fun i _=>l.length - (intOf i).toNat)
 case atStart=>exact ⟨0,by omega,rfl,L,(fun j b hj=>by omega:∀ j b,j<0→l[j]?=some b→b.pos≠p)⟩
 case round =>
  obtain ⟨k,hk,rfl,HL,hno⟩:=hrel;obtain ⟨q0,q1,q2,q3⟩:=HL.out.c4 0 rfl;have hfr:=HL.out.frozen 0 rfl;by_cases hlt:k<l.length
  ·have hx:l[k]?=some l[k]:=List.getElem?_eq_getElem hlt
   have hi1:(k:Int)<(l.length:Int):=by omega
   obtain ⟨b,off,rfl,_,hbl,hc⟩:=(H.out.below HL.out.below).at_ (by omega);obtain ⟨hok,k0,k1,k2,k3⟩:=hc _ _ hx;have Hx:=Lib.hid hx;clear hx hc;generalize l[k]=x at *;by_cases hp:x.pos=p
   ·have hG:=HG.out
    rw [getB_of HR.out Hx.out hp] at hG;obtain ⟨e1,e2⟩:=Prod.mk.inj hG;subst e1 e2;clear hG;subst hp;go_wp2_with fail;have L2:=HL.out.put4 0 rfl (.int .i64 x.pos) (.string x.data) (.bool x.dirty) (.int .i64 x.used);generalize World.setCell _ _ _=W2 at L2 ⊢;obtain ⟨q0,q1,q2,q3⟩:=L2.c4 0 rfl;refine bodyPost_ret (v:=.tuple #[bfV x,.bool true]) (by simp [results,Tryz.results60,go_sem,q0,q1,q2,q3]) rfl ?_;exact ⟨rfl,L2.below⟩
   ·go_wp2_with fail
    go_roundw
    case rel=>exact ⟨k+1,by omega,by go_num,HL,(fun j b hj hb=>by
     rcases Nat.eq_or_lt_of_le (Nat.le_of_lt_succ hj) with e | e
     ·subst e; rw [Hx.out] at hb; cases hb; exact hp
     ·exact hno.out j b e hb:∀ j b,j<k+1→l[j]?=some b→b.pos≠p)⟩
    case measure=>simp [intOf]; omega
  ·have hG:=HG.out
   rw [getB_no (isB_false.2 (fun b hb=>by
    obtain ⟨j,hj⟩:=List.mem_iff_getElem?.1 hb
    exact hno.out j b (by have:=(List.getElem?_eq_some_iff.1 hj).1; omega) hj))] at hG
   cases hG
   have hi1:decide ((k:Int)<(l.length:Int))=false:=by simp; omega
   go_wp2_with fail;have L2:=HL.out.put4 0 rfl (.int .i64 0) (.string ⟨#[]⟩) (.bool false) (.int .i64 0);generalize World.setCell _ _ _=W2 at L2 ⊢;obtain ⟨q0,q1,q2,q3⟩:=L2.c4 0 rfl;refine bodyPost_ret (v:=.tuple #[bfV zeroBf,.bool false]) (by simp [results,Tryz.results60,go_sem,q0,q1,q2,q3,zeroBf]) rfl ?_;exact ⟨rfl,L2.below⟩
theorem dirtyB_succ {l:List Bf} {k:Nat} {x:Bf} (h:l[k]?=some x):dirtyB (l.take (k+1))=dirtyB (l.take k)+if x.dirty then 1 else 0:=by
 unfold dirtyB;rw [List.take_add_one,h,List.countP_append];simp [List.countP_cons]
theorem dirty_any (S:Nat→Prop) (l:List Bf) (v:Value) (w:World) (h:BufsAt S w v l) (hn:l.length≤65536) :
  Calls Tryz.prog 101 #[v] w (Ret (.int .i64 (dirtyB l:Nat)) w):=by
 obtain ⟨A,cap,rfl,h1,h2⟩:=h.form;unfold maxLen at h2;have hz:=zero_buf;have H:=Lib.hid h;clear h;go_enter Tryz.func101,Tryz.ntmps101;go_wp2_with fail;go_loopw [3,8] (fun s i wr=>∃ k:Nat,k≤l.length∧i=.int .i64 k∧s=.int .i64 (dirtyB (l.take k):Nat)∧Below w.heap.size w wr) (fun _ i _=>l.length - (intOf i).toNat)
 case atStart=>exact ⟨0,by omega,rfl,rfl,Below.refl _ _⟩
 case round =>
  obtain ⟨k,hk,rfl,rfl,hb⟩:=hrel;by_cases hlt:k<l.length
  ·have hx:l[k]?=some l[k]:=List.getElem?_eq_getElem hlt
   have hi1:(k:Int)<(l.length:Int):=by omega
   have hd:dirtyB (l.take k)≤k:=by unfold dirtyB; exact Nat.le_trans List.countP_le_length (by simp; omega)
   obtain ⟨b,off,rfl,_,hbl,hc⟩:=(H.out.below hb).at_ (by omega);obtain ⟨hok,k0,k1,k2,k3⟩:=hc _ _ hx;have Hx:=Lib.hid hx;clear hx hc;generalize l[k]=x at *;have HS:=Lib.hid (dirtyB_succ Hx.out);generalize dirtyB (l.take k)=D at *
   cases hxd:x.dirty with
   |true =>
    have hS:=HS.out;rw [hxd,if_pos rfl] at hS;rw [hxd] at k2;go_wp2_with fail;go_roundw
    case rel=>exact ⟨k+1,by omega,by go_num,by rw [hS]; go_num,hb.alloc hb.size _⟩
    case measure=>simp [intOf]; omega
   |false =>
    have hS:=HS.out;rw [hxd,if_neg (by simp)] at hS;rw [hxd] at k2;go_wp2_with fail;go_roundw
    case rel=>exact ⟨k+1,by omega,by go_num,by rw [hS]; go_num,hb.alloc hb.size _⟩
    case measure=>simp [intOf]; omega
  ·have e:l.take k=l:=List.take_of_length_le (by omega)
   rw [e];have hi1:decide ((k:Int)<(l.length:Int))=false:=by simp; omega
   go_wp2;go_ret;exact ⟨rfl,hb⟩
theorem rdirty_any (S:Nat→Prop) (l:List Bf) (v:Value) (w:World) (h:BufsAt S w v l) (hn:l.length≤65536) :
  Calls Tryz.prog 32 #[v] w (Ret (.int .i64 (dirtyB l:Nat)) w):=by
 obtain ⟨A,cap,rfl,h1,h2⟩:=h.form;unfold maxLen at h2;have H:=Lib.hid h;clear h;go_enter Tryz.func32,Tryz.ntmps32;go_wp2_with fail;go_loopw [3,4] (fun s i wr=>∃ k:Nat,k≤l.length∧i=.int .i64 k∧s=.int .i64 (dirtyB (l.take k):Nat)∧Below w.heap.size w wr) (fun _ i _=>l.length - (intOf i).toNat)
 case atStart=>exact ⟨0,by omega,rfl,rfl,Below.refl _ _⟩
 case round =>
  obtain ⟨k,hk,rfl,rfl,hb⟩:=hrel;by_cases hlt:k<l.length
  ·have hx:l[k]?=some l[k]:=List.getElem?_eq_getElem hlt
   have hi1:(k:Int)<(l.length:Int):=by omega
   have hd:dirtyB (l.take k)≤k:=by unfold dirtyB; exact Nat.le_trans List.countP_le_length (by simp; omega)
   obtain ⟨b,off,rfl,_,hbl,hc⟩:=(H.out.below hb).at_ (by omega);obtain ⟨hok,k0,k1,k2,k3⟩:=hc _ _ hx;have Hx:=Lib.hid hx;clear hx hc;generalize l[k]=x at *;have HS:=Lib.hid (dirtyB_succ Hx.out);generalize dirtyB (l.take k)=D at *
   cases hxd:x.dirty with
   |true =>
    have hS:=HS.out;rw [hxd,if_pos rfl] at hS;rw [hxd] at k2;go_wp2_with fail;go_roundw
    case rel=>exact ⟨k+1,by omega,by go_num,by rw [hS]; go_num,hb⟩
    case measure=>simp [intOf]; omega
   |false =>
    have hS:=HS.out;rw [hxd,if_neg (by simp)] at hS;rw [hxd] at k2;go_wp2_with fail;go_roundw
    case rel=>exact ⟨k+1,by omega,by go_num,by rw [hS]; go_num,hb⟩
    case measure=>simp [intOf]; omega
  ·have e:l.take k=l:=List.take_of_length_le (by omega)
   rw [e];have hi1:decide ((k:Int)<(l.length:Int))=false:=by simp; omega
   go_wp2;go_ret;exact ⟨rfl,hb⟩
end Go.Proofs.YtagndjihiklmiaaGreatDoor
namespace Go.Proofs.YtagndjihiklmiaaGreatDoor
open Go.RowKit
def Ret1 (T:Tys) (col:Nat→Nat) (w:World) (b bd N:Nat) (y:Sv) (t:St) (v:Value):Ending→World→Prop:=fun e w'=>e=.returned v∧Same1 b w w'∧StAt T col w' b bd N y t
def Sv.ans (x:Sv) (c:Nat) (d:ByteArray) (e:Nat):Sv:=match c with
 |0=>{ x with a0:=.pointer none,d0:=d,e0:=e }
 |1=>{ x with a1:=.pointer none,d1:=d,e1:=e }
 |_=>{ x with a2:=.pointer none,d2:=d,e2:=e }
section
variable {T:Tys} {col:Nat→Nat} {w w':World} {b bd N:Nat} {x:Sv} {s:St}
theorem askAt_answer {c j:Nat} {d:ByteArray} {e:Nat} (h3:s.asks.length=3) (hc:c<3):(s.answer c d e).askAt j=if j=c then none else s.askAt j:=by
 unfold St.askAt St.answer;simp only [List.getD_eq_getElem?_getD,List.getElem?_set];by_cases h:c=j
 ·subst h; simp [h3,hc]
 ·simp [h,Ne.symm h]
theorem StAt.ans (h:StAt T col w b bd N x s) (hb:Same1 b w w') {c:Nat} (hc:c<3) {d:ByteArray} {e:Nat} (hrow:w'.heap[b]?=some (.cells ((x.ans c d e).row s bd) T.S (0,0))):StAt T col w' b bd N (x.ans c d e) (s.answer c d e):=by
 have hask:∀ j,j<3→AskAt T.A (Fa col j) w ((x.ans c d e).av j) ((s.answer c d e).askAt j):=by
  intro j hj;rw [askAt_answer h.asks hc];have:=h.ask j hj
  match c,hc with
  |0,_=>match j,hj with
   |0,_=>rfl
   |1,_=>exact this
   |2,_=>exact this
  |1,_=>match j,hj with
   |0,_=>exact this
   |1,_=>rfl
   |2,_=>exact this
  |2,_=>match j,hj with
   |0,_=>exact this
   |1,_=>exact this
   |2,_=>rfl
 refine h.turn1 hb hrow ?_ ?_ ?_ rfl ?_ ?_ ?_ hask ?_ ?_
 ·match c,hc with | 0,_=>rfl | 1,_=>rfl | 2,_=>rfl
 ·match c,hc with | 0,_=>rfl | 1,_=>rfl | 2,_=>rfl
 ·match c,hc with | 0,_=>rfl | 1,_=>rfl | 2,_=>rfl
 ·have:=h.bufs; match c,hc with | 0,_=>exact this | 1,_=>exact this | 2,_=>exact this
 ·have:=h.wait; match c,hc with | 0,_=>exact this | 1,_=>exact this | 2,_=>exact this
 ·show (s.asks.set c none).length=3
  rw [List.length_set]; exact h.asks
 ·show s.done.set c d=_
  rw [h.done]
  match c,hc with | 0,_=>rfl | 1,_=>rfl | 2,_=>rfl
 ·show s.errs.set c e=_
  rw [h.errs]
  match c,hc with | 0,_=>rfl | 1,_=>rfl | 2,_=>rfl
end
theorem answer_any (col:Nat→Nat) (w:World) (b bd N:Nat) (x:Sv) (s:St) (c:Nat) (d:ByteArray) (e:Nat) (h:StAt Ts col w b bd N x s) (hc:c<3) :
  Calls Tryz.prog 132 #[.pointer (some ⟨b,0,none⟩),.int .i64 (c:Int),.string d,.int .i64 (e:Int)] w (Ret1 Ts col w b bd N (x.ans c d e) (s.answer c d e) (.tuple #[])):=by
 have H:=Lib.hid h;have c11:w.cell? ⟨b,11,none⟩=some x.a0:=h.cell 11;have c12:w.cell? ⟨b,12,none⟩=some x.a1:=h.cell 12;have c13:w.cell? ⟨b,13,none⟩=some x.a2:=h.cell 13;have c14:w.cell? ⟨b,14,none⟩=some (.string x.d0):=h.cell 14;have c15:w.cell? ⟨b,15,none⟩=some (.string x.d1):=h.cell 15;have c16:w.cell? ⟨b,16,none⟩=some (.string x.d2):=h.cell 16;have c17:w.cell? ⟨b,17,none⟩=some (.int .i64 (x.e0:Int)):=h.cell 17;have c18:w.cell? ⟨b,18,none⟩=some (.int .i64 (x.e1:Int)):=h.cell 18;have c19:w.cell? ⟨b,19,none⟩=some (.int .i64 (x.e2:Int)):=h.cell 19;have hfr:=fun k=>h.frozen k
 clear h
 match c,hc with
 |0,_ =>
  go_enter Tryz.func132,Tryz.ntmps132;go_wp2_with fail;go_region
  go_end0;have hrow:=heap_setCell_same _ _ 17 _ _ (.int .i64 (e:Int)) (heap_setCell_same _ _ 14 _ _ (.string d) (heap_setCell_same _ _ 11 _ _ (.pointer none) H.out.row));have hb:=(((Same1.refl (b:=b) (w:=w)).setCell 11 (.pointer none)).setCell 14 (.string d)).setCell 17 (.int .i64 (e:Int));exact ⟨rfl,hb.drew,H.out.ans hb.drew (by omega) hrow⟩
 |1,_ =>
  go_enter Tryz.func132,Tryz.ntmps132;go_wp2_with fail;go_region
  go_end0;have hrow:=heap_setCell_same _ _ 18 _ _ (.int .i64 (e:Int)) (heap_setCell_same _ _ 15 _ _ (.string d) (heap_setCell_same _ _ 12 _ _ (.pointer none) H.out.row));have hb:=(((Same1.refl (b:=b) (w:=w)).setCell 12 (.pointer none)).setCell 15 (.string d)).setCell 18 (.int .i64 (e:Int));exact ⟨rfl,hb.drew,H.out.ans hb.drew (by omega) hrow⟩
 |2,_ =>
  go_enter Tryz.func132,Tryz.ntmps132;go_wp2_with fail;go_region
  go_end0;have hrow:=heap_setCell_same _ _ 19 _ _ (.int .i64 (e:Int)) (heap_setCell_same _ _ 16 _ _ (.string d) (heap_setCell_same _ _ 13 _ _ (.pointer none) H.out.row));have hb:=(((Same1.refl (b:=b) (w:=w)).setCell 13 (.pointer none)).setCell 16 (.string d)).setCell 19 (.int .i64 (e:Int));exact ⟨rfl,hb.drew,H.out.ans hb.drew (by omega) hrow⟩
theorem StAt.used {T:Tys} {col:Nat→Nat} {w w':World} {b bd N:Nat} {x:Sv} {s:St} (h:StAt T col w b bd N x s) (hb:Same1 b w w') {n:Int} (hrow:w'.heap[b]?=some (.cells (x.row { s with use:=n } bd) T.S (0,0))):StAt T col w' b bd N x { s with use:=n } :=
 h.turn1 hb hrow rfl rfl rfl rfl h.bufs h.wait h.asks h.ask h.done h.errs
theorem used_any (col:Nat→Nat) (w:World) (b bd N:Nat) (x:Sv) (s:St) (h:StAt Ts col w b bd N x s) (hu:0≤s.use∧s.use≤1000000000) :
  Calls Tryz.prog 93 #[.pointer (some ⟨b,0,none⟩)] w (Ret1 Ts col w b bd N x { s with use:=s.use+1 } (.int .i64 (s.use+1))):=by
 have H:=Lib.hid h;have c9:w.cell? ⟨b,9,none⟩=some (.int .i64 s.use):=h.cell 9;have hfr:=h.frozen 9;have hw:IntKind.i64.wrap (s.use+1)=s.use+1:=by rw [IntKind.wrap_i64]; omega
 clear h;go_enter Tryz.func93,Tryz.ntmps93;go_wp2_with fail;go_ret;exact ⟨rfl,Same1.refl.setCell 9 _,H.out.used (Same1.refl.setCell 9 _) (heap_setCell_same _ _ 9 _ _ _ H.out.row)⟩
theorem waits_any (col:Nat→Nat) (w:World) (b bd N:Nat) (x:Sv) (s:St) (c:Nat) (h:StAt Ts col w b bd N x s) (hc:c<3) :
  Calls Tryz.prog 78 #[.pointer (some ⟨b,0,none⟩),.int .i64 (c:Int)] w (RetSame (.bool (s.askAt c).isSome) w):=by
 have c11:w.cell? ⟨b,11,none⟩=some x.a0:=h.cell 11;have c12:w.cell? ⟨b,12,none⟩=some x.a1:=h.cell 12;have c13:w.cell? ⟨b,13,none⟩=some x.a2:=h.cell 13;have ha:=h.ask c hc
 match c,hc with
 |0,_ =>
  cases ho:s.askAt 0 with
  |none =>
   rw [ho] at ha;rw [show x.a0=.pointer none from ha] at c11;clear h ha ho;go_enter Tryz.func78,Tryz.ntmps78;go_wp2_with fail;go_ret;exact ⟨rfl,rfl⟩
  |some a =>
   rw [ho] at ha;obtain ⟨ba,lv,h1,_⟩:=ha;rw [show x.a0=_ from h1] at c11;clear h ho h1;go_enter Tryz.func78,Tryz.ntmps78;go_wp2_with fail;go_ret;exact ⟨rfl,rfl⟩
 |1,_ =>
  cases ho:s.askAt 1 with
  |none =>
   rw [ho] at ha;rw [show x.a1=.pointer none from ha] at c12;clear h ha ho;go_enter Tryz.func78,Tryz.ntmps78;go_wp2_with fail;go_ret;exact ⟨rfl,rfl⟩
  |some a =>
   rw [ho] at ha;obtain ⟨ba,lv,h1,_⟩:=ha;rw [show x.a1=_ from h1] at c12;clear h ho h1;go_enter Tryz.func78,Tryz.ntmps78;go_wp2_with fail;go_ret;exact ⟨rfl,rfl⟩
 |2,_ =>
  cases ho:s.askAt 2 with
  |none =>
   rw [ho] at ha;rw [show x.a2=.pointer none from ha] at c13;clear h ha ho;go_enter Tryz.func78,Tryz.ntmps78;go_wp2_with fail;go_ret;exact ⟨rfl,rfl⟩
  |some a =>
   rw [ho] at ha;obtain ⟨ba,lv,h1,_⟩:=ha;rw [show x.a2=_ from h1] at c13;clear h ho h1;go_enter Tryz.func78,Tryz.ntmps78;go_wp2_with fail;go_ret;exact ⟨rfl,rfl⟩
theorem stdirty_any (col:Nat→Nat) (w:World) (b bd N:Nat) (x:Sv) (s:St) (h:StAt Ts col w b bd N x s) (h8:s.bufs.length≤8) :
  Calls Tryz.prog 55 #[.pointer (some ⟨b,0,none⟩)] w (Ret (.int .i64 (dirtyB s.bufs:Nat)) w):=by
 have c2:w.cell? ⟨b,2,none⟩=some x.bufs:=h.cell 2;have H:=Lib.hid h.bufs;clear h;go_enter Tryz.func55,Tryz.ntmps55;go_wp2_with fail;refine (dirty_any _ _ _ _ H.out (by omega)).mono ?_;rintro e w1 ⟨rfl,hb1⟩;go_wp2_with fail;go_ret;exact ⟨rfl,hb1⟩
end Go.Proofs.YtagndjihiklmiaaGreatDoor
namespace Go.Proofs.YtagndjihiklmiaaGreatDoor
open Go.RowKit Go.Sort
theorem enters {f:FuncId} {fn:Func} {c:Code} (hf:Tryz.prog.funcs[f]?=some fn) (hname:(fn.name == "runtime.NumGoroutine")=false) (hb:fn.body=some c) (args:Array Value) (w:World):(callFunc f args).run Tryz.prog w=.ok (.enter f args) w:=by
 have h1:fn.name ≠ "runtime.NumGoroutine" := by simpa using hname
 simp [callFunc,hf,h1,hb]
structure HeldBy (w:World) (f:FuncId) (first caps:Array Value) (held:Int→Bool):Prop where
 enter:∀ args w',(callFunc f args).run Tryz.prog w'=.ok (.enter f args) w'
 calls:∀ (w':World) (p:Int),Below w.heap.size w w'→0≤p→p≤31→Calls Tryz.prog f (first.push (.int .i64 p) ++ caps) w' (Ret (.bool (held p)) w')
theorem HeldBy.step {w w1:World} {f:FuncId} {first caps:Array Value} {held:Int→Bool} (h:HeldBy w f first caps held) (hb:Below w.heap.size w w1):HeldBy w1 f first caps held :=
 ⟨h.enter,fun w' p h1=>h.calls w' p (hb.trans (h1.mono hb.size))⟩
theorem HeldBy.at_ {w w':World} {f:FuncId} {first caps:Array Value} {held:Int→Bool} {p:Int} {v:Bool} (h:HeldBy w f first caps held) (hv:held p=v) (h0:0≤p) (h31:p≤31) (hb:Below w.heap.size w w') :
  Calls Tryz.prog f (first.push (.int .i64 p) ++ caps) w' (Ret (.bool v) w'):=by rw [← hv]; exact h.calls w' p hb h0 h31
def InB (l:List Bf):Prop:=∀ b ∈ l,0≤b.pos∧b.pos≤31
def okB (dirty:Bool) (held:Int→Bool) (b:Bf):Bool:=(b.dirty == dirty) && !held b.pos
theorem leastB_eq (l:List Bf) (dirty:Bool) (held:Int→Bool):leastB l dirty held=bestB (okB dirty held) l l.length:=rfl
theorem best_cases {l:List Bf} {k:Nat} {x:Bf} {held:Int→Bool} {ok:Bf→Bool} (d nd:Bool) (hok:okB d held=ok) (hnd:nd=!d) (hx:l[k]?=some x) :
  (x.dirty=nd∧bestB ok l (k+1)=bestB ok l k)∨(x.dirty=d∧held x.pos=true∧bestB ok l (k+1)=bestB ok l k)∨(x.dirty=d∧held x.pos=false∧bestB ok l k = -1∧bestB ok l (k+1)=k) ∨
  (∃ j y,x.dirty=d∧held x.pos=false∧bestB ok l k=((j:Nat):Int)∧j<k∧l[j]?=some y∧x.used<y.used∧bestB ok l (k+1)=k)∨(∃ j y,x.dirty=d∧held x.pos=false∧bestB ok l k=((j:Nat):Int)∧j<k∧l[j]?=some y∧¬ x.used<y.used∧bestB ok l (k+1)=(j:Int)):=by
 subst hok hnd;have hr:=bestB_range (okB d held) l k;have hlt:=(List.getElem?_eq_some_iff.1 hx).1;by_cases hd:x.dirty=d
 ·cases hh:held x.pos with
  |true=>exact .inr (.inl ⟨hd,rfl,bestB_no hx (by simp [okB,hh])⟩)
  |false =>
   have ho:okB d held x=true:=by simp [okB,hh,hd]
   by_cases hn:bestB (okB d held) l k<0
   ·exact .inr (.inr (.inl ⟨hd,rfl,by omega,bestB_first hx ho hn⟩))
   ·obtain ⟨j,hj⟩:∃ j:Nat,bestB (okB d held) l k=j:=⟨(bestB (okB d held) l k).toNat,by omega⟩
    have hy:l[j]?=some l[j]:=List.getElem?_eq_getElem (by omega);by_cases hu:x.used<l[j].used
    ·exact .inr (.inr (.inr (.inl ⟨j,_,hd,rfl,hj,by omega,hy,hu,bestB_less hx ho hj hy hu⟩)))
    ·exact .inr (.inr (.inr (.inr ⟨j,_,hd,rfl,hj,by omega,hy,hu,bestB_more hx hj hy hu⟩)))
 ·exact .inl ⟨by cases d <;> simpa using hd,bestB_no hx (by simp [okB,hd])⟩
theorem victim_any (S:Nat→Prop) (l:List Bf) (v:Value) (f:FuncId) (first caps:Array Value) (held:Int→Bool) (w:World) (h:BufsAt S w v l) (hin:InB l) (hh:HeldBy w f first caps held) (hn:l.length≤65536) :
  Calls Tryz.prog 134 #[v,.func (.func f) first caps] w (Ret (.int .i64 (leastB l false held)) w):=by
 obtain ⟨A,cap,rfl,h1,h2⟩:=h.form;unfold maxLen at h2;have H:=Lib.hid h;have HH:=Lib.hid hh;have HI:=Lib.hid hin;have hen:=hh.enter;clear h hh hin
 obtain ⟨ok,hok⟩:∃ ok,okB false held=ok:=⟨_,rfl⟩
 have HO:=Lib.hid hok;clear hok;go_enter Tryz.func134,Tryz.ntmps134;go_wp2_with fail;go_loopw [5,10] (fun b i wr=>∃ k:Nat,k≤l.length∧i=.int .i64 k∧b=.int .i64 (bestB ok l k)∧Below w.heap.size w wr) (fun _ i _=>l.length - (intOf i).toNat)
 case atStart=>exact ⟨0,by omega,rfl,rfl,Below.refl _ _⟩
 case round =>
  obtain ⟨k,hk,rfl,rfl,hb⟩:=hrel;by_cases hlt:k<l.length
  ·have hkl:(k:Int)<(l.length:Int):=by omega
   have Hm:=Lib.hid (H.out.below hb);obtain ⟨b,off,rfl,_,hbl,hc⟩:=Hm.out.at_ (by omega);have hx:l[k]?=some l[k]:=List.getElem?_eq_getElem hlt;obtain ⟨_,k0,k1,k2,k3⟩:=hc k _ hx;have Hp:=Lib.hid (HI.out _ (List.mem_of_getElem? hx));have Hc:=Lib.hid hc;have hcs:=best_cases false true HO.out rfl hx;clear hx hc;generalize l[k]=x at *
   rcases hcs with ⟨hd,hr⟩ | ⟨hd,hhx,hr⟩ | ⟨hd,hhx,hm1,hr⟩ | ⟨j,y,hd,hhx,hj,hjk,hxj,hless,hr⟩ | ⟨j,y,hd,hhx,hj,hjk,hxj,hless,hr⟩
   all_goals
    have HR:=Lib.hid hr;have Hd:=Lib.hid hd;rw [hd] at k2;clear hr hd
    try
     have Hhx:=Lib.hid hhx;clear hhx
    try
     rw [hm1];clear hm1
    try have hl2:decide (x.used<y.used)=_:=decide_eq_false hless
    try
     rw [hj];have Hxj:=Lib.hid hxj;clear hxj
    try
     have hjl:(j:Int)<(l.length:Int):=by omega
     have hj0:¬ (j:Int)<0:=by omega
     clear hj
    go_wp2_with fail;have L:=(Lay.refl wr).alloc' wr.heap.size #[.int .i64 x.pos,.string x.data,.bool x.dirty,.int .i64 x.used] 107 rfl;rw [Hd.out] at L;generalize World.alloc _ _=W at L ⊢;obtain ⟨c0,c1,c2,c3⟩:=L.c4 0 rfl;have g0:=cell_regrown c0;have g2:=cell_regrown c2;have g3:=cell_regrown c3
    try
     have hq:=Hxj.out;have hq2:=Hc.out j _ hq;obtain ⟨_,j0,j1,j2,j3⟩:=hq2;have g4:=cell_regrown (cell_b L.below j3);clear j0 j1 j2 j3 hq
    have HbW:=Lib.hid (hb.trans (L.below.mono hb.size));clear c0 c1 c2 c3 k0 k1 k2 k3 L hb;refine wp_region_quiet_below mixed (by kernel_rfl) ?_;repeat (first | go_big_quiet_step ((exact Calls.rg (HH.out.at_ Hhx.out Hp.out.1 Hp.out.2 (HbW.out.trans (Below.mono (below_regrown W _ _) HbW.out.size))))) | quiet_step ((exact Calls.rg (HH.out.at_ Hhx.out Hp.out.1 Hp.out.2 (HbW.out.trans (Below.mono (below_regrown W _ _) HbW.out.size))))))
    refine wpQuiet_nil ?_;intro _ hw';obtain ⟨⟨dq,osq⟩,hw''⟩:=hw';subst hw'';have hb4:=HbW.out.trans (Below.mono (below_regrown W dq osq) HbW.out.size);clear g0 g2 g3;generalize grow (redrawn W dq) osq=w4 at hb4 ⊢;go_wp2;go_roundw
    case rel=>exact ⟨k+1,by omega,by go_num,by rw [HR.out],hb4⟩
    case measure=>simp [intOf]; omega
  ·obtain rfl:k=l.length:=by omega
   have hrange:=bestB_range ok l l.length;clear hrange;go_wp2;go_ret;refine ⟨?_,hb⟩;rw [leastB_eq,HO.out]; rfl
theorem pick_any (S:Nat→Prop) (l:List Bf) (v:Value) (f:FuncId) (first caps:Array Value) (held:Int→Bool) (w:World) (h:BufsAt S w v l) (hin:InB l) (hh:HeldBy w f first caps held) (hn:l.length≤65536) :
  Calls Tryz.prog 81 #[v,.func (.func f) first caps] w (Ret (.int .i64 (pickB l held)) w):=by
 obtain ⟨A,cap,rfl,h1,h2⟩:=h.form;unfold maxLen at h2;have H:=Lib.hid h;have HH:=Lib.hid hh;have HI:=Lib.hid hin;have hen:=hh.enter;clear h hh hin
 obtain ⟨ok,hok⟩:∃ ok,okB true held=ok:=⟨_,rfl⟩
 have HO:=Lib.hid hok;clear hok;go_enter Tryz.func81,Tryz.ntmps81;go_wp2_with fail;go_loopw [5,10] (fun b i wr=>∃ k:Nat,k≤l.length∧i=.int .i64 k∧b=.int .i64 (bestB ok l k)∧Below w.heap.size w wr) (fun _ i _=>l.length - (intOf i).toNat)
 case atStart=>exact ⟨0,by omega,rfl,rfl,Below.refl _ _⟩
 case round =>
  obtain ⟨k,hk,rfl,rfl,hb⟩:=hrel;by_cases hlt:k<l.length
  ·have hkl:(k:Int)<(l.length:Int):=by omega
   have Hm:=Lib.hid (H.out.below hb);obtain ⟨b,off,rfl,_,hbl,hc⟩:=Hm.out.at_ (by omega);have hx:l[k]?=some l[k]:=List.getElem?_eq_getElem hlt;obtain ⟨_,k0,k1,k2,k3⟩:=hc k _ hx;have Hp:=Lib.hid (HI.out _ (List.mem_of_getElem? hx));have Hc:=Lib.hid hc;have hcs:=best_cases true false HO.out rfl hx;clear hx hc;generalize l[k]=x at *
   rcases hcs with ⟨hd,hr⟩ | ⟨hd,hhx,hr⟩ | ⟨hd,hhx,hm1,hr⟩ | ⟨j,y,hd,hhx,hj,hjk,hxj,hless,hr⟩ | ⟨j,y,hd,hhx,hj,hjk,hxj,hless,hr⟩
   all_goals
    have HR:=Lib.hid hr;have Hd:=Lib.hid hd;rw [hd] at k2;clear hr hd
    try
     have Hhx:=Lib.hid hhx;clear hhx
    try
     rw [hm1];clear hm1
    try have hl2:decide (x.used<y.used)=_:=decide_eq_false hless
    try
     rw [hj];have Hxj:=Lib.hid hxj;clear hxj
    try
     have hjl:(j:Int)<(l.length:Int):=by omega
     have hj0:¬ (j:Int)<0:=by omega
     clear hj
    go_wp2_with fail;have L:=(Lay.refl wr).alloc' wr.heap.size #[.int .i64 x.pos,.string x.data,.bool x.dirty,.int .i64 x.used] 107 rfl;rw [Hd.out] at L;generalize World.alloc _ _=W at L ⊢;obtain ⟨c0,c1,c2,c3⟩:=L.c4 0 rfl;have g0:=cell_regrown c0;have g2:=cell_regrown c2;have g3:=cell_regrown c3
    try
     have hq:=Hxj.out;have hq2:=Hc.out j _ hq;obtain ⟨_,j0,j1,j2,j3⟩:=hq2;have g4:=cell_regrown (cell_b L.below j3);clear j0 j1 j2 j3 hq
    have HbW:=Lib.hid (hb.trans (L.below.mono hb.size));clear c0 c1 c2 c3 k0 k1 k2 k3 L hb;refine wp_region_quiet_below mixed (by kernel_rfl) ?_;repeat (first | go_big_quiet_step ((exact Calls.rg (HH.out.at_ Hhx.out Hp.out.1 Hp.out.2 (HbW.out.trans (Below.mono (below_regrown W _ _) HbW.out.size))))) | quiet_step ((exact Calls.rg (HH.out.at_ Hhx.out Hp.out.1 Hp.out.2 (HbW.out.trans (Below.mono (below_regrown W _ _) HbW.out.size))))))
    refine wpQuiet_nil ?_;intro _ hw';obtain ⟨⟨dq,osq⟩,hw''⟩:=hw';subst hw'';have hb4:=HbW.out.trans (Below.mono (below_regrown W dq osq) HbW.out.size);clear g0 g2 g3;generalize grow (redrawn W dq) osq=w4 at hb4 ⊢;go_wp2;go_roundw
    case rel=>exact ⟨k+1,by omega,by go_num,by rw [HR.out],hb4⟩
    case measure=>simp [intOf]; omega
  ·obtain rfl:k=l.length:=by omega
   have hrange:=bestB_range ok l l.length;have hpk:pickB l held=if bestB ok l l.length<0 then -1 else (l.getD (bestB ok l l.length).toNat default).pos:=by unfold pickB; rw [leastB_eq,HO.out]
   by_cases hneg:bestB ok l l.length<0
   ·rw [if_pos hneg] at hpk
    have Hpk:=Lib.hid hpk;have hm1:bestB ok l l.length = -1:=by omega
    rw [hm1];clear hrange hneg hpk hm1;go_wp2;go_ret;refine ⟨?_,hb⟩;rw [Hpk.out]; rfl
   ·rw [if_neg hneg] at hpk
    obtain ⟨j,hj⟩:∃ j:Nat,bestB ok l l.length=j:=⟨(bestB ok l l.length).toNat,by omega⟩
    rw [hj] at hpk ⊢;have hjk:j<l.length:=by omega
    have hxj:l[j]?=some l[j]:=List.getElem?_eq_getElem (by omega);rw [Int.toNat_natCast,List.getD_eq_getElem?_getD,hxj,Option.getD_some] at hpk;have Hpk:=Lib.hid hpk;obtain ⟨b,off,rfl,_,hbl,hc⟩:=(H.out.below hb).at_ (by omega);obtain ⟨_,k0,k1,k2,k3⟩:=hc j _ hxj;generalize l[j]=y at *;have hjl:(j:Int)<(l.length:Int):=by omega
    have hj0:¬ (j:Int)<0:=by omega
    clear hxj hpk hrange hneg hc hj;go_wp2;go_ret;refine ⟨?_,hb⟩;rw [Hpk.out]; rfl
end Go.Proofs.YtagndjihiklmiaaGreatDoor
namespace Go.Proofs.YtagndjihiklmiaaGreatDoor
open Go.RowKit
theorem belowN {B:Nat} {a w:World} (h:Below B a w) (n:Nat):Below B a (w.drewN n):=h.trans ⟨rfl,rfl,rfl,Nat.le_refl _,fun _ _=>rfl⟩
theorem bytes_ne {s t:ByteArray} (h:¬ s=t):¬ s.toList=t.toList:=fun e=>h (by
 rw [ByteArray.toList_eq,ByteArray.toList_eq] at e
 exact ByteArray.ext (Array.toList_inj.1 e))
theorem run_buf (a b:Bf) (w:World):(Op.equalIn 10000 107 (bfV a) (bfV b)).run Tryz.prog w=.ok (decide (a=b)) w:=by
 have u1:=Tryz.underlying3;have u2:=Tryz.underlying9;have u3:=Tryz.underlying4;have hS:Tryz.prog.underlying 107=some (.struct (Tryz.prog.fieldsOf 107)):=by kernel_rfl
 have hp:Tryz.prog.stoodInHeld 107=false:=by kernel_rfl
 rw [show (10000:Nat)=9999+1 from rfl,run_equalIn_agg w 9999 107 _ _ hS hp];simp only [Program.fieldsOf,Tryz.underlying107];obtain ⟨p,d,y,u⟩:=a;obtain ⟨p',d',y',u'⟩:=b;go_simp;by_cases h2:d=d'
 ·subst h2
  by_cases h1:p=p' <;> by_cases h3:y=y' <;> by_cases h4:u=u' <;> simp [h1,h3,h4]
 ·have h5:=bytes_ne h2
  by_cases h1:p=p' <;> by_cases h3:y=y' <;> by_cases h4:u=u' <;> simp [h1,h2,h3,h4,h5]
@[go_sem high] theorem buf_eq (a b:Bf) (w:World):(binOp .eql 107 (bfV a) (bfV b)).run Tryz.prog w=.ok (.bool (decide (a=b))) w:=by
 rw [run_eql_struct,run_buf]; rfl
@[go_sem high] theorem buf_ne (a b:Bf) (w:World):(binOp .neq 107 (bfV a) (bfV b)).run Tryz.prog w=.ok (.bool (!decide (a=b))) w:=by
 rw [run_neq_struct,run_buf]; rfl
instance (l:List Bf):Decidable (goodB l):=by unfold goodB Rises; infer_instance
end Go.Proofs.YtagndjihiklmiaaGreatDoor
