/- The model of the sectors at hand, and what is worked out of them. -/
import Derived.Test.YtagndjihiklmiaaGreatDoorQ10
set_option linter.unusedSimpArgs false
set_option linter.unusedVariables false
set_option maxRecDepth 100000
set_option maxHeartbeats 8000000
namespace Go.Proofs.YtagndjihiklmiaaGreatDoor
open Go.RowKit
structure Bf where
 pos:Int
 data:ByteArray
 dirty:Bool
 used:Int
 deriving DecidableEq,Inhabited
def zeroBf:Bf:=⟨0,⟨#[]⟩,false,0⟩
def Rises (l:List Bf):Prop:=l.Pairwise (fun a b=>a.pos<b.pos)
def isB (l:List Bf) (p:Int):Bool:=l.any (fun b=>decide (b.pos=p))
def posB (l:List Bf) (p:Int):Nat:=l.countP (fun b=>decide (b.pos<p))
def getB (l:List Bf) (p:Int):Bf × Bool:=match l.find? (fun b=>decide (b.pos=p)) with
 |some b=>(b,true)
 |none=>(zeroBf,false)
def useB (l:List Bf) (p now:Int):List Bf:=l.map (fun b=>if b.pos=p then { b with used:=now } else b)
def cleanB (l:List Bf) (p:Int) (d:ByteArray):List Bf:=l.map (fun b=>if b.pos=p∧b.data=d then { b with dirty:=false } else b)
def dirtyB (l:List Bf):Nat:=l.countP (·.dirty)
def bestB (ok:Bf→Bool) (l:List Bf):Nat→Int
 |0 => -1
 |k+1=>match l[k]? with
  |none=>bestB ok l k
  |some r=>if ok r && (decide (bestB ok l k<0) || decide (r.used<(l.getD (bestB ok l k).toNat default).used)) then (k:Int) else bestB ok l k
theorem bestB_range (ok:Bf→Bool) (l:List Bf):∀ k,-1≤bestB ok l k∧bestB ok l k<k
 |0=>by simp [bestB]
 |k+1=>by
  have ih:=bestB_range ok l k;unfold bestB
  split
  ·omega
  ·split <;> omega
theorem bestB_no {ok:Bf→Bool} {l:List Bf} {k:Nat} {r:Bf} (h:l[k]?=some r) (ho:ok r=false):bestB ok l (k+1)=bestB ok l k:=by
 rw [bestB,h]; simp [ho]
theorem bestB_first {ok:Bf→Bool} {l:List Bf} {k:Nat} {r:Bf} (h:l[k]?=some r) (ho:ok r=true) (hb:bestB ok l k<0):bestB ok l (k+1)=k:=by
 rw [bestB,h]; simp [ho,hb]
theorem bestB_less {ok:Bf→Bool} {l:List Bf} {k j:Nat} {r r':Bf} (h:l[k]?=some r) (ho:ok r=true) (hb:bestB ok l k=j) (hj:l[j]?=some r') (hk:r.used<r'.used):bestB ok l (k+1)=k:=by
 have e:l.getD j default=r':=by rw [List.getD_eq_getElem?_getD,hj]; rfl
 rw [bestB,h,hb]; simp only [Int.toNat_natCast,e]; simp [ho,hk]
theorem bestB_more {ok:Bf→Bool} {l:List Bf} {k j:Nat} {r r':Bf} (h:l[k]?=some r) (hb:bestB ok l k=j) (hj:l[j]?=some r') (hk:¬ r.used<r'.used):bestB ok l (k+1)=j:=by
 have e:l.getD j default=r':=by rw [List.getD_eq_getElem?_getD,hj]; rfl
 rw [bestB,h,hb]; simp only [Int.toNat_natCast,e]; simp; intro _ h2; omega
def leastB (l:List Bf) (dirty:Bool) (held:Int→Bool):Int:=bestB (fun b=>(b.dirty == dirty) && !held b.pos) l l.length
def pickB (l:List Bf) (held:Int→Bool):Int:=if leastB l true held<0 then -1 else (l.getD (leastB l true held).toNat default).pos
def insB (l:List Bf) (b:Bf):List Bf:=l.take (posB l b.pos) ++ b :: l.drop (posB l b.pos)
def putB (l:List Bf) (b:Bf) (held:Int→Bool):Option (List Bf) :=
 if isB l b.pos then some (l.map fun x=>if x.pos=b.pos then b else x)
 else if 8≤l.length then (if leastB l false held<0 then none else some (insB (l.eraseIdx (leastB l false held).toNat) b))
 else some (insB l b)
def rput (b:Bf) (gone:Int):Int→List Bf→Bool→List Bf
 |_,[],laid=>if laid then [] else [b]
 |i,x :: xs,laid=>(if !laid && decide (b.pos≤x.pos) then [b] else []) ++ (if !decide (x.pos=b.pos) && !decide (i=gone) then [x] else []) ++ rput b gone (i+1) xs (laid || decide (b.pos≤x.pos))
def goodB (l:List Bf):Prop:=l.length≤8∧(∀ b ∈ l,0≤b.pos∧b.pos≤31∧b.data.size≤10)∧Rises l
theorem Rises.tail {x:Bf} {l:List Bf} (h:Rises (x :: l)):Rises l:=(List.pairwise_cons.1 h).2
theorem Rises.lt {l:List Bf} (h:Rises l) {i j:Nat} {a b:Bf} (hij:i<j) (ha:l[i]?=some a) (hb:l[j]?=some b):a.pos<b.pos:=by
 obtain ⟨h1,rfl⟩:=List.getElem?_eq_some_iff.1 ha;obtain ⟨h2,rfl⟩:=List.getElem?_eq_some_iff.1 hb;exact List.pairwise_iff_getElem.1 h i j h1 h2 hij
theorem Rises.inj {l:List Bf} (h:Rises l) {i j:Nat} {a b:Bf} (ha:l[i]?=some a) (hb:l[j]?=some b) (hp:a.pos=b.pos):i=j:=by
 rcases Nat.lt_trichotomy i j with h1 | h1 | h1
 ·have:=h.lt h1 ha hb; omega
 ·exact h1
 ·have:=h.lt h1 hb ha; omega
theorem posB_le (l:List Bf) (p:Int):posB l p≤l.length:=List.countP_le_length
theorem posB_cons (x:Bf) (l:List Bf) (p:Int):posB (x :: l) p=posB l p+if x.pos<p then 1 else 0:=by
 unfold posB; rw [List.countP_cons]; simp
theorem posB_zero:∀ {l:List Bf} {p:Int},(∀ b ∈ l,¬ b.pos<p)→posB l p=0:=by
 intro l p h; unfold posB; rw [List.countP_eq_zero]; intro b hb; simpa using h b hb
theorem posB_ahead:∀ {l:List Bf} {p:Int},Rises l→∀ {i:Nat} {b:Bf},l[i]?=some b→i<posB l p→b.pos<p
 | [],_,_,i,b,hb,_=>by simp at hb
 |x :: l,p,h,0,b,hb,hi=>by
  simp at hb; subst hb;by_cases hx:x.pos<p
  ·exact hx
  ·rw [posB_zero (fun b hb=>?_)] at hi
   ·omega
   ·rcases List.mem_cons.1 hb with rfl | hb
    ·exact hx
    ·have:=(List.pairwise_cons.1 h).1 b hb; omega
 |x :: l,p,h,i+1,b,hb,hi=>by
  simp at hb;refine posB_ahead h.tail hb ?_;rw [posB_cons] at hi
  split at hi <;> omega
theorem posB_behind:∀ {l:List Bf} {p:Int},Rises l→∀ {i:Nat} {b:Bf},l[i]?=some b→posB l p≤i→p≤b.pos
 | [],_,_,i,b,hb,_=>by simp at hb
 |x :: l,p,h,0,b,hb,hi=>by
  simp at hb; subst hb;rw [posB_cons] at hi
  split at hi <;> omega
 |x :: l,p,h,i+1,b,hb,hi=>by
  simp at hb;by_cases hx:x.pos<p
  ·refine posB_behind h.tail hb ?_
   rw [posB_cons,if_pos hx] at hi; omega
  ·have:=(List.pairwise_cons.1 h).1 b (List.mem_of_getElem? hb); omega
theorem posB_eq {l:List Bf} {p:Int} (h:Rises l) {k:Nat} (hk:k≤l.length) (h1:∀ i b,i<k→l[i]?=some b→b.pos<p) (h2:∀ i b,k≤i→l[i]?=some b→p≤b.pos):posB l p=k:=by
 have hle:=posB_le l p;rcases Nat.lt_trichotomy (posB l p) k with hc | hc | hc
 ·have hx:l[posB l p]?=some l[posB l p]:=List.getElem?_eq_getElem (by omega)
  have:=h1 _ _ hc hx;have:=posB_behind h hx (Nat.le_refl _);omega
 ·exact hc
 ·have hx:l[k]?=some l[k]:=List.getElem?_eq_getElem (by omega)
  have:=h2 _ _ (Nat.le_refl _) hx;have:=posB_ahead h hx hc;omega
theorem isB_iff {l:List Bf} {p:Int}:isB l p=true↔∃ b ∈ l,b.pos=p:=by unfold isB; simp
theorem isB_false {l:List Bf} {p:Int}:isB l p=false↔∀ b ∈ l,b.pos≠p:=by unfold isB; simp
theorem isB_at {l:List Bf} {p:Int} (h:Rises l) (hi:isB l p=true):∃ b,l[posB l p]?=some b∧b.pos=p:=by
 obtain ⟨b,hb,rfl⟩:=isB_iff.1 hi;obtain ⟨i,hi⟩:=List.mem_iff_getElem?.1 hb
 have:posB l b.pos=i:=posB_eq h (Nat.le_of_lt (List.getElem?_eq_some_iff.1 hi).1) (fun j c hj hc=>h.lt hj hc hi) (fun j c hj hc=>by
  rcases Nat.eq_or_lt_of_le hj with e | e
  ·subst e; rw [hi] at hc; cases hc; exact Int.le_refl _
  ·exact Int.le_of_lt (h.lt e hi hc))
 exact ⟨b,by rw [this]; exact hi,rfl⟩
theorem isB_pos {l:List Bf} {p:Int} (h:Rises l):isB l p=(decide (posB l p<l.length) && decide ((l.getD (posB l p) default).pos=p)):=by
 cases hi:isB l p with
 |true =>
  obtain ⟨b,hb,hp⟩:=isB_at h hi;have:=(List.getElem?_eq_some_iff.1 hb).1;rw [List.getD_eq_getElem?_getD,hb];simp [this,hp]
 |false =>
  by_cases hlt:posB l p<l.length
  ·have hx:l[posB l p]?=some l[posB l p]:=List.getElem?_eq_getElem hlt
   have:=isB_false.1 hi _ (List.mem_of_getElem? hx);rw [List.getD_eq_getElem?_getD,hx];simp [this]
  ·simp [hlt]
theorem getB_of {l:List Bf} {p:Int} (h:Rises l) {i:Nat} {b:Bf} (hb:l[i]?=some b) (hp:b.pos=p):getB l p=(b,true):=by
 unfold getB
 cases hf:l.find? (fun b=>decide (b.pos=p)) with
 |none=>exact absurd (List.find?_eq_none.1 hf b (List.mem_of_getElem? hb)) (by simp [hp])
 |some c =>
  have hc:=List.mem_of_find?_eq_some hf;have hcp:=List.find?_some hf;simp at hcp;obtain ⟨j,hj⟩:=List.mem_iff_getElem?.1 hc;have:=h.inj hb hj (hp.trans hcp.symm);subst this;rw [hb] at hj
  cases hj
  rfl
theorem getB_no {l:List Bf} {p:Int} (h:isB l p=false):getB l p=(zeroBf,false):=by
 unfold getB;have:l.find? (fun b=>decide (b.pos=p))=none:=by rw [List.find?_eq_none]; intro b hb; simpa using isB_false.1 h b hb
 rw [this]
theorem getB_is {l:List Bf} {p:Int}:(getB l p).2=isB l p:=by
 unfold getB
 cases hf:l.find? (fun b=>decide (b.pos=p)) with
 |none=>exact (isB_false.2 (fun b hb=>by simpa using List.find?_eq_none.1 hf b hb)).symm
 |some c=>exact (isB_iff.2 ⟨c,List.mem_of_find?_eq_some hf,by simpa using List.find?_some hf⟩).symm
theorem map_one {l:List Bf} (h:Rises l) {p:Int} {i:Nat} {b:Bf} (hb:l[i]?=some b) (hp:b.pos=p) (f:Bf→Bf) (hf:∀ x,x.pos≠p→f x=x):l.map f=l.set i (f b):=by
 apply List.ext_getElem?;intro j;rw [List.getElem?_map,List.getElem?_set];by_cases e:i=j
 ·subst e
  rw [if_pos rfl,if_pos (List.getElem?_eq_some_iff.1 hb).1,hb]; rfl
 ·rw [if_neg e]
  cases hj:l[j]? with
  |none=>rfl
  |some c =>
   have:c.pos≠p:=fun hc=>e (h.inj hb hj (hp.trans hc.symm))
   simp [hf c this]
theorem useB_no {l:List Bf} {p n:Int} (h:isB l p=false):useB l p n=l:=by
 unfold useB
 conv=>rhs; rw [← List.map_id l]
 apply List.map_congr_left;intro b hb;rw [if_neg (isB_false.1 h b hb)]; rfl
theorem useB_at {l:List Bf} (h:Rises l) {p n:Int} {i:Nat} {b:Bf} (hb:l[i]?=some b) (hp:b.pos=p):useB l p n=l.set i { b with used:=n }:=by
 have:=map_one h hb hp (fun b=>if b.pos=p then { b with used:=n } else b) (fun x hx=>if_neg hx);rw [if_pos hp] at this; exact this
theorem cleanB_no {l:List Bf} {p:Int} {d:ByteArray} (h:∀ b ∈ l,b.pos=p→b.data≠d):cleanB l p d=l:=by
 unfold cleanB
 conv=>rhs; rw [← List.map_id l]
 apply List.map_congr_left;intro b hb;rw [if_neg (fun e=>h b hb e.1 e.2)]; rfl
theorem cleanB_at {l:List Bf} (h:Rises l) {p:Int} {d:ByteArray} {i:Nat} {b:Bf} (hb:l[i]?=some b) (hp:b.pos=p) (hd:b.data=d):cleanB l p d=l.set i { b with dirty:=false }:=by
 have:=map_one h hb hp (fun b=>if b.pos=p∧b.data=d then { b with dirty:=false } else b) (fun x hx=>if_neg (fun e=>hx e.1));rw [if_pos ⟨hp,hd⟩] at this; exact this
theorem cleanB_other {l:List Bf} (h:Rises l) {p:Int} {d:ByteArray} {i:Nat} {b:Bf} (hb:l[i]?=some b) (hp:b.pos=p) (hd:b.data≠d):cleanB l p d=l :=
 cleanB_no fun c hc hcp=>by
  obtain ⟨j,hj⟩:=List.mem_iff_getElem?.1 hc;have:=h.inj hb hj (hp.trans hcp.symm);subst this;rw [hb] at hj
  cases hj
  exact hd
theorem mapPos_rises {l:List Bf} (h:Rises l) (f:Bf→Bf) (hf:∀ x,(f x).pos=x.pos):Rises (l.map f):=by
 unfold Rises;rw [List.pairwise_map];exact List.Pairwise.imp (fun {a b} h=>by rw [hf,hf]; exact h) h
theorem useB_rises {l:List Bf} (h:Rises l) (p n:Int):Rises (useB l p n):=mapPos_rises h _ (fun x=>by split <;> rfl)
theorem cleanB_rises {l:List Bf} (h:Rises l) (p:Int) (d:ByteArray):Rises (cleanB l p d):=mapPos_rises h _ (fun x=>by split <;> rfl)
theorem erase_rises {l:List Bf} (h:Rises l) (i:Nat):Rises (l.eraseIdx i):=List.Pairwise.sublist (List.eraseIdx_sublist l i) h
theorem erase_no {l:List Bf} {p:Int} (h:isB l p=false) (i:Nat):isB (l.eraseIdx i) p=false:=isB_false.2 fun b hb=>isB_false.1 h b (List.mem_of_mem_eraseIdx hb)
theorem insB_rises {l:List Bf} (h:Rises l) {b:Bf} (hn:isB l b.pos=false):Rises (insB l b):=by
 unfold insB Rises;rw [List.pairwise_append];refine ⟨List.Pairwise.sublist (List.take_sublist _ _) h,?_,?_⟩
 ·rw [List.pairwise_cons]
  refine ⟨fun x hx=>?_,List.Pairwise.sublist (List.drop_sublist _ _) h⟩;obtain ⟨j,hj⟩:=List.mem_iff_getElem?.1 hx;rw [List.getElem?_drop] at hj;have h1:=posB_behind h (p:=b.pos) hj (by omega);have h2:=isB_false.1 hn x (List.mem_of_getElem? hj);omega
 ·intro x hx y hy
  obtain ⟨i,hi⟩:=List.mem_iff_getElem?.1 hx;rw [List.getElem?_take] at hi
  split at hi
  ·rename_i hlt
   have h1:=posB_ahead h hi hlt;rcases List.mem_cons.1 hy with rfl | hy
   ·exact h1
   ·obtain ⟨j,hj⟩:=List.mem_iff_getElem?.1 hy
    rw [List.getElem?_drop] at hj;exact h.lt (by omega) hi hj
  ·cases hi
theorem mapPut_rises {l:List Bf} (h:Rises l) (b:Bf):Rises (l.map fun x=>if x.pos=b.pos then b else x):=mapPos_rises h _ (fun x=>by split <;> simp_all)
theorem putB_rises {l m:List Bf} (h:Rises l) {b:Bf} {held:Int→Bool} (hm:putB l b held=some m):Rises m:=by
 unfold putB at hm
 split at hm
 ·cases hm; exact mapPut_rises h b
 ·rename_i hn
  have hn:isB l b.pos=false:=by simpa using hn
  split at hm
  ·split at hm
   ·cases hm
   ·cases hm; exact insB_rises (erase_rises h _) (erase_no hn _)
  ·cases hm; exact insB_rises h hn
theorem rput_laid:∀ (l:List Bf) (b:Bf) (gone i:Int),(∀ x ∈ l,x.pos≠b.pos)→rput b gone i l true=if i≤gone then l.eraseIdx (gone - i).toNat else l
 | [],b,gone,i,_=>by simp [rput]
 |x :: xs,b,gone,i,h=>by
  have h1:x.pos≠b.pos:=h x (by simp);have h3:=rput_laid xs b gone (i+1) (fun y hy=>h y (by simp [hy]));rw [rput,Bool.true_or];by_cases e:i=gone
  ·subst e
   rw [if_neg (by omega)] at h3;rw [h3];simp [h1]
  ·by_cases hle:i≤gone
   ·have e2:(gone - i).toNat=(gone - (i+1)).toNat+1:=by omega
    rw [if_pos (by omega)] at h3;rw [h3,if_pos hle,e2];simp [h1,e]
   ·rw [if_neg (by omega)] at h3
    rw [h3,if_neg hle];simp [h1,e]
theorem insB_nil (b:Bf):insB [] b=[b]:=rfl
theorem insB_cons_lt {x b:Bf} {l:List Bf} (h:x.pos<b.pos):insB (x :: l) b=x :: insB l b:=by
 unfold insB; rw [posB_cons,if_pos h]; rfl
theorem insB_cons_gt {x b:Bf} {l:List Bf} (hr:Rises (x :: l)) (h:b.pos<x.pos):insB (x :: l) b=b :: x :: l:=by
 unfold insB
 rw [posB_zero (fun c hc=>by
  rcases List.mem_cons.1 hc with rfl | hc
  ·omega
  ·have:=(List.pairwise_cons.1 hr).1 c hc; omega)]
 rfl
theorem rput_ins:∀ (l:List Bf) (b:Bf) (gone i:Int),Rises l→(∀ x ∈ l,x.pos≠b.pos)→rput b gone i l false=insB (if i≤gone then l.eraseIdx (gone - i).toNat else l) b
 | [],b,gone,i,_,_=>by simp [rput,insB_nil]
 |x :: xs,b,gone,i,hr,h=>by
  have h1:x.pos≠b.pos:=h x (by simp);have h2:=fun y hy=>h y (List.mem_cons_of_mem x hy)
  rw [rput,Bool.false_or];by_cases hp:b.pos≤x.pos
  ·have hlt:b.pos<x.pos:=by omega
   simp only [hp,decide_true];have h3:=rput_laid xs b gone (i+1) h2;by_cases e:i=gone
   ·subst e
    have hz:(i - i).toNat=0:=by omega
    rw [if_neg (by omega)] at h3;rw [if_pos (Int.le_refl _),hz,List.eraseIdx_cons_zero,h3];simp only [h1,Bool.not_false,Bool.true_and,if_true,decide_true,Bool.not_true,Bool.and_false,Bool.false_eq_true,if_false,List.append_nil,List.singleton_append]
    cases xs with
    |nil=>rfl
    |cons y ys =>
     have hxy:=(List.pairwise_cons.1 hr).1 y (by simp);rw [insB_cons_gt hr.tail (by omega)]
   ·by_cases hle:i≤gone
    ·have e2:(gone - i).toNat=(gone - (i+1)).toNat+1:=by omega
     rw [if_pos (by omega)] at h3;rw [if_pos hle,e2,List.eraseIdx_cons_succ,h3]
     have hr':Rises (x :: xs.eraseIdx (gone - (i+1)).toNat):=by
      have:=erase_rises hr ((gone - (i+1)).toNat+1); rwa [List.eraseIdx_cons_succ] at this
     rw [insB_cons_gt hr' hlt];simp [h1,e]
    ·rw [if_neg (by omega)] at h3
     rw [if_neg hle,insB_cons_gt hr hlt,h3];simp [h1,e]
  ·have hlt:x.pos<b.pos:=by omega
   simp only [hp,decide_false];have h3:=rput_ins xs b gone (i+1) hr.tail h2;by_cases e:i=gone
   ·subst e
    have hz:(i - i).toNat=0:=by omega
    rw [if_neg (by omega)] at h3;rw [if_pos (Int.le_refl _),hz,List.eraseIdx_cons_zero,h3];simp
   ·by_cases hle:i≤gone
    ·have e2:(gone - i).toNat=(gone - (i+1)).toNat+1:=by omega
     rw [if_pos (by omega)] at h3;rw [if_pos hle,e2,List.eraseIdx_cons_succ,insB_cons_lt hlt,h3];simp [h1,e]
    ·rw [if_neg (by omega)] at h3
     rw [if_neg hle,insB_cons_lt hlt,h3];simp [h1,e]
theorem rput_map_laid:∀ (l:List Bf) (b:Bf) (i:Int),0≤i→(∀ x ∈ l,b.pos<x.pos)→rput b (-1) i l true=l:=fun l b i h0 h=>by
 rw [rput_laid l b (-1) i (fun x hx=>by have:=h x hx; omega),if_neg (by omega)]
theorem rput_map:∀ (l:List Bf) (b:Bf) (i:Int),0≤i→Rises l→isB l b.pos=true→rput b (-1) i l false=l.map fun x=>if x.pos=b.pos then b else x
 | [],b,i,_,_,h=>by simp [isB] at h
 |x :: xs,b,i,h0,hr,h=>by
  rw [rput,Bool.false_or,List.map_cons];by_cases hx:x.pos=b.pos
  ·have h2:∀ y ∈ xs,b.pos<y.pos:=fun y hy=>by have:=(List.pairwise_cons.1 hr).1 y hy; omega
   have e:decide (b.pos≤x.pos)=true:=by simp; omega
   rw [e,rput_map_laid xs b (i+1) (by omega) h2]
   have:xs.map (fun x=>if x.pos=b.pos then b else x)=xs:=by
    conv=>rhs; rw [← List.map_id xs]
    apply List.map_congr_left;intro y hy;have:=h2 y hy;rw [if_neg (by omega)]; rfl
   rw [this];simp [hx]
  ·have h3:isB xs b.pos=true:=by
    obtain ⟨c,hc,hcp⟩:=isB_iff.1 h;rcases List.mem_cons.1 hc with rfl | hc
    ·exact absurd hcp hx
    ·exact isB_iff.2 ⟨c,hc,hcp⟩
   have hlt:x.pos<b.pos:=by
    obtain ⟨c,hc,hcp⟩:=isB_iff.1 h3;have:=(List.pairwise_cons.1 hr).1 c hc; omega
   have e:decide (b.pos≤x.pos)=false:=by simp; omega
   rw [e,rput_map xs b (i+1) (by omega) hr.tail h3];have e2:¬ (i = -1):=by omega
   simp [hx,e2]
end Go.Proofs.YtagndjihiklmiaaGreatDoor
namespace Go.Proofs.YtagndjihiklmiaaGreatDoor
structure Ak where
 kind:Int
 pos:Int
 data:ByteArray
 left:List Int
structure St where
 v:Drv
 bufs:List Bf
 wait:List Rq
 turn:Tn
 now:Int
 use:Int
 tag:Int
 asks:List (Option Ak)
 done:List ByteArray
 errs:List Nat
 dead:Bool
def noB:ByteArray:=⟨#[]⟩
def isKind (k:Int):Option Ak→Bool
 |some a=>decide (a.kind=k)
 |none=>false
namespace St
def new (d:Dv):St:=⟨⟨d,fun _=>0⟩,[],[],⟨false,0,0,0⟩,0,0,0,[none,none,none],[noB,noB,noB],[0,0,0],false⟩
def heldP (s:St) (p:Int):Bool:=s.wait.any (fun r=>hasB r.lo r.many p) || s.v.d.l.any (fun r=>hasB r.lo r.many p)
def askAt (s:St) (c:Nat):Option Ak:=s.asks.getD c none
def answer (s:St) (c:Nat) (d:ByteArray) (e:Nat):St:={ s with asks:=s.asks.set c none,done:=s.done.set c d,errs:=s.errs.set c e }
def got (s:St) (c:Nat):ByteArray × Nat:=if s.errs.getD c 0=0 then (s.done.getD c noB,0) else (noB,s.errs.getD c 0)
def reqOf (s:St) (write:Bool) (p:Int) (d:ByteArray):Rq:=⟨write,p,1,if write then [d] else [],[s.tag+1],s.now⟩
def queue (s:St) (write:Bool) (p:Int) (d:ByteArray):St × Bool :=
 if (addM s.wait (s.reqOf write p d)).2=0 then ({ s with wait:=(addM s.wait (s.reqOf write p d)).1,tag:=s.tag+1 },true) else (s,false)
def read (s:St) (c:Nat) (a:Ak):St :=
 if (getB s.bufs a.pos).2 then ({ s with use:=s.use+1,bufs:=useB s.bufs a.pos (s.use+1) }:St).answer c (getB s.bufs a.pos).1.data 0
 else if s.heldP a.pos then s else (s.queue false a.pos noB).1
def still (l:List Bf) (p:Int):Bool:=(getB l p).2 && (getB l p).1.dirty
def write (s:St) (c:Nat) (a:Ak):St :=
 if s.dead then s.answer c noB 9
 else if !still s.bufs a.pos && decide (6≤dirtyB s.bufs) then s
 else match putB s.bufs ⟨a.pos,a.data,true,s.use+1⟩ s.heldP with
  |some m=>({ s with use:=s.use+1,bufs:=m }:St).answer c noB 0
  |none=>{ s with use:=s.use+1 }
def sync (s:St) (c:Nat) (a:Ak):St :=
 if s.dead then s.answer c noB 9
 else if a.left.filter (still s.bufs)=[] then ({ s with v:={ s.v with d:=s.v.d.flush } }:St).answer c noB 0
 else { s with asks:=s.asks.set c (some { a with left:=a.left.filter (still s.bufs) }) }
def serve1 (s:St) (c:Nat):St:=match s.askAt c with
 |none=>s
 |some a=>if a.kind=1 then s.read c a else if a.kind=2 then s.write c a else if a.kind=3 then s.sync c a else s
def serve (s:St):St:=((s.serve1 0).serve1 1).serve1 2
def dirtyAt (l:List Bf):List Int:=(l.filter (·.dirty)).map (·.pos)
def ask (s:St) (client kind p:Int) (d:ByteArray):St × Nat :=
 if client<0∨3≤client∨kind<1∨3<kind then (s,3)
 else if p<0∨32≤p∨4<d.size∨(kind=3∧p≠0)∨(kind≠2∧d.size≠0) then (s,1)
 else if (s.askAt client.toNat).isSome then (s,6)
 else (({ s with asks:=s.asks.set client.toNat (some ⟨kind,p,d,if kind=3 then dirtyAt s.bufs else []⟩) }:St).serve,0)
def tick (s:St):St:=({ s with now:=min (s.now+1) 1000000000 }:St).serve
def pressed (s:St):Bool:=decide (3≤dirtyB s.bufs) || s.asks.any (fun o=>isKind 2 o || isKind 3 o)
def clean (s:St):St × Bool :=
 if s.dead || !s.pressed then (s,false)
 else if pickB s.bufs s.heldP<0 then (s,false)
 else s.queue true (pickB s.bufs s.heldP) (getB s.bufs (pickB s.bufs s.heldP)).1.data
def dispatch (s:St):St × Bool :=
 if s.wait=[]∨2≤s.v.d.l.length then (s,false)
 else ({ s with wait:=s.wait.eraseIdx (nextM s.wait s.turn s.now).1.toNat,turn:=(nextM s.wait s.turn s.now).2,v:={ s.v with d:=(s.v.d.start (s.wait.getD (nextM s.wait s.turn s.now).1.toNat default)).1 } },true)
def tell1 (p:Int) (d:ByteArray) (s:St) (c:Nat):St:=match s.askAt c with
 |none=>s
 |some a=>if a.kind=1∧a.pos=p then s.answer c d 0 else s
def tell (s:St) (p:Int) (d:ByteArray):St:=tell1 p d (tell1 p d (tell1 p d s 0) 1) 2
def wrong1 (r:Rq) (s:St) (c:Nat):St:=match s.askAt c with
 |none=>s
 |some a=>if r.write=false∧a.kind=1∧hasB r.lo r.many a.pos=true then s.answer c noB 8 else s
def wrong (s:St) (r:Rq):St:=wrong1 r (wrong1 r (wrong1 r { s with dead:=s.dead || r.write } 0) 1) 2
def ended1 (s:St) (write:Bool) (p:Int) (d:ByteArray):St :=
 if write then { s with bufs:=cleanB s.bufs p d }
 else if (getB s.bufs p).2 then s
 else ({ s with use:=s.use+1,bufs:=(putB s.bufs ⟨p,d,false,s.use+1⟩ s.heldP).getD s.bufs }:St).tell p d
def endedN (s:St) (write:Bool) (lo:Int) (l:List ByteArray):Nat→St
 |0=>s
 |k+1=>(endedN s write lo l k).ended1 write (lo+k) (l.getD k noB)
def end_ (s:St) (i:Int) (f:Bool):St × Nat :=
 let e:=s.v.endAt i f
 if e.2.2.1=false then ({ s with v:=e.1 },e.2.2.2)
 else if e.2.1.err≠0 then ((({ s with v:=e.1 }:St).wrong e.2.1.req).serve,0)
 else ((({ s with v:=e.1 }:St).endedN e.2.1.req.write e.2.1.req.lo (if e.2.1.req.write then e.2.1.req.data else e.2.1.data) e.2.1.req.many.toNat).serve,0)
def quiet (s:St):Bool:=s.asks.all (·.isNone) && s.wait.isEmpty && s.v.d.l.isEmpty
def go (s:St):St:=s.dispatch.1.dispatch.1
def round (s:St):St:=(s.tick.clean.1.go.end_ 0 false).1
def settle:Nat→St→St × Nat
 |0,s=>(s,0)
 |n+1,s=>if s.quiet then (s,0) else ((settle n s.round).1,(settle n s.round).2+1)
end St
end Go.Proofs.YtagndjihiklmiaaGreatDoor
