/- A text cut at each blank: strings.Split(t, " "). -/
import Derived.Test.YtagndjihiklmiaaGreatDoorQ41
import Derived.Maps.RangeWalk
set_option linter.unusedSimpArgs false
set_option linter.unusedVariables false
set_option maxRecDepth 100000
set_option maxHeartbeats 8000000
namespace Go.Proofs.YtagndjihiklmiaaGreatDoor
open Go.RowKit
def splitL:List UInt8→List (List UInt8)
 | []=>[[]]
 |b :: l=>if b == 32 then [] :: splitL l else match splitL l with
  | []=>[[b]]
  |x :: r=>(b :: x) :: r
def toB (l:List UInt8):ByteArray:=⟨l.toArray⟩
def splitM (s:ByteArray):List ByteArray:=(splitL s.data.toList).map toB
theorem splitL_cons (b:UInt8) (l:List UInt8):splitL (b :: l)=if b == 32 then [] :: splitL l else match splitL l with
  | []=>[[b]]
  |x :: r=>(b :: x) :: r:=rfl
theorem splitL_ne (l:List UInt8):splitL l≠[]:=by
 cases l with
 |nil=>simp [splitL]
 |cons b l =>
  unfold splitL
  split
  ·simp
  ·split <;> simp
def NoBl (x:List UInt8):Prop:=∀ b ∈ x,(b == 32)=false
theorem splitL_nb:∀ {x:List UInt8},NoBl x→splitL x=[x]
 | [],_=>rfl
 |b :: l,h=>by
  have ih:=splitL_nb (x:=l) (fun c hc=>h c (by simp [hc]));unfold splitL;rw [h b (by simp),ih];rfl
theorem splitL_hit:∀ {x:List UInt8} (r:List UInt8),NoBl x→splitL (x ++ 32 :: r)=x :: splitL r
 | [],r,_=>by
  show splitL (32 :: r)=_;rfl
 |b :: l,r,h=>by
  have ih:=splitL_hit (x:=l) r (fun c hc=>h c (by simp [hc]));show splitL (b :: (l ++ 32 :: r))=_;rw [splitL_cons,h b (by simp),ih];rfl
theorem first_bl:∀ l:List UInt8,NoBl l∨∃ x r,l=x ++ 32 :: r∧NoBl x
 | []=>.inl (fun _ h=>by cases h)
 |b :: l=>by
  cases hb:(b == 32) with
  |true=>exact .inr ⟨[],l,by rw [eq_of_beq hb]; rfl,fun _ h=>by cases h⟩
  |false =>
   rcases first_bl l with h | ⟨x,r,rfl,h⟩
   ·exact .inl (fun c hc=>by rcases List.mem_cons.1 hc with rfl | hc; exact hb; exact h c hc)
   ·exact .inr ⟨b :: x,r,rfl,fun c hc=>by rcases List.mem_cons.1 hc with rfl | hc; exact hb; exact h c hc⟩
theorem index_nb:∀ {x:List UInt8},NoBl x→Lib.index x [32] = -1
 | [],_=>rfl
 |b :: l,h=>by
  have ih:=index_nb (x:=l) (fun c hc=>h c (by simp [hc]));have hb:=h b (by simp)
  have e:([32]:List UInt8).isPrefixOf (b :: l)=false:=by
   simp only [List.isPrefixOf,Bool.and_true];rw [← hb]; exact Bool.beq_comm
  unfold Lib.index;rw [e,ih];rfl
theorem index_hit:∀ {x:List UInt8} (r:List UInt8),NoBl x→Lib.index (x ++ 32 :: r) [32]=x.length
 | [],r,_=>by
  show Lib.index (32 :: r) [32]=0;unfold Lib.index;simp [List.isPrefixOf]
 |b :: l,r,h=>by
  have ih:=index_hit (x:=l) r (fun c hc=>h c (by simp [hc]));have hb:=h b (by simp)
  have e:([32]:List UInt8).isPrefixOf (b :: (l ++ 32 :: r))=false:=by
   simp only [List.isPrefixOf,Bool.and_true];rw [← hb]; exact Bool.beq_comm
  show Lib.index (b :: (l ++ 32 :: r)) [32]=_;unfold Lib.index;rw [e,ih];have:((l.length:Int) == -1)=false:=beq_eq_false_iff_ne.2 (by omega);rw [this];simp
theorem splitK_bl:∀ (n:Nat) (l:List UInt8),l.length≤n→Lib.splitK [32] 0 (Lib.count l [32]) l=splitL l:=by
 intro n
 induction n with
 |zero =>
  intro l hl;obtain rfl:l=[]:=List.eq_nil_of_length_eq_zero (by omega);rfl
 |succ n ih =>
  intro l hl
  rcases first_bl l with h | ⟨x,r,rfl,h⟩
  ·rw [Lib.count_miss (index_nb h),splitL_nb h]; rfl
  ·have hi:=index_hit r h
   rw [Lib.count_hit (by simp) hi,Nat.add_comm,splitL_hit r h]
   have hr:(x ++ 32 :: r).drop (x.length+([32]:List UInt8).length)=r:=by
    show (x ++ 32 :: r).drop (x.length+1)=r;rw [List.drop_append];simp
   rw [hr,Lib.splitK,hi];have h2:((x.length:Int) == -1)=false:=beq_eq_false_iff_ne.2 (by omega);rw [h2];simp only [Bool.false_eq_true,if_false,Int.toNat_natCast,Nat.add_zero];rw [show (x ++ 32 :: r).drop (x.length+([32]:List UInt8).length)=r from hr,ih r (by simp at hl; omega)];simp
theorem splitB_bl (s:ByteArray):Lib.splitB ⟨#[32]⟩ 0 (Lib.countB s ⟨#[32]⟩) s=splitM s:=by
 have h:=Lib.splitB_data ⟨#[32]⟩ 0 (Lib.countB s ⟨#[32]⟩) s;have h2:Lib.splitK (⟨#[32]⟩:ByteArray).data.toList 0 (Lib.countB s ⟨#[32]⟩) s.data.toList=splitL s.data.toList:=splitK_bl _ _ (Nat.le_refl _);rw [h2] at h;unfold splitM;rw [← h,List.map_map]
 symm
 have:∀ l:List ByteArray,l.map (toB ∘ fun x=>x.data.toList)=l:=fun l=>by
  conv=>rhs; rw [← List.map_id l]
  exact List.map_congr_left (fun x _=>by
   show toB x.data.toList=x;unfold toB
   cases x
   rfl)
 exact this _
theorem splitM_len (s:ByteArray):Lib.countB s ⟨#[32]⟩+1=(splitM s).length:=by
 rw [← splitB_bl,Lib.splitB_all ⟨#[32]⟩ (by decide) 0 _ s rfl]
theorem splitL_len:∀ l:List UInt8,(splitL l).length≤l.length+1
 | []=>Nat.le_refl _
 |b :: l=>by
  have ih:=splitL_len l;unfold splitL
  split
  ·simp only [List.length_cons]; omega
  ·split
   ·simp
   ·rename_i h
    rw [h] at ih;simp only [List.length_cons] at ih ⊢; omega
theorem splitL_size:∀ (l:List UInt8),∀ x ∈ splitL l,x.length≤l.length
 | [],x,h=>by
  simp [splitL] at h;subst h;exact Nat.le_refl _
 |b :: l,x,h=>by
  have ih:=splitL_size l;unfold splitL at h
  split at h
  ·rcases List.mem_cons.1 h with rfl | h
   ·simp
   ·have:=ih x h
    simp only [List.length_cons]; omega
  ·split at h
   ·simp at h
    subst h;simp
   ·rename_i y r hy
    rcases List.mem_cons.1 h with rfl | h
    ·have:=ih y (by rw [hy]; simp)
     simp only [List.length_cons]; omega
    ·have:=ih x (by rw [hy]; simp [h])
     simp only [List.length_cons]; omega
theorem splitM_size (s x:ByteArray) (h:x ∈ splitM s):x.size≤s.size:=by
 unfold splitM at h;obtain ⟨y,hy,rfl⟩:=List.mem_map.1 h;have:=splitL_size _ y hy;have e1:(toB y).size=y.length:=by simp [toB,ByteArray.size]
 have e2:s.data.toList.length=s.size:=by simp
 omega
theorem split_any (s:ByteArray) (w:World) (hs:s.size<4294967281) (hE:Env w) :
  Calls Tryz.prog 37 #[.string s,.string ⟨#[32]⟩] w fun e w'=>e=.returned (.slice (some ⟨w.heap.size,0,none⟩) (splitM s).length (splitM s).length)∧w'=w.alloc (.cells ((splitM s).map .string).toArray 9):=by
 obtain ⟨m,hm⟩:=hE.max;refine (Tryz.strings_Split s ⟨#[32]⟩ m w hs hm (by decide)).mono ?_;rintro e w' ⟨rfl,rfl⟩;rw [splitM_len,splitB_bl];exact ⟨rfl,rfl⟩
end Go.Proofs.YtagndjihiklmiaaGreatDoor
namespace Go.Proofs.YtagndjihiklmiaaGreatDoor
open Go.RowKit
def numM (s:ByteArray):Int:=match atoiM s with
 |some v=>if (itoaB v).toList == s.toList then v else -1
 |none => -1
theorem scrnum_any (s:ByteArray) (w:World) (hs:s.size≤281474976710656) (hE:Env w):Calls Tryz.prog 39 #[.string s] w (Ret (.int .i64 (numM s)) w):=by
 have HE:=Lib.hid hE;clear hE
 cases h:atoiM s with
 |none =>
  have e:numM s = -1:=by unfold numM; rw [h]
  rw [e];clear e;go_enter Tryz.func39,Tryz.ntmps39;go_wp2_with fail;refine (atoi_any s w hs HE.out).mono ?_;rintro e w1 ⟨hb1,n,x,rfl,hx⟩;rw [h] at hx;obtain ⟨t,p,rfl⟩:=hx;go_wp2;go_ret;exact ⟨rfl,hb1⟩
 |some v =>
  obtain ⟨b0,b1⟩:=atoiM_bounds h;rcases Bool.eq_false_or_eq_true ((itoaB v).toList == s.toList) with hq | hq
  ·have e:numM s=v:=by unfold numM; rw [h]; simp [hq]
   rw [e];clear e;have hq':(!((itoaB v).toList == s.toList))=false:=by rw [hq]; rfl
   go_enter Tryz.func39,Tryz.ntmps39;go_wp2_with fail;refine (atoi_any s w hs HE.out).mono ?_;rintro e w1 ⟨hb1,n,x,rfl,hx⟩;rw [h] at hx;obtain ⟨rfl,rfl⟩:=hx;go_wp2_with (go_at_call 51; refine (itoa_any _ _ b0 b1 (HE.out.below hb1)).mono ?_; rintro e w2 ⟨rfl,hb2⟩);go_ret;exact ⟨rfl,hb1.trans (hb2.mono hb1.size)⟩
  ·have e:numM s = -1:=by unfold numM; rw [h]; simp [hq]
   rw [e];clear e;have hq':(!((itoaB v).toList == s.toList))=true:=by rw [hq]; rfl
   go_enter Tryz.func39,Tryz.ntmps39;go_wp2_with fail;refine (atoi_any s w hs HE.out).mono ?_;rintro e w1 ⟨hb1,n,x,rfl,hx⟩;rw [h] at hx;obtain ⟨rfl,rfl⟩:=hx;go_wp2_with (go_at_call 51; refine (itoa_any _ _ b0 b1 (HE.out.below hb1)).mono ?_; rintro e w2 ⟨rfl,hb2⟩);go_ret;exact ⟨rfl,hb1.trans (hb2.mono hb1.size)⟩
end Go.Proofs.YtagndjihiklmiaaGreatDoor
namespace Go.Proofs.YtagndjihiklmiaaGreatDoor
open Go.RowKit
def dataM (z:Stp):ByteArray:=if z.data.toList.isEmpty then hyphen else z.data
def partsL (z:Stp):List ByteArray:=[itoaB z.a,itoaB z.b,dataM z]
def wordsM (k:Nat) (z:Stp):List ByteArray:=z.word :: (partsL z).take k
theorem form_size (k:Nat) (h:k≤3):(⟨(formS k).toArray⟩:ByteArray).size=k:=by
 match k,h with
 |0,_ | 1,_ | 2,_ | 3,_=>rfl
def formC (i:Nat):Nat:=if i=0 then 97 else if i=1 then 98 else 100
theorem form_at (k:Nat) (h:k≤3) (i:Nat) (hi:i<k) (hs:i<(⟨(formS k).toArray⟩:ByteArray).size):((⟨(formS k).toArray⟩:ByteArray)[i]'hs).toNat=formC i:=by
 match k,h,i,hi,hs with
 |1,_,0,_,_ | 2,_,0,_,_ | 2,_,1,_,_ | 3,_,0,_,_ | 3,_,1,_,_ | 3,_,2,_,_=>rfl
structure TL (f:ByteArray) (z:Stp) (w:World) (bb s0 bi pos n:Nat) (l:Value) (wr:World):Prop where
 box:StpBox 42 bb z w wr
 it:wr.heap[bi]?=some (.stringIter f pos)
 own:wr.ownsRow s0 9 1 l (n+1) ((wordsM n z).map .string)
 lo:w.heap.size≤s0
 bs:bb<s0
 bi:s0≤bi
theorem TL.lt {f:ByteArray} {z:Stp} {w wr:World} {bb s0 bi pos n:Nat} {l:Value} (h:TL f z w bb s0 bi pos n l wr):s0≤wr.heap.size:=by
 have:=(Array.getElem?_eq_some_iff.1 h.it).1;have:=h.bi;omega
theorem TL.ne {f:ByteArray} {z:Stp} {w wr:World} {bb s0 bi pos n:Nat} {l:Value} (h:TL f z w bb s0 bi pos n l wr) {g:Nat} (hg:l.ownBlock=some g):g≠bi∧s0≤g∧g<wr.heap.size:=by
 refine ⟨fun e=>?_,h.own.lt g hg⟩;subst e
 rcases h.own.2 with ⟨_,h0⟩ | ⟨g',cap,cur,hv,_,hh,_⟩
 ·omega
 ·subst hv
  simp only [Value.ownBlock,Option.some.injEq] at hg;subst hg;rw [h.it] at hh
  cases hh
theorem TL.step {f:ByteArray} {z:Stp} {w wr w':World} {bb s0 bi pos n:Nat} {l:Value} (h:TL f z w bb s0 bi pos n l wr) (hb:Below wr.heap.size wr w'):TL f z w bb s0 bi pos n l w' :=
 ⟨h.box.step hb,(hb.block _ (Array.getElem?_eq_some_iff.1 h.it).1).trans h.it,own_keepL h.own (fun g _ hg=>hb.block g hg),h.lo,h.bs,h.bi⟩
theorem StpBox.step2 {T:TypeId} {b s:Nat} {z:Stp} {w W W':World} (h:StpBox T b z w W) (hb:Below s W W') (h1:w.heap.size≤s) (h2:b<s):StpBox T b z w W' :=
 ⟨h.bel.trans (hb.mono h1),h.lo,Nat.lt_of_lt_of_le h.hi hb.size,(hb.block _ h2).trans h.row⟩
theorem TL.next {f:ByteArray} {z:Stp} {w wr:World} {bb s0 bi pos n:Nat} {l:Value} (h:TL f z w bb s0 bi pos n l wr) (pos':Nat):TL f z w bb s0 bi pos' n l (wr.iterAt bi f pos'):=by
 refine ⟨h.box.step2 (s:=s0) (Lib.below_iterAt ⟨rfl,rfl,rfl,Nat.le_refl _,fun _ _=>rfl⟩ h.bi _ _) h.lo h.bs,Lib.iterAt_heap wr bi f pos pos' h.it,?_,h.lo,h.bs,h.bi⟩;have hne:=fun g hg=>(h.ne (g:=g) hg).1
 obtain ⟨e1,e2⟩:=h.own;refine ⟨e1,?_⟩
 rcases e2 with e2 | ⟨g,cap,cur,rfl,hg,hh,h3⟩
 ·exact .inl e2
 ·exact .inr ⟨g,cap,cur,rfl,hg,(Lib.iterAt_other wr bi g f pos' (hne g rfl)).trans hh,h3⟩
theorem TL.app {f:ByteArray} {z:Stp} {w wr w':World} {bb s0 bi pos n:Nat} {l l':Value} {x:ByteArray} (h:TL f z w bb s0 bi pos n l wr) (hx:(partsL z)[n]?=some x)
  (ho:w'.ownsRow s0 9 1 l' (n+1+1) ((wordsM n z).map .string ++ [.string x])) (hg:wr.grownBy w' l.ownBlock):TL f z w bb s0 bi pos (n+1) l' w':=by
 have hb:Below s0 wr w':=(⟨rfl,rfl,rfl,Nat.le_refl _,fun _ _=>rfl⟩:Below s0 wr wr).grown hg h.lt (fun k hk=>(h.ne hk).2.1);refine ⟨h.box.step2 hb h.lo h.bs,?_,?_,h.lo,h.bs,h.bi⟩
 ·exact (hg.block bi (Array.getElem?_eq_some_iff.1 h.it).1 (fun e=>(h.ne e.symm).1 rfl)).trans h.it
 ·have e:(wordsM (n+1) z).map Value.string=(wordsM n z).map .string ++ [.string x]:=by
   unfold wordsM;rw [List.take_add_one,hx];simp
  rw [e];exact ho
end Go.Proofs.YtagndjihiklmiaaGreatDoor
namespace Go.Proofs.YtagndjihiklmiaaGreatDoor
open Go.RowKit
def zeroZ:Stp:=⟨⟨#[]⟩,0,0,⟨#[]⟩⟩
def dataP (x:ByteArray):ByteArray:=if x.toList == [45] then ⟨#[]⟩ else x
def stageZ (w0:ByteArray) (r:List ByteArray) (p:Nat):Stp :=
 ⟨w0,if 1≤p then numM (r.getD 0 ⟨#[]⟩) else 0,if 2≤p then numM (r.getD 1 ⟨#[]⟩) else 0,if 3≤p then dataP (r.getD 2 ⟨#[]⟩) else ⟨#[]⟩⟩
def parseW (ws:List ByteArray):Option Stp:=match ws with
 | []=>none
 |w0 :: r=>match formK w0 with
  |none=>none
  |some k=>if r.length≠k then none
   else if 3≤k && (r.getD 2 ⟨#[]⟩).toList.isEmpty then none
   else if checkM (stageZ w0 r k)≠0 then none
   else some (stageZ w0 r k)
theorem parseW_no {w0:ByteArray} {r:List ByteArray} (h:formK w0=none):parseW (w0 :: r)=none:=by simp only [parseW,h]
theorem parseW_len {w0:ByteArray} {r:List ByteArray} {k:Nat} (h:formK w0=some k) (hl:r.length≠k):parseW (w0 :: r)=none:=by simp only [parseW,h]; rw [if_pos hl]
theorem parseW_emp {w0:ByteArray} {r:List ByteArray} (h:formK w0=some 3) (hl:r.length=3) (he:(r.getD 2 ⟨#[]⟩).toList.isEmpty=true):parseW (w0 :: r)=none:=by
 simp only [parseW,h]; rw [if_neg (by simp [hl]),if_pos (by simp only [he]; rfl)]
theorem parseW_bad {w0:ByteArray} {r:List ByteArray} {k:Nat} (h:formK w0=some k) (hl:r.length=k) (hc:checkM (stageZ w0 r k)≠0):parseW (w0 :: r)=none:=by
 simp only [parseW,h];rw [if_neg (by simp [hl])]
 split
 ·rfl
 ·first | rfl | rw [if_pos hc]
theorem parseW_ok {w0:ByteArray} {r:List ByteArray} {k:Nat} (h:formK w0=some k) (hl:r.length=k) (he:(3≤k && (r.getD 2 ⟨#[]⟩).toList.isEmpty)=false) (hc:checkM (stageZ w0 r k)=0):parseW (w0 :: r)=some (stageZ w0 r k):=by
 simp only [parseW,h];rw [if_neg (by simp [hl]),if_neg (by rw [he]; decide),if_neg (by simp [hc])]
def parseM (t:ByteArray):Option Stp:=parseW (splitM t)
def parseV (o:Option Stp):Value:=match o with
 |some z=>.tuple #[stpV z,.nilIface]
 |none=>.tuple #[stpV zeroZ,errV 4]
theorem Lay.iter {w wr:World} {l:List (Nat × TypeId × Array Value)} (h:Lay w wr l) {bi:Nat} (h1:w.heap.size≤bi) (h2:∀ x ∈ l,x.1≠bi) (f:ByteArray) (p:Nat):Lay w (wr.iterAt bi f p) l :=
 ⟨Lib.below_iterAt h.below h1 f p,fun x hx=>(Lib.iterAt_other wr bi x.1 f p (h2 x hx)).trans (h.row x hx),h.own,h.nd⟩
theorem Lay.c4p {w wr:World} {l:List (Nat × TypeId × Array Value)} (h:Lay w wr l) (i:Nat) {b:Nat} {T:TypeId} {c0 c1 c2 c3:Value} (hi:l[i]?=some (b,T,#[c0,c1,c2,c3])) :
  wr.cell? ⟨b,0,none⟩=some c0∧wr.cell? ⟨b,1,none⟩=some c1∧wr.cell? ⟨b,2,none⟩=some c2∧wr.cell? ⟨b,3,none⟩=some c3:=⟨h.cell i hi 0,h.cell i hi 1,h.cell i hi 2,h.cell i hi 3⟩
theorem Lay.put4p {w wr:World} {l:List (Nat × TypeId × Array Value)} (h:Lay w wr l) (i:Nat) {b:Nat} {T:TypeId} {u0 u1 u2 u3:Value} (hi:l[i]?=some (b,T,#[u0,u1,u2,u3])) (v0 v1 v2 v3:Value) :
  Lay w ((((wr.setCell ⟨b,0,none⟩ v0).setCell ⟨b,1,none⟩ v1).setCell ⟨b,2,none⟩ v2).setCell ⟨b,3,none⟩ v3) (l.set i (b,T,#[v0,v1,v2,v3])):=by
 have hlt:=(List.getElem?_eq_some_iff.1 hi).1;have h0:=h.set i hi 0 v0;have h1:=h0.set i (by rw [List.getElem?_set_self hlt]) 1 v1;have h2:=h1.set i (by rw [List.set_set,List.getElem?_set_self hlt]) 2 v2;have h3:=h2.set i (by rw [List.set_set,List.set_set,List.getElem?_set_self hlt]) 3 v3;rw [List.set_set,List.set_set,List.set_set] at h3;exact h3
theorem stpInfo:(Tryz.prog.info? 42).map (·.size)=some 4:=by kernel_rfl
theorem stp_results {fn:Func} {tmps:Array Value} {W:World} {rb:Nat} {e:Value} {c0 c1 c2 c3:Value} (h:fn.results=#[.cell 2 42,.tmp 3]) (h2:tmps.getD 2 undef=.pointer (some ⟨rb,0,none⟩)) (h3:tmps.getD 3 undef=e)
  (hrow:W.heap[rb]?=some (.cells #[c0,c1,c2,c3] 42 (0,0))):(results fn tmps).run Tryz.prog W=.ok (.tuple #[.agg #[c0,c1,c2,c3],e]) W:=by
 have hl:=run_loadVar_mid (P:=Tryz.prog) W rb 0 42 [c0,c1,c2,c3] _ (fun j v hj=>by
  rw [Nat.zero_add,cell_of_row _ _ j _ _ _ hrow]
  simpa using hj) Tryz.underlying42 rfl stpInfo
 rw [results_cell_tmp h,h2,h3];simp [asAddr,Result.andThen,hl]
theorem Lay.word {w wr:World} {l:List (Nat × TypeId × Array Value)} (h:Lay w wr l) (i:Nat) {b:Nat} {T:TypeId} {w0:ByteArray} {r:List ByteArray} (hi:l[i]?=some (b,T,((w0 :: r).map Value.string).toArray)) (j:Nat) (hj:j<r.length) :
  wr.cell? ⟨b,j+1,none⟩=some (.string (r.getD j ⟨#[]⟩)):=by
 rw [h.cell i hi (j+1)];simp [List.getD,List.getElem?_eq_getElem hj]
structure PL (f w0:ByteArray) (r:List ByteArray) (w:World) (zb br rb bi pos:Nat) (z:Stp) (wr:World):Prop where
 lay:Lay w wr [(zb,42,#[.string z.word,.int .i64 z.a,.int .i64 z.b,.string z.data]),(br,9,((w0 :: r).map Value.string).toArray),(rb,42,#[.string ⟨#[]⟩,.int .i64 0,.int .i64 0,.string ⟨#[]⟩])]
 it:wr.heap[bi]?=some (.stringIter f pos)
 lo:w.heap.size≤bi
 nz:zb≠bi
 nb:br≠bi
 nr:rb≠bi
section
variable {f w0:ByteArray} {r:List ByteArray} {w wr w':World} {zb br rb bi pos:Nat} {z:Stp}
theorem PL.step (h:PL f w0 r w zb br rb bi pos z wr) (hb:Below wr.heap.size wr w'):PL f w0 r w zb br rb bi pos z w' :=
 ⟨h.lay.step hb,(hb.block _ (Array.getElem?_eq_some_iff.1 h.it).1).trans h.it,h.lo,h.nz,h.nb,h.nr⟩
theorem PL.next (h:PL f w0 r w zb br rb bi pos z wr) (pos':Nat):PL f w0 r w zb br rb bi pos' z (wr.iterAt bi f pos') :=
 ⟨h.lay.iter h.lo (fun x hx=>by
  simp only [List.mem_cons,List.mem_nil_iff,or_false] at hx;rcases hx with rfl | rfl | rfl
  ·exact h.nz
  ·exact h.nb
  ·exact h.nr) f pos',Lib.iterAt_heap wr bi f pos pos' h.it,h.lo,h.nz,h.nb,h.nr⟩
theorem PL.setA (h:PL f w0 r w zb br rb bi pos z wr) (v:Int):PL f w0 r w zb br rb bi pos ⟨z.word,v,z.b,z.data⟩ (wr.setCell ⟨zb,1,none⟩ (.int .i64 v)) :=
 ⟨h.lay.set 0 rfl 1 _,(Below.heap_setCell _ _ _ _ (fun e=>h.nz (by simpa using e.symm))).trans h.it,h.lo,h.nz,h.nb,h.nr⟩
theorem PL.setB (h:PL f w0 r w zb br rb bi pos z wr) (v:Int):PL f w0 r w zb br rb bi pos ⟨z.word,z.a,v,z.data⟩ (wr.setCell ⟨zb,2,none⟩ (.int .i64 v)) :=
 ⟨h.lay.set 0 rfl 2 _,(Below.heap_setCell _ _ _ _ (fun e=>h.nz (by simpa using e.symm))).trans h.it,h.lo,h.nz,h.nb,h.nr⟩
theorem PL.setD (h:PL f w0 r w zb br rb bi pos z wr) (v:ByteArray):PL f w0 r w zb br rb bi pos ⟨z.word,z.a,z.b,v⟩ (wr.setCell ⟨zb,3,none⟩ (.string v)) :=
 ⟨h.lay.set 0 rfl 3 _,(Below.heap_setCell _ _ _ _ (fun e=>h.nz (by simpa using e.symm))).trans h.it,h.lo,h.nz,h.nb,h.nr⟩
end
theorem stageZ_1 (w0:ByteArray) (r:List ByteArray):stageZ w0 r 1=⟨w0,numM (r.getD 0 ⟨#[]⟩),0,⟨#[]⟩⟩:=rfl
theorem stageZ_2 (w0:ByteArray) (r:List ByteArray):stageZ w0 r 2=⟨w0,numM (r.getD 0 ⟨#[]⟩),numM (r.getD 1 ⟨#[]⟩),⟨#[]⟩⟩:=rfl
theorem stageZ_3 (w0:ByteArray) (r:List ByteArray):stageZ w0 r 3=⟨w0,numM (r.getD 0 ⟨#[]⟩),numM (r.getD 1 ⟨#[]⟩),dataP (r.getD 2 ⟨#[]⟩)⟩:=rfl
theorem parse_any (t:ByteArray) (w:World) (ht:t.size≤1000) (hE:Env w):Calls Tryz.prog 13 #[.string t] w (Ret (parseV (parseM t)) w):=by
 have HE:=Lib.hid hE;clear hE
 obtain ⟨o,ho⟩:∃ o,parseW (splitM t)=o:=⟨_,rfl⟩
 have e:parseM t=o:=ho;rw [e];have Ho:=Lib.hid ho;clear e ho;go_enter Tryz.func13,Tryz.ntmps13;go_wp2_with fail;have L1:=(Lay.refl w).alloc' w.heap.size #[Value.string { data:=#[] },.int .i64 0,.int .i64 0,.string { data:=#[] }] 42 rfl;generalize World.alloc _ _=W1 at L1 ⊢;generalize w.heap.size=rb at L1 ⊢;refine (split_any t W1 (by omega) (HE.out.below L1.below)).mono ?_;rintro e w2 ⟨rfl,rfl⟩;have L2:=L1.alloc' W1.heap.size ((splitM t).map .string).toArray 9 rfl;generalize World.alloc _ _=W2 at L2 ⊢;generalize W1.heap.size=br at L2 ⊢;have hsz:=splitM_size t
 have hlen:(splitM t).length≤1001:=by
  unfold splitM;rw [List.length_map];have:=splitL_len t.data.toList;have e2:t.data.toList.length=t.size:=by simp
  omega
 have hne:splitM t≠[]:=by
  unfold splitM;intro e;exact splitL_ne _ (List.map_eq_nil_iff.1 e)
 generalize splitM t=ws at *
 obtain ⟨w0,r,rfl⟩:∃ w0 r,ws=w0 :: r:=by
  cases ws with
  |nil=>exact absurd rfl hne
  |cons a b=>exact ⟨a,b,rfl⟩
 clear hne;have hs0:w0.size≤1000:=Nat.le_trans (hsz w0 (by simp)) ht;have hm0:w0.size≤maxLen:=by unfold maxLen; omega
 have hsr:Hid (∀ x ∈ r,x.size≤1000):=fun x hx=>Nat.le_trans (hsz x (by simp [hx])) ht
 rw [List.length_cons] at hlen ⊢;have c0:W2.cell? ⟨br,0,none⟩=some (.string w0):=L2.cell 0 rfl 0;have hl1:(0:Int)<((r.length+1:Nat):Int):=by omega
 have HL2:=Lib.hid L2;clear L1 L2 hsz;go_wp2_with fail;refine (form_any w0 W2 hm0).mono ?_;rintro e W3 ⟨rfl,hb3⟩;have L3:=HL2.out.step hb3;clear hb3 HL2 c0
 cases hk:formK w0 with
 |none =>
  rw [formT_none hk];obtain rfl:=Ho.out.symm.trans (parseW_no hk);have HL:=Lib.hid L3
  obtain ⟨f0,f1,f2,f3⟩:_∧_∧_∧_:=⟨L3.frozen 1 rfl 0,L3.frozen 1 rfl 1,L3.frozen 1 rfl 2,L3.frozen 1 rfl 3⟩
  obtain ⟨c0,c1,c2,c3⟩:=L3.c4p 1 rfl;clear L3;go_wp2;have LF:=HL.out.put4p 1 rfl (.string ⟨#[]⟩) (.int .i64 0) (.int .i64 0) (.string ⟨#[]⟩);exact bodyPost_ret (stp_results rfl rfl rfl (LF.at_ 1 rfl)) rfl ⟨rfl,LF.below⟩
 |some k =>
  rw [formT_some hk];have hk3:=formK_le hk;have fsz:=form_size k hk3;have fat:=form_at k hk3;generalize (⟨(formS k).toArray⟩:ByteArray)=f at fsz fat;have FS:=Lib.hid fsz;have FA:=Lib.hid fat;have HL:=Lib.hid L3
  obtain ⟨f0,f1,f2,f3⟩:_∧_∧_∧_:=⟨L3.frozen 1 rfl 0,L3.frozen 1 rfl 1,L3.frozen 1 rfl 2,L3.frozen 1 rfl 3⟩
  obtain ⟨c0,c1,c2,c3⟩:=L3.c4p 1 rfl;have d0:W3.cell? ⟨br,0,none⟩=some (.string w0):=L3.cell 0 rfl 0;have hwr:IntKind.i64.wrap (1+(f.size:Int))=1+(f.size:Int):=IntWalk.i64_in _ (by omega);clear L3 fsz fat;by_cases hlk:r.length=k
  ·have hcmp:((r.length:Int)+1 != 1+(f.size:Int))=false:=by
    rw [bne_eq_false_iff_eq,FS.out]; omega
   have HK:=Lib.hid hlk;clear hlk
   obtain ⟨e0,e1,e2,e3⟩:(∀ o,(W3.alloc o).cell? ⟨br,0,none⟩=some (.string w0))∧True∧True∧True:=⟨fun o=>(HL.out.step ((Below.refl _ _).alloc (Nat.le_refl _) o)).cell 0 rfl 0,trivial,trivial,trivial⟩
   go_wp2_with fail
   have P0:PL f w0 r w W3.heap.size br rb (W3.heap.size+1) 0 (stageZ w0 r 0) ((W3.alloc (.cells #[.string w0,.int .i64 0,.int .i64 0,.string ⟨#[]⟩] 42)).iter f 0):=by
    have h1:=HL.out.lt (x:=(br,9,((w0 :: r).map Value.string).toArray)) (by simp);have h2:=HL.out.lt (x:=(rb,42,#[.string ⟨#[]⟩,.int .i64 0,.int .i64 0,.string ⟨#[]⟩])) (by simp)
    have L4:=(HL.out.alloc' W3.heap.size #[.string w0,.int .i64 0,.int .i64 0,.string ⟨#[]⟩] 42 rfl)
    have hsz4:(W3.alloc (.cells #[.string w0,.int .i64 0,.int .i64 0,.string ⟨#[]⟩] 42)).heap.size=W3.heap.size+1:=by simp
    have hlo:=L4.size;refine ⟨L4.step ((Below.refl _ _).alloc (Nat.le_refl _) _),?_,by omega,by omega,by simp at h1; omega,by simp at h2; omega⟩;rw [← hsz4];exact World.iter_heap _ f 0
   generalize World.iter _ f 0=W5 at P0 ⊢;generalize W3.heap.size+1=bi at P0 ⊢;generalize W3.heap.size=zb at P0 ⊢;have HP0:=Lib.hid P0;clear P0 HL f0 f1 f2 f3 c0 c1 c2 c3 d0 e0 e1 e2 e3;go_loopw [8,9] (fun _ _ wr=>∃ pos:Nat,pos≤k∧Hid (PL f w0 r w zb br rb bi pos (stageZ w0 r pos) wr)∧(pos=3→(r.getD 2 ⟨#[]⟩).toList.isEmpty=false)) (fun _ _ wr=>k - wr.iterPos bi)
   case atStart=>exact ⟨0,by omega,HP0,fun e=>by cases e⟩
   case round =>
    obtain ⟨pos,hp,HPL,hemp⟩:=hrel;have hit:=HPL.out.it;have hfs:=FS.out;by_cases hlt:pos<k
    ·have hlt':pos<f.size:=by omega
     have hbyte:=FA.out pos hlt hlt';have hnx:=fun ty=>Lib.run_next_ascii_at (P:=Tryz.prog) wr bi f pos ty hit hlt' (by rw [hbyte]; unfold formC; split; omega; split <;> omega)
     rw [hbyte] at hnx;have P5:=Lib.hid (HPL.out.next (pos+1));have hw1:=P5.out.lay.word 1 rfl pos (by rw [HK.out]; omega)
     have hxs:(r.getD pos ⟨#[]⟩).size≤1000:=by
      have hj:pos<r.length:=by rw [HK.out]; omega
      have e:r.getD pos ⟨#[]⟩=r[pos]:=by simp [List.getD,List.getElem?_eq_getElem hj]
      rw [e];exact hsr.out _ (List.getElem_mem hj)
     have hl2:((pos:Int)+1)<((r.length+1:Nat):Int):=by have:=HK.out; omega
     have P5c:=P5.out.lay.frozen 0 rfl 1;have P5d:=P5.out.lay.frozen 0 rfl 2;have P5e:=P5.out.lay.frozen 0 rfl 3
     obtain ⟨x,hx⟩:∃ x,r.getD pos ⟨#[]⟩=x:=⟨_,rfl⟩
     rw [hx] at hw1 hxs;generalize wr.iterAt bi f (pos+1)=w5 at hnx P5 hw1 P5c P5d P5e;have HX:=Lib.hid hx;clear hx hbyte hlt';have hpp:pos=0∨pos=1∨pos=2:=by omega
     rcases hpp with rfl | rfl | rfl
     ·replace hnx:∀ ty,(Instr.next (.pointer (some ⟨bi,0,none⟩)) true ty).run Tryz.prog wr=.ok (.tuple #[.bool true,.int .i64 0,.int .i32 97]) w5:=hnx
      replace hl2:(1:Int)<((r.length+1:Nat):Int):=hl2
      have hwi:IntKind.i64.wrap (1+0)=1:=by decide
      clear hfs;go_wp2_with fail;refine (scrnum_any x w5 (by omega) (HE.out.below P5.out.lay.below)).mono ?_;rintro e w6 ⟨rfl,hb6⟩;have P6:=Lib.hid (P5.out.step hb6);have fz:=P6.out.lay.frozen 0 rfl 1;have cz:w6.cell? ⟨zb,1,none⟩=some (.int .i64 0):=P6.out.lay.cell 0 rfl 1;have P7:=Lib.hid (P6.out.setA (numM x));have est:stageZ w0 r 1=⟨w0,numM x,0,⟨#[]⟩⟩:=by rw [stageZ_1,HX.out]
      clear hb6;go_wp2;go_roundw
      case rel=>exact ⟨1,by omega,by rw [est]; exact P7,fun e=>by cases e⟩
      case measure=>rw [World.iterPos,World.iterPos,P7.out.it,hit]; simp; omega
     ·replace hnx:∀ ty,(Instr.next (.pointer (some ⟨bi,0,none⟩)) true ty).run Tryz.prog wr=.ok (.tuple #[.bool true,.int .i64 1,.int .i32 98]) w5:=hnx
      replace hl2:(2:Int)<((r.length+1:Nat):Int):=hl2
      have hwi:IntKind.i64.wrap (1+1)=2:=by decide
      clear hfs;go_wp2_with fail;refine (scrnum_any x w5 (by omega) (HE.out.below P5.out.lay.below)).mono ?_;rintro e w6 ⟨rfl,hb6⟩;have P6:=Lib.hid (P5.out.step hb6);have fz:=P6.out.lay.frozen 0 rfl 2;have cz:w6.cell? ⟨zb,2,none⟩=some (.int .i64 0):=P6.out.lay.cell 0 rfl 2;have P7:=Lib.hid (P6.out.setB (numM x));have est:stageZ w0 r 2=⟨w0,numM (r.getD 0 ⟨#[]⟩),numM x,⟨#[]⟩⟩:=by rw [stageZ_2,HX.out]
      clear hb6;go_wp2;go_roundw
      case rel=>exact ⟨2,by omega,by rw [est]; exact P7,fun e=>by cases e⟩
      case measure=>rw [World.iterPos,World.iterPos,P7.out.it,hit]; simp; omega
     ·replace hnx:∀ ty,(Instr.next (.pointer (some ⟨bi,0,none⟩)) true ty).run Tryz.prog wr=.ok (.tuple #[.bool true,.int .i64 2,.int .i32 100]) w5:=hnx
      replace hl2:(3:Int)<((r.length+1:Nat):Int):=hl2
      have hwi:IntKind.i64.wrap (1+2)=3:=by decide
      have cz:w5.cell? ⟨zb,3,none⟩=some (.string ⟨#[]⟩):=P5.out.lay.cell 0 rfl 3;have P6:=Lib.hid (P5.out.setD x);have cz2:(w5.setCell ⟨zb,3,none⟩ (.string x)).cell? ⟨zb,3,none⟩=some (.string x):=P6.out.lay.cell 0 rfl 3;have fz2:=P6.out.lay.frozen 0 rfl 3;clear hfs;rcases Bool.eq_false_or_eq_true (x.toList == [45]) with hq | hq
      ·have est:stageZ w0 r 3=⟨w0,numM (r.getD 0 ⟨#[]⟩),numM (r.getD 1 ⟨#[]⟩),⟨#[]⟩⟩:=by
        rw [stageZ_3,HX.out];unfold dataP;rw [hq]; rfl
       have P7:=Lib.hid (P6.out.setD ⟨#[]⟩)
       have hem:(r.getD 2 ⟨#[]⟩).toList.isEmpty=false:=by
        rw [HX.out,eq_of_beq hq]; rfl
       go_wp2;go_roundw
       case rel=>exact ⟨3,by omega,by rw [est]; exact P7,fun _=>hem⟩
       case measure=>rw [World.iterPos,World.iterPos,P7.out.it,hit]; simp; omega
      ·rcases Bool.eq_false_or_eq_true x.toList.isEmpty with he | he
       ·obtain rfl:k=3:=by omega
        obtain rfl:=Ho.out.symm.trans (parseW_emp hk HK.out (by rw [HX.out]; exact he))
        obtain ⟨f0,f1,f2,f3⟩:_∧_∧_∧_:=⟨P6.out.lay.frozen 2 rfl 0,P6.out.lay.frozen 2 rfl 1,P6.out.lay.frozen 2 rfl 2,P6.out.lay.frozen 2 rfl 3⟩
        obtain ⟨c0,c1,c2,c3⟩:=P6.out.lay.c4p 2 rfl;go_wp2;have LF:=P6.out.lay.put4p 2 rfl (.string ⟨#[]⟩) (.int .i64 0) (.int .i64 0) (.string ⟨#[]⟩);exact bodyPost_ret (stp_results rfl rfl rfl (LF.at_ 2 rfl)) rfl ⟨rfl,LF.below⟩
       ·have est:stageZ w0 r 3=⟨w0,numM (r.getD 0 ⟨#[]⟩),numM (r.getD 1 ⟨#[]⟩),x⟩:=by
         rw [stageZ_3,HX.out];unfold dataP;rw [hq]; rfl
        have hem:(r.getD 2 ⟨#[]⟩).toList.isEmpty=false:=by rw [HX.out]; exact he
        go_wp2;go_roundw
        case rel=>exact ⟨3,by omega,by rw [est]; exact P6,fun _=>hem⟩
        case measure=>rw [World.iterPos,World.iterPos,P6.out.it,hit]; simp; omega
    ·obtain rfl:pos=k:=by omega
     have hnx:=fun ty=>Lib.run_next_end_at (P:=Tryz.prog) wr bi f pos ty hit (by omega)
     obtain ⟨c0,c1,c2,c3⟩:=HPL.out.lay.c4p 0 rfl;have hch:=Lib.hid (fun w hs=>checks_any (stageZ w0 r pos) w hs)
     have hem2:(decide (3≤pos) && (r.getD 2 ⟨#[]⟩).toList.isEmpty)=false:=by
      by_cases h3:pos=3
      ·rw [hemp h3,Bool.and_false]
      ·have:decide (3≤pos)=false:=decide_eq_false (by omega)
       rw [this]; rfl
     by_cases hc:checkM (stageZ w0 r pos)=0
     ·obtain rfl:=Ho.out.symm.trans (parseW_ok hk HK.out hem2 hc)
      go_wp2_with fail;refine (hch.out wr hm0).mono ?_;rintro e w6 ⟨rfl,hb6⟩;rw [hc,errV_zero];have P6:=Lib.hid (HPL.out.step hb6);clear c0 c1 c2 c3;obtain ⟨c0,c1,c2,c3⟩:=P6.out.lay.c4p 0 rfl;obtain ⟨b0,b1,b2,b3⟩:=P6.out.lay.c4p 2 rfl
      obtain ⟨f0,f1,f2,f3⟩:_∧_∧_∧_:=⟨P6.out.lay.frozen 2 rfl 0,P6.out.lay.frozen 2 rfl 1,P6.out.lay.frozen 2 rfl 2,P6.out.lay.frozen 2 rfl 3⟩
      go_wp2;have LF:=P6.out.lay.put4p 2 rfl (.string (stageZ w0 r pos).word) (.int .i64 (stageZ w0 r pos).a) (.int .i64 (stageZ w0 r pos).b) (.string (stageZ w0 r pos).data);exact bodyPost_ret (stp_results rfl rfl rfl (LF.at_ 2 rfl)) rfl ⟨rfl,LF.below⟩
     ·obtain rfl:=Ho.out.symm.trans (parseW_bad hk HK.out hc)
      have hn:(checkM (stageZ w0 r pos) == 0)=false:=beq_eq_false_iff_ne.2 hc;go_wp2_with fail;refine (hch.out wr hm0).mono ?_;rintro e w6 ⟨rfl,hb6⟩;have P6:=Lib.hid (HPL.out.step hb6);clear c0 c1 c2 c3;obtain ⟨b0,b1,b2,b3⟩:=P6.out.lay.c4p 2 rfl
      obtain ⟨f0,f1,f2,f3⟩:_∧_∧_∧_:=⟨P6.out.lay.frozen 2 rfl 0,P6.out.lay.frozen 2 rfl 1,P6.out.lay.frozen 2 rfl 2,P6.out.lay.frozen 2 rfl 3⟩
      go_wp2;have LF:=P6.out.lay.put4p 2 rfl (.string ⟨#[]⟩) (.int .i64 0) (.int .i64 0) (.string ⟨#[]⟩);exact bodyPost_ret (stp_results rfl rfl rfl (LF.at_ 2 rfl)) rfl ⟨rfl,LF.below⟩
  ·have hcmp:((r.length:Int)+1 != 1+(f.size:Int))=true:=by
    rw [bne_iff_ne,FS.out]; omega
   obtain rfl:=Ho.out.symm.trans (parseW_len hk hlk);go_wp2;have LF:=HL.out.put4p 1 rfl (.string ⟨#[]⟩) (.int .i64 0) (.int .i64 0) (.string ⟨#[]⟩);exact bodyPost_ret (stp_results rfl rfl rfl (LF.at_ 1 rfl)) rfl ⟨rfl,LF.below⟩
end Go.Proofs.YtagndjihiklmiaaGreatDoor
namespace Go.Proofs.YtagndjihiklmiaaGreatDoor
open Go.RowKit Go.Sort
theorem told_any (n:Int) (b:Nat) (w:World) (h0:0≤n∧n≤1000) (hb:w.heap[b]?=some (.cells #[.int .i64 n] 3 (0,0))) (hE:Env w) :
  Calls Tryz.prog 36 #[.string ⟨#[101,114,114,111,114]⟩,.slice (some ⟨b,0,none⟩) 1 1] w (Ret (.string ((⟨#[101,114,114,111,114]⟩:ByteArray) ++ ((⟨#[32]⟩:ByteArray) ++ itoaB n))) w):=by
 have s1:=itoaB_size n (by omega) (by omega);have Hi:=Lib.hid (fun w hE=>itoa_any n w (by omega) (by omega) hE);have HE:=Lib.hid hE;have Hb:=Lib.hid hb;clear hE hb;generalize itoaB n=d at *;have z1:¬ (9223372036854775807<1+d.size):=by omega
 have z2:¬ (9223372036854775807<5+(1+d.size)):=by omega
 go_enter Tryz.func36,Tryz.ntmps36;go_wp2_with fail;go_loopw [0,6,9] (fun s _ i wr=>Hid (Below w.heap.size w wr)∧((i=.int .i64 0∧s=.string ⟨#[101,114,114,111,114]⟩)∨(i=.int .i64 1∧s=.string ((⟨#[101,114,114,111,114]⟩:ByteArray) ++ ((⟨#[32]⟩:ByteArray) ++ d))))) (fun _ _ i _=>(1 - intOf i).toNat)
 case atStart=>exact ⟨Below.refl _ _,.inl ⟨rfl,rfl⟩⟩
 case round =>
  obtain ⟨HB,hrel⟩:=hrel;have c0:wr.cell? ⟨b,0,none⟩=some (.int .i64 n):=cell_b HB.out (cell_of_row _ _ 0 _ _ _ Hb.out)
  rcases hrel with ⟨rfl,rfl⟩ | ⟨rfl,rfl⟩
  ·go_wp2_with fail
   refine (Hi.out wr (HE.out.below HB.out)).mono ?_;rintro e w1 ⟨rfl,hb1⟩;go_wp2_with fail;go_roundw
   case rel=>exact ⟨HB.out.trans (hb1.mono HB.out.size),.inr ⟨rfl,rfl⟩⟩
   case measure=>simp [intOf]
  ·go_wp2_with fail
   go_ret;exact ⟨rfl,HB.out⟩
theorem fault_any (n:Nat) (w:World) (hn:n≤1000) (h0:0<n) (hE:Env w):Calls Tryz.prog 12 #[errV n] w (Ret (.string (doneB n)) w):=by
 have e:doneB n=(⟨#[101,114,114,111,114]⟩:ByteArray) ++ ((⟨#[32]⟩:ByteArray) ++ itoaB n):=by
  unfold doneB;rw [if_neg (by omega),← ByteArray.append_assoc]; rfl
 rw [e,errV_pos (by omega)];have HE:=Lib.hid hE;clear e hE;go_enter Tryz.func12,Tryz.ntmps12;go_wp2_with fail;have hb1:=(Below.refl w.heap.size w).alloc (Nat.le_refl _) (Obj.cells #[Value.int IntKind.i64 (n:Int)] 3);have hr1:=heap_alloc_new w (Obj.cells #[Value.int IntKind.i64 (n:Int)] 3);refine (told_any (n:Int) w.heap.size _ (by omega) hr1 (HE.out.below hb1)).mono ?_;rintro e w2 ⟨rfl,hb2⟩;go_wp2_with fail;go_ret;exact ⟨rfl,hb1.trans (hb2.mono hb1.size)⟩
end Go.Proofs.YtagndjihiklmiaaGreatDoor
namespace Go.Proofs.YtagndjihiklmiaaGreatDoor
open Go.RowKit
theorem checkM_ok {z:Stp} (h:checkM z=0):∃ k,formK z.word=some k∧k≤3∧partsB k z=false∧boundB z=false∧blankB z.data=false∧(z.data.toList == [45])=false:=by
 unfold checkM at h
 cases hk:formK z.word with
 |none=>rw [hk] at h; cases h
 |some k =>
  rw [hk] at h;simp only at h
  cases h1:partsB k z with
  |true=>rw [h1] at h; simp at h
  |false =>
   rw [h1] at h
   cases h2:boundB z with
   |true=>rw [h2] at h; simp at h
   |false =>
    rw [h2] at h
    cases h3:(blankB z.data || z.data.toList == [45]) with
    |true=>rw [h3] at h; simp at h
    |false =>
     rw [Bool.or_eq_false_iff] at h3;exact ⟨k,rfl,formK_le hk,h1,rfl,h3.1,h3.2⟩
def dch (d:Nat):UInt8:=UInt8.ofNat (48+d)
theorem dch_nat {d:Nat} (h:d<10):(dch d).toNat=48+d:=by
 unfold dch;rw [UInt8.toNat_ofNat'];omega
theorem pu_digits:∀ (ds:List Nat) (acc:Nat),(∀ d ∈ ds,d<10)→(acc+1) * 10 ^ ds.length≤10 ^ 18→Lib.parseUint10 acc (ds.map dch)=.ok (ds.foldl (fun a d=>a * 10+d) acc)
 | [],acc,_,_=>rfl
 |d :: ds,acc,hd,hb=>by
  have h1:=hd d (by simp);have e:=dch_nat h1;have hp:(10:Nat) ^ (d :: ds).length=10 ^ ds.length * 10:=by rw [List.length_cons,Nat.pow_succ]
  have hpos:1≤10 ^ ds.length:=Nat.pow_pos (by omega)
  have hb2:(acc * 10+d+1) * 10 ^ ds.length≤10 ^ 18:=by
   refine Nat.le_trans (Nat.mul_le_mul_right _ (show acc * 10+d+1≤(acc+1) * 10 by omega)) ?_;rw [hp] at hb
   calc (acc+1) * 10 * 10 ^ ds.length=(acc+1) * (10 ^ ds.length * 10):=by rw [Nat.mul_assoc,Nat.mul_comm 10]
    _≤10 ^ 18:=hb
  have hacc:acc * 10+d+1≤10 ^ 18:=Nat.le_trans (by
   have:=Nat.mul_le_mul_left (acc * 10+d+1) hpos
   omega) hb2
  rw [List.map_cons,List.foldl_cons,← pu_digits ds (acc * 10+d) (fun x hx=>hd x (by simp [hx])) hb2];rw [Lib.parseUint10,e];rw [if_pos (by omega),if_neg (by omega),if_neg (by omega)]
  congr 1
  omega
theorem dec_digits (n:Nat) (h:n<1000):∃ ds:List Nat,(∀ d ∈ ds,d<10)∧ds≠[]∧ds.length≤3∧Lib.decDigits n=ds.map dch∧ds.foldl (fun a d=>a * 10+d) 0=n:=by
 by_cases h1:n<10
 ·refine ⟨[n],by simpa using h1,by simp,by simp,?_,by simp⟩
  rw [Lib.decDigits,dif_pos h1]; rfl
 ·by_cases h2:n<100
  ·refine ⟨[n / 10,n % 10],by simp; omega,by simp,by simp,?_,by simp; omega⟩
   rw [Lib.decDigits,dif_neg h1,Lib.decDigits,dif_pos (by omega)]; rfl
  ·refine ⟨[n / 10 / 10,n / 10 % 10,n % 10],by simp; omega,by simp,by simp,?_,by simp; omega⟩
   rw [Lib.decDigits,dif_neg h1,Lib.decDigits,dif_neg (by omega),Lib.decDigits,dif_pos (by omega)]; rfl
theorem itoa_nat (n:Nat):Lib.itoa (n:Int)=Lib.decDigits n:=by
 unfold Lib.itoa;rw [if_neg (by omega)];simp
theorem numM_itoa (n:Nat) (h:n<1000):numM (itoaB n)=n:=by
 obtain ⟨ds,h1,h2,h3,h4,h5⟩:=dec_digits n h
 have hp:=pu_digits ds 0 h1 (by
  have:10 ^ ds.length≤10 ^ 3:=Nat.pow_le_pow_right (by omega) h3
  omega)
 rw [h5] at hp
 have hl:(itoaB (n:Int)).data.toList=ds.map dch:=by
  unfold itoaB;rw [itoa_nat,h4]
 have ha:atoiM (itoaB (n:Int))=some (n:Int):=by
  unfold atoiM;rw [hl]
  cases ds with
  |nil=>exact absurd rfl h2
  |cons d ds =>
   have e:=dch_nat (h1 d (by simp));rw [List.map_cons] at hp ⊢
   have:Lib.atoiAll (dch d :: ds.map dch)=.ok (n:Int):=by
    unfold Lib.atoiAll;simp only [e];rw [if_neg (by omega)];unfold Lib.parseMag;rw [if_neg (by simp),hp];simp only;rw [if_neg (by omega),if_neg (by omega),if_neg (by omega)]
   rw [this]
 unfold numM;rw [ha];simp
end Go.Proofs.YtagndjihiklmiaaGreatDoor
