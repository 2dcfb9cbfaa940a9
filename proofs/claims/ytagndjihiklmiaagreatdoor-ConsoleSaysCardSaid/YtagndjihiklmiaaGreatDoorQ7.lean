/- Of two requests that are put together: plain facts. -/
import Derived.Test.YtagndjihiklmiaaGreatDoorQ6
set_option linter.unusedSimpArgs false
set_option linter.unusedVariables false
set_option maxRecDepth 100000
set_option maxHeartbeats 8000000
namespace Go.Proofs.YtagndjihiklmiaaGreatDoor
structure Joined (a b x:Rq):Prop where
 ok:ReqOk x
 write:x.write=a.write
 kind:a.write=b.write
 many:x.many=a.many+b.many
 tags:x.tags.length=a.tags.length+b.tags.length
 bornA:x.born≤a.born
 bornB:x.born≤b.born
 has:∀ k,hasB x.lo x.many k=(hasB a.lo a.many k || hasB b.lo b.many k)
 dataA:a.write=true→∀ k,hasB a.lo a.many k=true→∃ (i j:Nat) (s:ByteArray),k - x.lo=i∧k - a.lo=j∧x.data[i]?=some s∧a.data[j]?=some s
 dataB:a.write=true→∀ k,hasB b.lo b.many k=true→∃ (i j:Nat) (s:ByteArray),k - x.lo=i∧k - b.lo=j∧x.data[i]?=some s∧b.data[j]?=some s
theorem hasB_iff {f m k:Int}:hasB f m k=true↔f≤k∧k - f<m:=by unfold hasB; simp
theorem Joined.flip {a b x:Rq} (h:Joined a b x):Joined b a x :=
 ⟨h.ok,h.write.trans h.kind,h.kind.symm,by rw [h.many,Int.add_comm],by rw [h.tags,Nat.add_comm],h.bornB,h.bornA,fun k=>by rw [h.has,Bool.or_comm],fun hw=>h.dataB (h.kind.trans hw),fun hw=>h.dataA (h.kind.trans hw)⟩
theorem data_len {r:Rq} (h:ReqOk r) (hw:r.write=true):(r.data.length:Int)=r.many:=by
 have:=h.shape; unfold shapeOk at this; rwa [if_pos hw] at this
theorem data_none {r:Rq} (h:ReqOk r) (hw:r.write=false):r.data.length=0:=by
 have:=h.shape; unfold shapeOk at this; rwa [if_neg (by simp [hw])] at this
theorem join_facts {p q:Rq} (hp:ReqOk p) (hq:ReqOk q) (h:joinOk p q):Joined p q (joinM p q):=by
 obtain ⟨h1,h2,h3,h4⟩:=h;obtain ⟨a1,a2,a3,a4,a5⟩:=hp.span;obtain ⟨b1,b2,b3,b4,b5⟩:=hq.span;obtain ⟨t1,t2⟩:=hp.tags;obtain ⟨u1,u2⟩:=hq.tags;obtain ⟨n1,n2⟩:=hp.born;obtain ⟨m1,m2⟩:=hq.born
 have hd:∀ k:Nat,(joinM p q).data[k]?=if k<p.data.length then p.data[k]? else q.data[k - p.data.length]?:=by
  intro k;show (p.data ++ q.data)[k]?=_;rw [List.getElem?_append]
 refine ⟨⟨?_,?_,?_,?_,?_⟩,rfl,h2,rfl,by simp [joinM],?_,?_,?_,?_,?_⟩
 ·show SpanOk p.lo (p.many+q.many) 4
  exact ⟨a1,a2,by omega,h3,by omega⟩
 ·show shapeOk (joinM p q)
  unfold shapeOk joinM;simp only
  cases hw:p.write with
  |true =>
   have e1:=data_len hp hw;have e2:=data_len hq (h2.symm.trans hw);simp [List.length_append]; omega
  |false =>
   have e1:=data_none hp hw;have e2:=data_none hq (h2.symm.trans hw);simp [List.length_append] at e1 e2 ⊢; exact ⟨e1,e2⟩
 ·show 1≤(p.tags ++ q.tags).length∧(p.tags ++ q.tags).length≤4
  rw [List.length_append]; omega
 ·show 0≤min p.born q.born∧_
  simp only [joinM]; omega
 ·show ((p.data ++ q.data).all _)=true
  have e1:=hp.data;have e2:=hq.data;unfold dataOk at e1 e2;rw [List.all_append,e1,e2]; rfl
 ·show min p.born q.born≤_; omega
 ·show min p.born q.born≤_; omega
 ·intro k
  rw [Bool.eq_iff_iff];simp only [Bool.or_eq_true,hasB_iff,joinM];omega
 ·intro hw k hk
  rw [hasB_iff] at hk;have e1:=data_len hp hw
  obtain ⟨j,hj⟩:∃ j:Nat,k - p.lo=j:=⟨(k - p.lo).toNat,by omega⟩
  have hlt:j<p.data.length:=by omega
  refine ⟨j,j,p.data[j],hj,hj,?_,List.getElem?_eq_getElem hlt⟩;rw [hd,if_pos hlt]; exact List.getElem?_eq_getElem hlt
 ·intro hw k hk
  rw [hasB_iff] at hk;have e1:=data_len hp hw;have e2:=data_len hq (h2.symm.trans hw)
  obtain ⟨j,hj⟩:∃ j:Nat,k - q.lo=j:=⟨(k - q.lo).toNat,by omega⟩
  have hlt:j<q.data.length:=by omega
  refine ⟨p.data.length+j,j,q.data[j],by simp only [joinM]; omega,hj,?_,List.getElem?_eq_getElem hlt⟩;rw [hd,if_neg (by omega)];rw [Nat.add_sub_cancel_left];exact List.getElem?_eq_getElem hlt
theorem joined_some {p q x:Rq} (hp:ReqOk p) (hq:ReqOk q) (h:joinedM p q=some x):Joined p q x:=by
 unfold joinedM at h
 split at h
 ·cases h; exact join_facts hp hq ‹_›
 ·cases h
theorem merge_some {a b x:Rq} (ha:ReqOk a) (hb:ReqOk b) (h:mergeM a b=some x):Joined a b x:=by
 unfold mergeM swapM at h
 split at h
 ·exact (joined_some hb ha h).flip
 ·exact joined_some ha hb h
end Go.Proofs.YtagndjihiklmiaaGreatDoor
namespace Go.Proofs.YtagndjihiklmiaaGreatDoor
open Go.RowKit
structure Lay (w wr:World) (l:List (Nat × TypeId × Array Value)):Prop where
 below:Below w.heap.size w wr
 row:∀ x ∈ l,wr.heap[x.1]?=some (.cells x.2.2 x.2.1 (0,0))
 own:∀ x ∈ l,w.heap.size≤x.1
 nd:(l.map (·.1)).Nodup
section
variable {w wr w':World} {l:List (Nat × TypeId × Array Value)}
theorem Lay.refl (w:World):Lay w w []:=⟨Below.refl _ _,by simp,by simp,by simp⟩
theorem Lay.lt (h:Lay w wr l) {x:Nat × TypeId × Array Value} (hx:x ∈ l):x.1<wr.heap.size:=by
 have:=h.row x hx;rcases Nat.lt_or_ge x.1 wr.heap.size with h | h
 ·exact h
 ·rw [Array.getElem?_eq_none h] at this; cases this
theorem Lay.size (h:Lay w wr l):w.heap.size≤wr.heap.size:=h.below.size
theorem Lay.step (h:Lay w wr l) (hb:Below wr.heap.size wr w'):Lay w w' l :=
 ⟨h.below.trans (hb.mono h.size),fun x hx=>(hb.block _ (h.lt hx)).trans (h.row x hx),h.own,h.nd⟩
theorem Lay.alloc (h:Lay w wr l) (cs:Array Value) (T:TypeId):Lay w (wr.alloc (.cells cs T)) ((wr.heap.size,T,cs) :: l):=by
 have hs:=h.step ((Below.refl wr.heap.size wr).alloc (Nat.le_refl _) (.cells cs T));refine ⟨hs.below,fun x hx=>?_,fun x hx=>?_,?_⟩
 ·rcases List.mem_cons.1 hx with rfl | hx
  ·exact heap_alloc_new wr (.cells cs T)
  ·exact hs.row x hx
 ·rcases List.mem_cons.1 hx with rfl | hx
  ·exact h.size
  ·exact h.own x hx
 ·rw [List.map_cons,List.nodup_cons]
  refine ⟨fun hm=>?_,h.nd⟩;obtain ⟨x,hx,he⟩:=List.mem_map.1 hm;have:=h.lt hx;omega
theorem Lay.alloc' (h:Lay w wr l) (n:Nat) (cs:Array Value) (T:TypeId) (hn:wr.heap.size=n):Lay w (wr.alloc (.cells cs T)) ((n,T,cs) :: l):=hn▸h.alloc cs T
theorem Lay.drew (h:Lay w wr l):Lay w wr.drew l:=h.step (Below.refl _ _).drew
theorem Lay.at_ (h:Lay w wr l) (i:Nat) {b:Nat} {T:TypeId} {cs:Array Value} (hi:l[i]?=some (b,T,cs)):wr.heap[b]?=some (.cells cs T (0,0)):=h.row _ (List.mem_of_getElem? hi)
theorem Lay.cell (h:Lay w wr l) (i:Nat) {b:Nat} {T:TypeId} {cs:Array Value} (hi:l[i]?=some (b,T,cs)) (k:Nat):wr.cell? ⟨b,k,none⟩=cs[k]?:=cell_of_row _ _ k _ _ _ (h.at_ i hi)
theorem Lay.frozen (h:Lay w wr l) (i:Nat) {b:Nat} {T:TypeId} {cs:Array Value} (hi:l[i]?=some (b,T,cs)) (k:Nat):wr.frozen? ⟨b,k,none⟩=false:=frozen_of_row _ _ k _ _ (h.at_ i hi)
theorem Lay.c6 (h:Lay w wr l) (i:Nat) {b:Nat} {T:TypeId} {c0 c1 c2 c3 c4 c5:Value} (hi:l[i]?=some (b,T,#[c0,c1,c2,c3,c4,c5])) :
  wr.cell? ⟨b,0,none⟩=some c0∧wr.cell? ⟨b,1,none⟩=some c1∧wr.cell? ⟨b,2,none⟩=some c2∧wr.cell? ⟨b,3,none⟩=some c3∧wr.cell? ⟨b,4,none⟩=some c4∧wr.cell? ⟨b,5,none⟩=some c5 :=
 ⟨h.cell i hi 0,h.cell i hi 1,h.cell i hi 2,h.cell i hi 3,h.cell i hi 4,h.cell i hi 5⟩
theorem Lay.ca6 (h:Lay w wr l) (i:Nat) {b:Nat} {T:TypeId} {c0 c1 c2 c3 c4 c5:Value} (hi:l[i]?=some (b,T,#[c0,c1,c2,c3,c4,c5])) :
  (∀ o,(wr.alloc o).cell? ⟨b,0,none⟩=some c0)∧(∀ o,(wr.alloc o).cell? ⟨b,1,none⟩=some c1)∧(∀ o,(wr.alloc o).cell? ⟨b,2,none⟩=some c2)∧(∀ o,(wr.alloc o).cell? ⟨b,3,none⟩=some c3)∧(∀ o,(wr.alloc o).cell? ⟨b,4,none⟩=some c4)∧(∀ o,(wr.alloc o).cell? ⟨b,5,none⟩=some c5):=by
 have k:∀ o,(wr.alloc o).heap[b]?=some (.cells #[c0,c1,c2,c3,c4,c5] T (0,0)):=fun o=>(Below.heap_alloc _ _ _ (h.lt (List.mem_of_getElem? hi))).trans (h.at_ i hi)
 exact ⟨fun o=>cell_of_row _ _ 0 _ _ _ (k o),fun o=>cell_of_row _ _ 1 _ _ _ (k o),fun o=>cell_of_row _ _ 2 _ _ _ (k o),fun o=>cell_of_row _ _ 3 _ _ _ (k o),fun o=>cell_of_row _ _ 4 _ _ _ (k o),fun o=>cell_of_row _ _ 5 _ _ _ (k o)⟩
theorem Lay.c1 (h:Lay w wr l) (i:Nat) {b:Nat} {T:TypeId} {c0:Value} (hi:l[i]?=some (b,T,#[c0])):wr.cell? ⟨b,0,none⟩=some c0:=h.cell i hi 0
theorem Lay.c2 (h:Lay w wr l) (i:Nat) {b:Nat} {T:TypeId} {c0 c1:Value} (hi:l[i]?=some (b,T,#[c0,c1])):wr.cell? ⟨b,0,none⟩=some c0∧wr.cell? ⟨b,1,none⟩=some c1:=⟨h.cell i hi 0,h.cell i hi 1⟩
theorem Lay.set (h:Lay w wr l) (i:Nat) {b:Nat} {T:TypeId} {cs:Array Value} (hi:l[i]?=some (b,T,cs)) (k:Nat) (v:Value):Lay w (wr.setCell ⟨b,k,none⟩ v) (l.set i (b,T,cs.setIfInBounds k v)):=by
 have hm:=List.mem_of_getElem? hi;have hb:=h.own _ hm;have h0:=h.at_ i hi;have hnd:=h.nd;refine ⟨h.below.setCell hb _,fun x hx=>?_,fun x hx=>?_,?_⟩
 ·obtain ⟨j,hj⟩:=List.mem_iff_getElem?.1 hx
  rw [List.getElem?_set] at hj
  split at hj
  ·rename_i e
   split at hj
   ·cases hj
    exact heap_setCell_same _ _ k _ _ v h0
   ·cases hj
  ·rename_i e
   have hne:x.1≠b:=by
    intro he;have h1:(l.map (·.1))[i]?=some b:=by rw [List.getElem?_map,hi]; rfl
    have h2:(l.map (·.1))[j]?=some b:=by rw [List.getElem?_map,hj]; simp [he]
    obtain ⟨l1,h1⟩:=List.getElem?_eq_some_iff.1 h1;obtain ⟨l2,h2⟩:=List.getElem?_eq_some_iff.1 h2;exact e ((List.getElem_inj hnd).1 (h1.trans h2.symm))
   rw [heap_setCell_other _ _ _ _ (by simpa using hne)];exact h.row x (List.mem_of_getElem? hj)
 ·rcases List.mem_or_eq_of_mem_set hx with hx | rfl
  ·exact h.own x hx
  ·exact hb
 ·have:(l.set i (b,T,cs.setIfInBounds k v)).map (·.1)=l.map (·.1):=by
   rw [List.map_set];apply List.ext_getElem?;intro j;rw [List.getElem?_set]
   split
   ·rename_i e
    subst e;rw [List.getElem?_map,hi]
    split
    ·rfl
    ·rename_i hh
     exfalso;apply hh;rw [List.length_map];exact (List.getElem?_eq_some_iff.1 hi).1
   ·rfl
  rw [this];exact hnd
theorem Lay.put6 (h:Lay w wr l) (i:Nat) {b:Nat} {T:TypeId} {c0 c1 c2 c3 c4 c5:Value} (hi:l[i]?=some (b,T,#[c0,c1,c2,c3,c4,c5])) (v0 v1 v2 v3 v4 v5:Value) :
  Lay w ((((((wr.setCell ⟨b,0,none⟩ v0).setCell ⟨b,1,none⟩ v1).setCell ⟨b,2,none⟩ v2).setCell ⟨b,3,none⟩ v3).setCell ⟨b,4,none⟩ v4).setCell ⟨b,5,none⟩ v5) (l.set i (b,T,#[v0,v1,v2,v3,v4,v5])):=by
 have hlt:i<l.length:=(List.getElem?_eq_some_iff.1 hi).1;have g0:=h.set i hi 0 v0;have g1:=g0.set i (by rw [List.getElem?_set,if_pos rfl,if_pos hlt]) 1 v1;have g2:=g1.set i (by rw [List.getElem?_set,if_pos rfl,if_pos (by simpa using hlt)]) 2 v2;have g3:=g2.set i (by rw [List.getElem?_set,if_pos rfl,if_pos (by simpa using hlt)]) 3 v3;have g4:=g3.set i (by rw [List.getElem?_set,if_pos rfl,if_pos (by simpa using hlt)]) 4 v4;have g5:=g4.set i (by rw [List.getElem?_set,if_pos rfl,if_pos (by simpa using hlt)]) 5 v5
 simpa [List.set_set] using g5
end
end Go.Proofs.YtagndjihiklmiaaGreatDoor
namespace Go.Proofs.YtagndjihiklmiaaGreatDoor
open Go.RowKit
theorem reqcheck_any (S:Nat→Prop) (r:Rq) (v:Value) (w:World) (h:ReqAt S w v r) :
  Calls Tryz.prog 166 #[v] w (Ret (errV (reqF r)) w):=by
 obtain ⟨Ad,cd,At,ct,rfl,hd,ht,dm,tm,_,_,_⟩:=h.opened;have Hd:=Lib.hid hd;clear hd ht h;by_cases hs:SpanOk r.lo r.many 4;have fs:=spanF_pos hs;have Hs:=Lib.hid hs;have hm1:1≤r.many:=hs.2.2.1;clear hs;by_cases hsh:shapeOk r;have Hsh:=Lib.hid hsh
 have q:(r.write=true∧((r.data.length:Int) == r.many)=true∧0<(r.data.length:Int))∨(r.write=false∧(¬ 0<(r.data.length:Int))∧decide (0<r.data.length)=false):=by
  unfold shapeOk at hsh
  cases hw:r.write with
  |true=>rw [hw] at hsh; simp at hsh; left; exact ⟨rfl,by simpa using hsh,by omega⟩
  |false=>rw [hw] at hsh; simp at hsh; right; exact ⟨rfl,by rw [hsh]; simp,by rw [hsh]; simp⟩
 clear hsh;by_cases htg:tagsOk r;have Htg:=Lib.hid htg;have t1:(1:Int)≤(r.tags.length:Int):=by have:=htg.1; omega
 have t2:(r.tags.length:Int)≤4:=by have:=htg.2; omega
 have t0:((r.tags.length:Int) == 0)=false:=by simp; intro h; rw [h] at t1; simp at t1
 clear htg;by_cases hbn:bornOk r;have Hbn:=Lib.hid hbn;have b1:0≤r.born:=hbn.1;have b2:r.born≤1000000000:=hbn.2;clear hbn
 rcases q with ⟨hw,hq,hq2⟩ | ⟨hw,hq,hqd⟩
 have hq3:((r.data.length:Int) != r.many)=false:=by rw [bne,hq]; rfl
 rcases Bool.eq_false_or_eq_true (r.data.all (fun s=>decide (s.size≤4))) with hall | hall;rw [reqF_ok ⟨Hs.out,Hsh.out,Htg.out,Hbn.out,hall⟩];rotate_left;rw [reqF_data Hs.out Hsh.out Htg.out Hbn.out hall];rotate_left;rcases Bool.eq_false_or_eq_true (r.data.all (fun s=>decide (s.size≤4))) with hall | hall;rw [reqF_ok ⟨Hs.out,Hsh.out,Htg.out,Hbn.out,hall⟩];rotate_left;rw [reqF_data Hs.out Hsh.out Htg.out Hbn.out hall];rotate_left;have e:=reqF_born Hs.out Hsh.out Htg.out hbn;have bb:r.born<0∨1000000000<r.born:=by unfold bornOk at hbn; omega
 rw [e];clear e hbn
 rcases q with ⟨hw,hq,hq2⟩ | ⟨hw,hq,hqd⟩
 have hq3:((r.data.length:Int) != r.many)=false:=by rw [bne,hq]; rfl
 rcases bb with bb | bb;rotate_left;rotate_left;rcases bb with bb | bb;rotate_left;rotate_left;have e:=reqF_tags Hs.out Hsh.out htg;have bb:r.tags.length=0∨4<(r.tags.length:Int):=by unfold tagsOk at htg; omega
 rw [e];clear e htg
 rcases q with ⟨hw,hq,hq2⟩ | ⟨hw,hq,hqd⟩
 have hq3:((r.data.length:Int) != r.many)=false:=by rw [bne,hq]; rfl
 rcases bb with bb | bb;rotate_left;have t0:((r.tags.length:Int) == 0)=false:=by simp; intro h; rw [h] at bb; simp at bb
 rotate_left;rcases bb with bb | bb;rotate_left;have t0:((r.tags.length:Int) == 0)=false:=by simp; intro h; rw [h] at bb; simp at bb
 rotate_left;have e:=reqF_shape Hs.out hsh;rw [e];clear e;rcases Bool.eq_false_or_eq_true (r.write) with hw | hw;have q1:((r.data.length:Int) == r.many)=false:=by unfold shapeOk at hsh; rw [hw] at hsh; simpa using hsh
 have q2:((r.data.length:Int) != r.many)=true:=by rw [bne,q1]; rfl
 clear hsh;by_cases hl:0<(r.data.length:Int);rotate_left;rotate_left;have hl:0<(r.data.length:Int):=by unfold shapeOk at hsh; rw [hw] at hsh; simp at hsh; have:=List.length_pos_iff.2 hsh; omega
 have hln:decide (0<r.data.length)=true:=decide_eq_true (by omega);clear hsh hl;rotate_left;have fs:=spanF_neg hs;rw [reqF_span hs];clear hs;rotate_left
 all_goals
  go_enter Tryz.func166,Tryz.ntmps166;go_wp2_with (first | (go_at_call 190; refine (check_any _ _ _ _ (by omega)).mono ?_; rintro e w1 ⟨rfl,hb1⟩; obtain ⟨hc1,hf1⟩:=bcell hb1; have hz1:=hb1.size; simp only [World.size_alloc] at hz1) | (go_at_call 191; refine (contains1_any S r.data _ _ (Hd.out.below (((Below.refl _ _).alloc (Nat.le_refl _) _).trans (hb1.mono (by simp))))).mono ?_; rintro e w2 ⟨rfl,rfl⟩));go_ret;exact ⟨rfl,((Below.refl _ _).alloc (Nat.le_refl _) _).trans (hb1.mono (by simp))⟩
end Go.Proofs.YtagndjihiklmiaaGreatDoor
namespace Go.Proofs.YtagndjihiklmiaaGreatDoor
open Go.RowKit Go.Sort
def meetsR (lo many:Int) (x:Rq):Bool:=meetB x.lo x.many lo many
theorem meets1_any (S:Nat→Prop) (x:Rq) (v:Value) (B:Nat) (T:TypeId) (lo many:Int) (w:World) (h:ReqAt S w v x) (hB:w.heap[B]?=some (.cells #[.int .i64 lo,.int .i64 many] T (0,0))) (hx:SpanOk x.lo x.many 4) (hr:SpanOk lo many 4) :
  Calls Tryz.prog 193 #[v,.pointer (some ⟨B,0,none⟩)] w (Ret (.bool (meetsR lo many x)) w):=by
 obtain ⟨Ad,cd,At,ct,rfl,_,_,_,_,_,_,_⟩:=h.opened;obtain ⟨a1,a2,a3,a4,a5⟩:=hx;obtain ⟨b1,b2,b3,b4,b5⟩:=hr
 have hlt:B<w.heap.size:=by
  rcases Nat.lt_or_ge B w.heap.size with h | h
  ·exact h
  ·rw [Array.getElem?_eq_none h] at hB; cases hB
 have k:∀ o,(w.alloc o).heap[B]?=some (.cells #[.int .i64 lo,.int .i64 many] T (0,0)):=fun o=>(Below.heap_alloc _ _ _ hlt).trans hB
 have c0:∀ o,(w.alloc o).cell? ⟨B,0,none⟩=some (.int .i64 lo):=fun o=>cell_of_row _ _ 0 _ _ _ (k o)
 have c1:∀ o,(w.alloc o).cell? ⟨B,1,none⟩=some (.int .i64 many):=fun o=>cell_of_row _ _ 1 _ _ _ (k o)
 clear k hB h;go_enter Tryz.func193,Tryz.ntmps193;go_wp2_with fail;refine (meet_any _ _ _ _ _ a1 (by omega) (by omega) (by omega) b1 (by omega) (by omega) (by omega)).mono ?_;rintro e w1 ⟨rfl,hb1⟩;go_wp2;go_ret;exact ⟨rfl,((Below.refl _ _).alloc (Nat.le_refl _) _).trans (hb1.mono (by simp))⟩
def RetIdxB (P:Int→Prop) (w:World):Ending→World→Prop:=fun e w'=>∃ n:Int,e=.returned (.int .i64 n)∧P n∧Below w.heap.size w w'
theorem any_take_succ {α:Type} (p:α→Bool) (l:List α) (k:Nat) (x:α) (h:l[k]?=some x):(l.take (k+1)).any p=((l.take k).any p || p x):=by
 rw [List.take_add_one,h]; simp
theorem any_yes {α:Type} (p:α→Bool) (l:List α) (k:Nat) (x:α) (h:l[k]?=some x) (hp:p x=true):l.any p=true:=by
 rw [List.any_eq_true];exact ⟨x,List.mem_of_getElem? h,hp⟩
theorem any_end {α:Type} (p:α→Bool) (l:List α) (k:Nat) (hk:l.length≤k) (h:(l.take k).any p=false):l.any p=false:=by
 rwa [List.take_of_length_le hk] at h
theorem index2_any (S:Nat→Prop) (l:List Rq) (v:Value) (B:Nat) (T:TypeId) (lo many:Int) (w:World) (h:ReqsAt S w v l) (hB:w.heap[B]?=some (.cells #[.int .i64 lo,.int .i64 many] T (0,0))) (hl:∀ x ∈ l,SpanOk x.lo x.many 4) (hr:SpanOk lo many 4) :
  Calls Tryz.prog 162 #[v,.func (.func 193) #[] #[.pointer (some ⟨B,0,none⟩)]] w (RetIdxB (fun n=>idxTells n (l.any (meetsR lo many))) w):=by
 obtain ⟨A,cap,rfl,h1,h2⟩:=h.form;unfold maxLen at h2;have Hl:=Lib.hid h;have HB:=Lib.hid hB;have Hs:=Lib.hid hl;have Hr:=Lib.hid hr
 have hlt:B<w.heap.size:=by
  rcases Nat.lt_or_ge B w.heap.size with h | h
  ·exact h
  ·rw [Array.getElem?_eq_none h] at hB; cases hB
 clear h hB hl hr;go_enter Tryz.func162,Tryz.ntmps162;go_wp2;go_loopw [8] (fun i wr=>∃ k:Nat,k≤l.length∧i=.int .i64 k∧Below w.heap.size w wr∧Hid ((l.take k).any (meetsR lo many)=false)) (fun i _=>l.length - (intOf i).toNat)
 case atStart=>exact ⟨0,by omega,rfl,Below.refl _ _,rfl⟩
 case round =>
  obtain ⟨k,hk,rfl,hw,hall⟩:=hrel;by_cases hlt:k<l.length
  ·obtain ⟨b,off,rfl,_,hb,hc⟩:=(Hl.out.below hw).at_ (by omega)
   have hx:l[k]?=some l[k]:=List.getElem?_eq_getElem hlt;obtain ⟨Ad,cd,At,ct,hok,k0,k1,k2,k3,k4,k5⟩:=hc k _ hx;have Hok:=Lib.hid hok;clear hc hok;have Hx:=Lib.hid hx;clear hx;generalize l[k]=s at *;have Hsx:=Lib.hid (Hs.out s (List.mem_of_getElem? Hx.out));go_wp2_with fail;refine (meets1_any S s _ B T lo many _ Hok.out ((hw.block _ (by assumption)).trans HB.out) Hsx.out Hr.out).mono ?_;rintro e w1 ⟨rfl,hb1⟩;have hw1:=hw.trans (hb1.mono hw.size);clear k0 k1 k2 k3 k4 k5 hb1
   cases hs:meetsR lo many s with
   |false =>
    have Hm:=Lib.hid hs;clear hs;go_wp2_with fail;go_roundw
    case rel=>exact ⟨k+1,by omega,by go_num,hw1,by show _=false; rw [any_take_succ _ _ _ _ Hx.out,hall.out,Hm.out]; rfl⟩
    case measure=>simp [intOf]; omega
   |true =>
    have Hm:=Lib.hid hs;clear hs;go_wp2_with fail;go_ret;refine ⟨k,rfl,?_,hw1⟩;rw [any_yes _ _ _ _ Hx.out Hm.out];simp [idxTells]
  ·go_wp2
   go_ret;refine ⟨-1,rfl,?_,hw⟩;rw [any_end _ _ _ (by omega) hall.out];simp [idxTells]
theorem contains2_any (S:Nat→Prop) (l:List Rq) (v:Value) (B:Nat) (T:TypeId) (lo many:Int) (w:World) (h:ReqsAt S w v l) (hB:w.heap[B]?=some (.cells #[.int .i64 lo,.int .i64 many] T (0,0))) (hl:∀ x ∈ l,SpanOk x.lo x.many 4) (hr:SpanOk lo many 4) :
  Calls Tryz.prog 122 #[v,.func (.func 193) #[] #[.pointer (some ⟨B,0,none⟩)]] w (Ret (.bool (l.any (meetsR lo many))) w):=by
 go_enter Tryz.func122,Tryz.ntmps122;go_wp2_with fail;refine (index2_any S l _ B T lo many _ h hB hl hr).mono ?_;rintro e w1 ⟨n,rfl,hn,hb1⟩;go_wp2_with fail;go_ret;refine ⟨?_,hb1⟩
 cases hb:(l.any (meetsR lo many)) with
 |true=>rw [hb] at hn; have:=hn.2 rfl; simp [this]
 |false=>rw [hb] at hn; have:¬ 0≤n:=fun h=>by cases hn.1 h
         simp; omega
theorem meets_any (S:Nat→Prop) (l:List Rq) (v:Value) (lo many:Int) (w:World) (h:ReqsAt S w v l) (hl:∀ x ∈ l,SpanOk x.lo x.many 4) (hr:SpanOk lo many 4) :
  Calls Tryz.prog 167 #[v,spanV lo many] w (Ret (.bool (l.any (meetsR lo many))) w):=by
 obtain ⟨A,cap,rfl,h1,h2⟩:=h.form;have H:=Lib.hid h;have Hl:=Lib.hid hl;have Hr:=Lib.hid hr;clear h hl hr;go_enter Tryz.func167,Tryz.ntmps167;go_wp2_with fail;have hb0:=(Below.refl w.heap.size w).alloc (Nat.le_refl _) (Obj.cells #[Value.int IntKind.i64 lo,Value.int IntKind.i64 many] 115);refine (contains2_any S l _ _ 115 lo many _ (H.out.below hb0) (heap_alloc_new w _) Hl.out Hr.out).mono ?_;rintro e w1 ⟨rfl,hb1⟩;have hb2:=hb0.trans (hb1.mono hb0.size);go_wp2;go_ret;exact ⟨rfl,hb2⟩
end Go.Proofs.YtagndjihiklmiaaGreatDoor
