/- slices.Delete of one request, out of a row of the call's own. -/
import Derived.Test.YtagndjihiklmiaaGreatDoorQ1
import Derived.Deep.RegionLaw
import Derived.Deep.RegionHeld3
import Derived.Lib.AppendZerosOnto
import Derived.Lib.AppendZeros
set_option linter.unusedSimpArgs false
set_option linter.unusedVariables false
set_option maxRecDepth 100000
set_option maxHeartbeats 8000000
namespace Go.Proofs.YtagndjihiklmiaaGreatDoor
open Go.RowKit
theorem one_zeros {z:Array Value} (hz:∀ u ∈ z.toList,u.oneCell'=true) (n:Nat):∀ u ∈ (Builtin.zeroCells z n).toList,u.oneCell'=true:=by
 intro u hu;unfold Builtin.zeroCells at hu;rw [Array.toList_map,List.mem_map] at hu;obtain ⟨i,hi,rfl⟩:=hu;simp at hi;have hp:0<z.size:=Nat.pos_of_ne_zero fun h=>by rw [h] at hi; simp at hi
 have hm:=Nat.mod_lt i hp;rw [getElem!_pos z _ hm];exact hz _ (by simp)
abbrev zeroRq:Value:=.agg #[.bool false,.int .i64 0,.int .i64 0,.slice none 0 0,.slice none 0 0,.int .i64 0]
theorem zero_req:∀ w,(zeroValue 117).run Tryz.prog w=.ok zeroRq w:=fun _=>by kernel_rfl
theorem delete_any (base g n cap i:Nat) (xs:List Value) (w:World) (hown:w.ownsRow base 117 6 (.slice (some ⟨g,0,none⟩) n cap) n xs) (h1:∀ u ∈ xs,u.oneCell'=true) (hi:i<n) (hn:n≤65536) :
  Calls Tryz.prog 129 #[.slice (some ⟨g,0,none⟩) n cap,.int .i64 i,.int .i64 ((i:Int)+1)] w fun E w' =>
   ∃ v,E=.returned v∧w'.ownsRow base 117 6 v (n - 1) (xs.take (i * 6) ++ xs.drop ((i+1) * 6))∧w.grownBy w' (some g):=by
 obtain ⟨i0,hi0,hz0,hz1,hz2⟩:=info_parts reqInfo
 have hcap:n≤cap∧cap≤maxLen:=by
  rcases hown.2 with ⟨hv,_⟩ | ⟨_,_,_,hv,_,_,h3,h4,_⟩
  ·cases hv
  ·cases hv; exact ⟨h3,h4⟩
 obtain ⟨hc1,hc2⟩:=hcap;unfold maxLen at hc2;have hin:(i:Int)<(n:Int):=by omega
 have hne:((i:Int) == (i:Int)+1)=false:=by simp; omega
 have hlen:=hown.1;have hrd:=Rd.of_own (S:=fun _=>True) w (fun _ _=>trivial) hown
 obtain ⟨X,hX,hR⟩:∃ X:Option Addr,(if cap=i+1 then some (⟨g,0,none⟩:Addr) else some ⟨g,(i+1) * 6,none⟩)=X∧Hid (Rd (fun _=>True) w.drew 6 (.slice X (n - (i+1)) (cap - (i+1))) (n - (i+1)) (xs.drop ((i+1) * 6))):=by
  refine ⟨_,rfl,?_⟩;show Rd _ _ _ _ _ _;refine ⟨_,_,rfl,by omega,by simp only [maxLen]; omega,by rw [List.length_drop,hlen]; omega,fun hpos=>?_⟩;rw [if_neg (by omega)];obtain ⟨b,off,e,_,_,hcell⟩:=hrd.at_ (by omega) (by omega)
  cases e
  refine ⟨g,(i+1) * 6,rfl,trivial,fun j u hu=>?_⟩;rw [List.getElem?_drop] at hu;have:=hcell _ _ hu
  simpa using this
 have hT:=Lib.hid (own_take w (k:=i) (by omega) (by omega) hown);have hic:i≤cap:=by omega
 have hbase:base≤w.heap.size:=by have:=hown.lt g rfl; omega
 have hgl:g<w.heap.size:=(hown.lt g rfl).2;have hbg:base≤g:=(hown.lt g rfl).1;clear hrd hown;have hp0:(0:Int)≤(i:Int)+1:=by omega
 have hp1:(i:Int)+1≤(n:Int):=by omega
 have hp2:((i:Int)+1).toNat=i+1:=by omega
 go_enter Tryz.func129,Tryz.ntmps129;go_wp2_with fail;go_region_law (refine step_append_rd_fits (S:=fun _=>True) _ rfl (.tmp 22) (.tmp 25) _ rfl base 117 i0 6 Tryz.underlying50 hi0 hz1 g i cap (xs.take (i * 6)) rfl hT.out (.slice X (n - (i+1)) (cap - (i+1))) (n - (i+1)) (xs.drop ((i+1) * 6)) rfl hR.out (fun u hu=>h1 u (List.mem_of_mem_drop hu)) (by omega) ?_; intro w1 hown1 hg1)
 have hm:i+(n - (i+1))=n - 1:=by omega
 obtain ⟨cur,hcell,hsz,htk⟩:∃ cur,w1.heap[g]?=some (.cells cur 117 (0,0))∧cur.size=cap * 6∧cur.toList.take ((i+(n - (i+1))) * 6)=xs.take (i * 6) ++ xs.drop ((i+1) * 6):=by
  rcases hown1.2 with ⟨hv,_⟩ | ⟨_,_,cur,hv,_,h2,_,_,h5,h6⟩
  ·cases hv
  ·cases hv; exact ⟨cur,h2,h5,h6⟩
 obtain ⟨cur',hrun,hsz',htk'⟩:=run_clear_row (P:=Tryz.prog) w1 50 117 0 zeroRq 6 Tryz.underlying50 zero_req rfl
  (fun n u hu=>one_zeros (by decide) n u hu) g ((i+(n - (i+1))) * 6) (n - (i+(n - (i+1)))) (cap - (i+(n - (i+1)))) _ cur hcell (by rw [hsz]; omega)
 have Hown:=Lib.hid hown1;have Hcell:=Lib.hid hcell;have Hs:=Lib.hid hsz;have Hs':=Lib.hid hsz';have Ht:=Lib.hid htk;have Ht':=Lib.hid htk';have Hm:=Lib.hid hm;clear hown1 hcell hsz hsz' htk htk' hm hlen hX hR hT;go_wp2_with fail;go_ret;refine ⟨_,rfl,?_,?_⟩
 ·have ht:=Ht'.out.trans Ht.out
  have ht2:=Ht.out;rw [Hm.out] at ht ht2 ⊢;refine ⟨by rw [← ht2,List.length_take,Array.length_toList,Hs.out]; omega,.inr ⟨g,cap,cur',rfl,hbg,setRow_heap _ _ _ _ _ _ Hcell.out,by omega,by simp only [maxLen]; omega,by rw [Hs'.out,Hs.out],ht⟩⟩
 ·exact ⟨hg1.os,hg1.tape,hg1.output,by simpa using hg1.size,fun k hk hkg=>by rw [setRow_other _ _ _ _ (fun h=>hkg (by rw [h]))]; exact hg1.block k (by simpa using hk) hkg⟩
end Go.Proofs.YtagndjihiklmiaaGreatDoor
namespace Go.Proofs.YtagndjihiklmiaaGreatDoor
open Go.RowKit
section
variable {S S':Nat→Prop} {w w':World} {v:Value}
theorem Rd.lt {size n:Nat} {xs:List Value} (h:Rd S w size v n xs) (hs:0<size):Rd (fun b=>S b∧b<w.heap.size) w size v n xs:=by
 obtain ⟨A,cap,e,h1,h2,h3,h4⟩:=h;refine ⟨A,cap,e,h1,h2,h3,fun hn=>?_⟩;obtain ⟨b,off,e1,hS,hc⟩:=h4 hn;have hl:0<xs.length:=by rw [h3]; exact Nat.mul_pos hn hs
 exact ⟨b,off,e1,⟨hS,block_lt_of_cell (hc 0 _ (List.getElem?_eq_getElem hl))⟩,hc⟩
theorem StrsAt.lt {l:List ByteArray} (h:StrsAt S w v l):StrsAt (fun b=>S b∧b<w.heap.size) w v l:=⟨h.1.lt (by omega),h.2⟩
theorem StrsAt.more {l:List ByteArray} (h:StrsAt S w v l) (hS:∀ b,S b→S' b):StrsAt S' w v l:=⟨h.1.more hS,h.2⟩
theorem IntsAt.lt {l:List Int} (h:IntsAt S w v l):IntsAt (fun b=>S b∧b<w.heap.size) w v l:=⟨h.1.lt (by omega),h.2⟩
theorem IntsAt.more {l:List Int} (h:IntsAt S w v l) (hS:∀ b,S b→S' b):IntsAt S' w v l:=⟨h.1.more hS,h.2⟩
theorem RcOk.lt {c:Rc} (h:RcOk S w c):RcOk (fun b=>S b∧b<w.heap.size) w c:=⟨h.data.lt,h.tags.lt,h.lo,h.many,h.born⟩
theorem RcOk.more {c:Rc} (h:RcOk S w c) (hS:∀ b,S b→S' b):RcOk S' w c:=⟨h.data.more hS,h.tags.more hS,h.lo,h.many,h.born⟩
theorem ReqAt.lt {r:Rq} (h:ReqAt S w v r):ReqAt (fun b=>S b∧b<w.heap.size) w v r:=by
 obtain ⟨c,h1,h2,h3⟩:=h; exact ⟨c,h1,h2,h3.lt⟩
theorem ReqAt.more {r:Rq} (h:ReqAt S w v r) (hS:∀ b,S b→S' b):ReqAt S' w v r:=by
 obtain ⟨c,h1,h2,h3⟩:=h; exact ⟨c,h1,h2,h3.more hS⟩
theorem ReqsAt.lt {l:List Rq} (h:ReqsAt S w v l):ReqsAt (fun b=>S b∧b<w.heap.size) w v l:=by
 obtain ⟨cs,h1,h2,h3⟩:=h; exact ⟨cs,h1,h2.lt (by omega),fun c hc=>(h3 c hc).lt⟩
theorem ReqsAt.more {l:List Rq} (h:ReqsAt S w v l) (hS:∀ b,S b→S' b):ReqsAt S' w v l:=by
 obtain ⟨cs,h1,h2,h3⟩:=h; exact ⟨cs,h1,h2.more hS,fun c hc=>(h3 c hc).more hS⟩
end
end Go.Proofs.YtagndjihiklmiaaGreatDoor
namespace Go.Proofs.YtagndjihiklmiaaGreatDoor
open Go.RowKit
theorem own_keep {w w':World} {base:Nat} {e:TypeId} {size n:Nat} {g cap k:Nat} {xs:List Value} (h:w.ownsRow base e size (.slice (some ⟨g,k,none⟩) n cap) n xs) (hk:w'.heap[g]?=w.heap[g]?) :
  w'.ownsRow base e size (.slice (some ⟨g,k,none⟩) n cap) n xs:=by
 obtain ⟨h1,h2⟩:=h;refine ⟨h1,?_⟩
 rcases h2 with h2 | ⟨g',cap',cur,hv,hb,hh,h3⟩
 ·exact .inl h2
 ·cases hv
  exact .inr ⟨g,cap,cur,rfl,hb,hk.trans hh,h3⟩
theorem flat_take (cs:List Rc):∀ i,(cs.flatMap Rc.cells).take (i * 6)=(cs.take i).flatMap Rc.cells:=by
 induction cs with
 |nil=>simp
 |cons c cs ih =>
  intro i
  cases i with
  |zero=>simp
  |succ i =>
   rw [List.flatMap_cons,List.take_succ_cons,List.flatMap_cons,← ih,List.take_append];have:(i+1) * 6 - c.cells.length=i * 6:=by simp [Rc.cells]; omega
   rw [this,List.take_of_length_le (by simp [Rc.cells]; omega)]
theorem flat_drop (cs:List Rc):∀ i,(cs.flatMap Rc.cells).drop (i * 6)=(cs.drop i).flatMap Rc.cells:=by
 induction cs with
 |nil=>simp
 |cons c cs ih =>
  intro i
  cases i with
  |zero=>simp
  |succ i =>
   rw [List.flatMap_cons,List.drop_succ_cons,← ih,List.drop_append];have:(i+1) * 6 - c.cells.length=i * 6:=by simp [Rc.cells]; omega
   rw [this,List.drop_eq_nil_of_le (by simp [Rc.cells]; omega)]; rfl
theorem cells_one {S:Nat→Prop} {w:World} {cs:List Rc} (h:∀ c ∈ cs,RcOk S w c):∀ u ∈ cs.flatMap Rc.cells,u.oneCell'=true:=by
 intro u hu;obtain ⟨c,hc,hu⟩:=List.mem_flatMap.1 hu;have hok:=h c hc;obtain ⟨_,_,e1,_,_⟩:=hok.data.form;obtain ⟨_,_,e2,_,_⟩:=hok.tags.form;simp only [Rc.cells,e1,e2,List.mem_cons,List.not_mem_nil,or_false] at hu;rcases hu with rfl | rfl | rfl | rfl | rfl | rfl <;> rfl
theorem reqs_of_own {S:Nat→Prop} {w:World} {base:Nat} {e:TypeId} {v:Value} {cs:List Rc} (hS:∀ b,base≤b→S b) (h:w.ownsRow base e 6 v cs.length (cs.flatMap Rc.cells)) (hc:∀ c ∈ cs,RcOk S w c):ReqsAt S w v (cs.map (·.r)) :=
 ⟨cs,rfl,Rd.of_own w hS h,hc⟩
theorem keep6 {W w1:World} {b o:Nat} {v0 v1 v2 v3 v4 v5:Value} {B:Nat} (hb:Below B W w1) (hlt:b<B) (h:W.cell? ⟨b,o,none⟩=some v0∧W.cell? ⟨b,o+1,none⟩=some v1∧W.cell? ⟨b,o+2,none⟩=some v2∧W.cell? ⟨b,o+3,none⟩=some v3 ∧
  W.cell? ⟨b,o+4,none⟩=some v4∧W.cell? ⟨b,o+5,none⟩=some v5):w1.cell? ⟨b,o,none⟩=some v0∧w1.cell? ⟨b,o+1,none⟩=some v1∧w1.cell? ⟨b,o+2,none⟩=some v2∧w1.cell? ⟨b,o+3,none⟩=some v3 ∧
  w1.cell? ⟨b,o+4,none⟩=some v4∧w1.cell? ⟨b,o+5,none⟩=some v5:=by
 obtain ⟨h0,h1,h2,h3,h4,h5⟩:=h;exact ⟨(hb.cell (p:=⟨b,_,none⟩) hlt).trans h0,(hb.cell (p:=⟨b,_,none⟩) hlt).trans h1,(hb.cell (p:=⟨b,_,none⟩) hlt).trans h2,(hb.cell (p:=⟨b,_,none⟩) hlt).trans h3,(hb.cell (p:=⟨b,_,none⟩) hlt).trans h4,(hb.cell (p:=⟨b,_,none⟩) hlt).trans h5⟩
theorem box6 {W:World} {B:Nat} {T:TypeId} {v0 v1 v2 v3 v4 v5:Value} (h:W.heap[B]?=some (.cells #[v0,v1,v2,v3,v4,v5] T (0,0))) :
  (W.cell? ⟨B,0,none⟩=some v0∧W.frozen? ⟨B,0,none⟩=false)∧(W.cell? ⟨B,1,none⟩=some v1∧W.frozen? ⟨B,1,none⟩=false)∧(W.cell? ⟨B,2,none⟩=some v2∧W.frozen? ⟨B,2,none⟩=false) ∧
  (W.cell? ⟨B,3,none⟩=some v3∧W.frozen? ⟨B,3,none⟩=false)∧(W.cell? ⟨B,4,none⟩=some v4∧W.frozen? ⟨B,4,none⟩=false)∧(W.cell? ⟨B,5,none⟩=some v5∧W.frozen? ⟨B,5,none⟩=false) :=
 ⟨⟨cell_of_row _ _ 0 _ _ _ h,frozen_of_row _ _ 0 _ _ h⟩,⟨cell_of_row _ _ 1 _ _ _ h,frozen_of_row _ _ 1 _ _ h⟩,⟨cell_of_row _ _ 2 _ _ _ h,frozen_of_row _ _ 2 _ _ h⟩,⟨cell_of_row _ _ 3 _ _ _ h,frozen_of_row _ _ 3 _ _ h⟩,
  ⟨cell_of_row _ _ 4 _ _ _ h,frozen_of_row _ _ 4 _ _ h⟩,⟨cell_of_row _ _ 5 _ _ _ h,frozen_of_row _ _ 5 _ _ h⟩⟩
theorem own_keep' {w w':World} {base:Nat} {e:TypeId} {size n:Nat} {v:Value} {xs:List Value} (h:w.ownsRow base e size v n xs) (hk:∀ g,base≤g→w'.heap[g]?=w.heap[g]?):w'.ownsRow base e size v n xs:=by
 obtain ⟨h1,h2⟩:=h;refine ⟨h1,?_⟩
 rcases h2 with h2 | ⟨g',cap',cur,hv,hb,hh,h3⟩
 ·exact .inl h2
 ·exact .inr ⟨g',cap',cur,hv,hb,(hk _ hb).trans hh,h3⟩
theorem own_base {w:World} {base base':Nat} {e:TypeId} {size n:Nat} {v:Value} {xs:List Value} (h:w.ownsRow base e size v n xs) (hb:base'≤base):w.ownsRow base' e size v n xs:=by
 obtain ⟨h1,h2⟩:=h;refine ⟨h1,?_⟩
 rcases h2 with h2 | ⟨g',cap',cur,hv,hbb,hh,h3⟩
 ·exact .inl h2
 ·exact .inr ⟨g',cap',cur,hv,by omega,hh,h3⟩
def ReqsOwn (S:Nat→Prop) (base:Nat) (w:World) (v:Value) (l:List Rq):Prop:=∃ cs:List Rc,cs.map (·.r)=l∧w.ownsRow base 117 6 v cs.length (cs.flatMap Rc.cells)∧∀ c ∈ cs,RcOk (fun b=>S b∧b<base) w c
theorem ReqsOwn.at_ {S:Nat→Prop} {base:Nat} {w:World} {v:Value} {l:List Rq} (h:ReqsOwn S base w v l) (hS:∀ b,base≤b→S b):ReqsAt S w v l:=by
 obtain ⟨cs,rfl,h1,h2⟩:=h;exact reqs_of_own hS h1 (fun c hc=>(h2 c hc).more (fun b hb=>hb.1))
def RetTake (S:Nat→Prop) (l:List Rq) (r:Rq) (w:World):Ending→World→Prop:=fun E w'=>∃ v' rv,E=.returned (.tuple #[v',rv])∧ReqsOwn S w.heap.size w' v' l∧ReqAt (fun b=>S b∧b<w.heap.size) w' rv r∧Below w.heap.size w w'
theorem take_any (S:Nat→Prop) (l:List Rq) (v:Value) (i:Nat) (r:Rq) (w:World) (h:ReqsAt S w v l) (hS:∀ b,w.heap.size≤b→S b) (hi:l[i]?=some r) (hn:l.length≤65536) :
  Calls Tryz.prog 87 #[v,.int .i64 i] w (RetTake S (l.eraseIdx i) r w):=by
 have H:=Lib.hid h;have hS':=Lib.hid hS
 have hlt:i<l.length:=by
  rcases Nat.lt_or_ge i l.length with h | h
  ·exact h
  ·rw [List.getElem?_eq_none h] at hi; cases hi
 obtain ⟨cs,hcs,hrd,hok⟩:=h;have hlen:cs.length=l.length:=by rw [← hcs,List.length_map]
 have h1:=Lib.hid (cells_one hok);have Hrd:=Lib.hid hrd;have Hok:=Lib.hid hok;obtain ⟨A,cap,rfl,_,hcap⟩:=H.out.form;obtain ⟨b,off,rfl,_,hbl,hc⟩:=H.out.at_ (by omega);obtain ⟨Ad,cd,At,ct,hreq,k0,k1,k2,k3,k4,k5⟩:=hc i r hi;have Hc:=Lib.hid hreq;have Hcs:=Lib.hid hcs;have Hi:=Lib.hid hi;unfold maxLen at hcap;clear hc hok hrd hcs hreq hi hS;have Hlen:=Lib.hid hlen;have hii:(i:Int)<(l.length:Int):=by omega
 have hw1:IntKind.i64.wrap ((i:Int)+1)=(i:Int)+1:=IntWalk.i64_in _ (by omega);go_enter Tryz.func87,Tryz.ntmps87;go_wp2_with fail;clear hlen;have hT:=(Below.refl w.heap.size w).alloc (Nat.le_refl _) (Obj.cells #[Value.bool false,Value.int IntKind.i64 0,Value.int IntKind.i64 0,Value.slice none 0 0,Value.slice none 0 0,Value.int IntKind.i64 0] 117);have hbox:=heap_alloc_new w (Obj.cells #[Value.bool false,Value.int IntKind.i64 0,Value.int IntKind.i64 0,Value.slice none 0 0,Value.slice none 0 0,Value.int IntKind.i64 0] 117);have hsz:(w.alloc (Obj.cells #[Value.bool false,Value.int IntKind.i64 0,Value.int IntKind.i64 0,Value.slice none 0 0,Value.slice none 0 0,Value.int IntKind.i64 0] 117)).heap.size=w.heap.size+1:=by simp
 generalize w.alloc (Obj.cells #[Value.bool false,Value.int IntKind.i64 0,Value.int IntKind.i64 0,Value.slice none 0 0,Value.slice none 0 0,Value.int IntKind.i64 0] 117)=W at hT hbox hsz ⊢;have Hbox:=Lib.hid hbox;have Hsz:=Lib.hid hsz;have hlW:b<W.heap.size:=by omega
 have hTd:=hT.drew;have hTW:=hT.size;have hK:=keep6 hT hbl ⟨k0,k1,k2,k3,k4,k5⟩;have HK:=Lib.hid hK;have HK0:=Lib.hid (And.intro k0 (And.intro k1 (And.intro k2 (And.intro k3 (And.intro k4 k5)))));obtain ⟨q0,q1,q2,q3,q4,q5⟩:=hK;clear k0 k1 k2 k3 k4 k5 hbox hsz
 go_region_held3 (fun w'=>w'.cell? ⟨b,off+i * 6,none⟩=some (.bool r.write)∧w'.cell? ⟨b,off+i * 6+1,none⟩=some (.int .i64 r.lo)∧w'.cell? ⟨b,off+i * 6+2,none⟩=some (.int .i64 r.many) ∧
   w'.cell? ⟨b,off+i * 6+3,none⟩=some (.slice Ad r.data.length cd)∧w'.cell? ⟨b,off+i * 6+4,none⟩=some (.slice At r.tags.length ct)∧w'.cell? ⟨b,off+i * 6+5,none⟩=some (.int .i64 r.born))
  (((with_reducible refine keep6 (W:=w) ?hb hbl HK0.out); case hb=>repeat (first | (with_reducible exact hT2) | (with_reducible exact hT1) | (with_reducible exact hT) | ((with_reducible refine Below.setCell ?_ ?hp _); case hp=>simp) | (with_reducible refine Below.drew ?_))))
  (first
   |(go_at_call 99; refine (clone_any S _ l.length (cs.flatMap Rc.cells) W.drew (Hlen.out▸Hrd.out.below hTd) h1.out hn).mono ?_; rintro e w1 ⟨v1,rfl,hown1,hb1'⟩; have hb1:Below W.heap.size W.drew w1:=hb1'; have hT1:=hTd.trans (hb1.mono hTW); obtain ⟨g,cap1,rfl,hg1,hg2,_,_⟩:=own_form hown1 (by omega))
   |(go_at_call 129; refine (delete_any W.heap.size g l.length cap1 i (cs.flatMap Rc.cells) w1 hown1 h1.out hlt hn).mono ?_; rintro e w2 ⟨v2,rfl,hown2,hgr2⟩; have hb2:=hb1.grown hgr2 hb1.size (fun k hk=>by cases hk; exact hg1); have hT2:=hTd.trans (hb2.mono hTW); obtain ⟨⟨c0,f0⟩,⟨c1,f1⟩,⟨c2,f2⟩,⟨c3,f3⟩,⟨c4,f4⟩,⟨c5,f5⟩⟩:=box6 ((hb2.block _ (by have:=Hsz.out; omega)).trans Hbox.out)))
 go_wp2_with fail
 have hF:Below w.heap.size w ((((((w2.setCell ⟨w.heap.size,0,none⟩ (.bool r.write)).setCell ⟨w.heap.size,1,none⟩ (.int .i64 r.lo)).setCell ⟨w.heap.size,2,none⟩ (.int .i64 r.many)).setCell ⟨w.heap.size,3,none⟩ (.slice Ad r.data.length cd)).setCell
   ⟨w.heap.size,4,none⟩ (.slice At r.tags.length ct)).setCell ⟨w.heap.size,5,none⟩ (.int .i64 r.born)):=by
  repeat (first | (with_reducible exact hT2) | ((with_reducible refine Below.setCell ?_ ?hp _); case hp=>simp))
 have hG:∀ k,W.heap.size≤k→((((((w2.setCell ⟨w.heap.size,0,none⟩ (.bool r.write)).setCell ⟨w.heap.size,1,none⟩ (.int .i64 r.lo)).setCell ⟨w.heap.size,2,none⟩ (.int .i64 r.many)).setCell ⟨w.heap.size,3,none⟩ (.slice Ad r.data.length cd)).setCell
   ⟨w.heap.size,4,none⟩ (.slice At r.tags.length ct)).setCell ⟨w.heap.size,5,none⟩ (.int .i64 r.born)).heap[k]?=w2.heap[k]?:=by
  intro k hk;have hz:=Hsz.out;repeat ((with_reducible rw [heap_setCell_other _ _ _ _ ?hp]); case hp=>(show k≠w.heap.size; omega))
 clear hT2 hT1 hb2 hb1 hb1' hgr2 hown1 hTd hT HK HK0;refine bodyPost_ret (v:=.tuple #[v2,rqV r (.slice Ad r.data.length cd) (.slice At r.tags.length ct)]) (by simp [results,Tryz.results87,go_sem,c0,c1,c2,c3,c4,c5,f0,f1,f2,f3,f4,f5]) rfl ⟨v2,_,rfl,?_,Hc.out.lt.below hF,hF⟩
 have e:l.eraseIdx i=(cs.take i ++ cs.drop (i+1)).map (·.r):=by
  rw [← Hcs.out,List.eraseIdx_eq_take_drop_succ]; simp
 refine ⟨_,e.symm,own_base (base:=W.heap.size) (own_keep' ?_ hG) (by omega),fun c hc=>?_⟩
 ·have e2:(cs.take i ++ cs.drop (i+1)).length=l.length - 1:=by have:=Hlen.out; simp; omega
  rw [e2,List.flatMap_append,← flat_take,← flat_drop];exact hown2
 ·have hc':c ∈ cs:=by
   rcases List.mem_append.1 hc with h | h
   ·exact List.mem_of_mem_take h
   ·exact List.mem_of_mem_drop h
  exact (Hok.out c hc').lt.below hF
end Go.Proofs.YtagndjihiklmiaaGreatDoor
namespace Go.Proofs.YtagndjihiklmiaaGreatDoor
open Go.RowKit
theorem stringInfo:(Tryz.prog.info? 9).map (fun i=>(i.zero,i.size,i.bytes))=some (some (.string ByteArray.empty),1,16):=by kernel_rfl
theorem grow_string (n:Nat) (w:World) (hn:n≤65536):Calls Tryz.prog 211 #[.slice none 0 0,.int .i64 n] w (RetOwn 9 1 0 [] w):=by
 obtain ⟨i0,hi0,hz0,hz1,hz2⟩:=info_parts stringInfo;by_cases h0:n=0
 ·subst h0
  go_enter Tryz.func211,Tryz.ntmps211;go_wp2;go_ret;exact ⟨_,rfl,World.ownsRow_nil _ _ _ _,Below.refl _ _⟩
 ·have hgr:∀ ty,(Builtin.append_ #[22,3] ty #[.slice none 0 0,.int .i64 n]).run Tryz.prog w=.ok (.slice (some ⟨w.heap.size,0,none⟩) n (grownCap w n 0 9))
    (w.drew.alloc (.cells (#[] ++ Builtin.zeroCells (Value.cells (.string ByteArray.empty)) n ++ Builtin.zeroCells (Value.cells (.string ByteArray.empty)) (grownCap w n 0 9 - n)) 9)):=fun ty=>by
   have h:=Lib.run_append_grow_zeros w 22 3 ty 9 i0 _ .i64 .i64 Tryz.underlying22 Tryz.underlying3 hi0 hz0 none 0 0 [] (by rw [hz1]; exact run_firstCells_none w.drew 1 0 0 0) n (by omega) (by omega) (by omega) (by omega) (by rw [hz2]; omega)
    (by rw [hz2]; exact growslice_fits (by omega) (by omega))
   simpa using h
  have hG:=grownCap_ge w n 0 9
  have hG63:grownCap w n 0 9≤9223372036854775807:=by
   have:=grownCap_le_maxLen w n 0 9 (by unfold maxLen; omega);unfold maxLen at this; omega
  generalize grownCap w n 0 9=G at hgr hG hG63
  obtain ⟨C,hC,hCs⟩:∃ C:Array Value,(#[] ++ Builtin.zeroCells (Value.cells (.string ByteArray.empty)) n ++ Builtin.zeroCells (Value.cells (.string ByteArray.empty)) (G - n))=C∧C.size=G:=⟨_,rfl,by simp [size_zeroCells,Value.cells]; omega⟩
  rw [hC] at hgr;have hn0:decide (0<n)=true:=by simp; omega
  have hw1:¬ ((n:Int)<0):=by omega
  have HC:=Lib.hid hCs;clear hC hCs;go_enter Tryz.func211,Tryz.ntmps211;go_wp2_with (at_builtin; refine Lib.wpList_append_run _ rfl _ _ _ _ rfl _ _ rfl rfl _ _ (hgr _) ?_);go_ret;exact ⟨_,rfl,⟨rfl,.inr ⟨w.heap.size,G,C,rfl,Nat.le_refl _,heap_alloc_new w (.cells C 9),by omega,by unfold maxLen; omega,by rw [HC.out]; omega,by simp⟩⟩,((Below.refl _ _).alloc (Nat.le_refl _) _).drew⟩
theorem concat_string (S:Nat→Prop) (g n m:Nat) (va vb:Value) (xs ys:List Value) (T:TypeId) (w:World) (hg:w.heap[g]?=some (.cells #[va,vb] T (0,0))) (ha:Rd S w 1 va n xs) (hb:Rd S w 1 vb m ys)
  (h1:∀ u ∈ xs,u.oneCell'=true) (h2:∀ u ∈ ys,u.oneCell'=true) (hn:n≤30000) (hm:m≤30000) :
  Calls Tryz.prog 196 #[.slice (some ⟨g,0,none⟩) 2 2] w (RetOwn 9 1 (n+m) (xs ++ ys) w):=by
 obtain ⟨i0,hi0,hz0,hz1,hz2⟩:=info_parts stringInfo;have Ha:=Lib.hid ha;have Hb:=Lib.hid hb;obtain ⟨Aa,ca,rfl,_,ha2⟩:=ha.form;obtain ⟨Ab,cb,rfl,_,hb2⟩:=hb.form;unfold maxLen at ha2 hb2
 have hgl:g<w.heap.size:=by
  rcases Nat.lt_or_ge g w.heap.size with h | h
  ·exact h
  ·rw [Array.getElem?_eq_none h] at hg; cases hg
 have Hg:=Lib.hid hg;have H1:=Lib.hid h1;have H2:=Lib.hid h2;have c0:w.cell? ⟨g,0,none⟩=some (.slice Aa n ca):=cell_of_row _ _ 0 _ _ _ hg;have c1:w.cell? ⟨g,1,none⟩=some (.slice Ab m cb):=cell_of_row _ _ 1 _ _ _ hg;clear ha hb hg h1 h2;go_enter Tryz.func196,Tryz.ntmps196;go_wp2_with fail;go_loop [3,5,11] (fun s _ i=>(i=.int .i64 0∧s=.int .i64 0)∨(i=.int .i64 1∧s=.int .i64 n)∨(i=.int .i64 2∧s=.int .i64 ((n:Int)+(m:Int)))) (fun _ _ i=>(2 - intOf i).toNat)
 case atStart=>exact .inl ⟨rfl,rfl⟩
 case round =>
  rcases hrel with ⟨rfl,rfl⟩ | ⟨rfl,rfl⟩ | ⟨rfl,rfl⟩
  ·go_wp2
   go_round
   case rel=>exact .inr (.inl ⟨rfl,rfl⟩)
   case measure=>simp [intOf]
  ·go_wp2
   go_round
   case rel=>exact .inr (.inr ⟨rfl,rfl⟩)
   case measure=>simp [intOf]
  ·go_wp2_with fail
   have hnm:((n:Int)+(m:Int))=((n+m:Nat):Int):=by omega
   rw [hnm];clear hnm;refine (grow_string (n+m) _ (by omega)).mono ?_;rintro e w1 ⟨v1,rfl,hown1,hb1⟩;have Ho1:=Lib.hid hown1;have c0':w1.cell? ⟨g,0,none⟩=some (.slice Aa n ca):=(hb1.cell (p:=⟨g,0,none⟩) hgl).trans c0;have c1':w1.cell? ⟨g,1,none⟩=some (.slice Ab m cb):=(hb1.cell (p:=⟨g,1,none⟩) hgl).trans c1;have Hb1:=Lib.hid hb1;clear hown1 c0 c1 hb1;go_wp2_with fail
   obtain ⟨wo,rfl⟩:∃ wo:World,wo=w1:=⟨_,rfl⟩
   go_loopw [6,8,27] (fun v _ i wr=>Hid (Below w.heap.size w wr)∧((i=.int .i64 0∧Hid (wr.ownsRow w.heap.size 9 1 v 0 []))∨(i=.int .i64 1∧Hid (wr.ownsRow w.heap.size 9 1 v (0+n) ([] ++ xs)))∨(i=.int .i64 2∧Hid (wr.ownsRow w.heap.size 9 1 v (0+n+m) ([] ++ xs ++ ys))))) (fun _ _ i _=>(2 - intOf i).toNat)
   case atStart=>exact ⟨Hb1,.inl ⟨rfl,Ho1⟩⟩
   case round =>
    obtain ⟨HB,hrel⟩:=hrel;have d0:wr.cell? ⟨g,0,none⟩=some (.slice Aa n ca):=(HB.out.cell (p:=⟨g,0,none⟩) hgl).trans (cell_of_row _ _ 0 _ _ _ Hg.out);have d1:wr.cell? ⟨g,1,none⟩=some (.slice Ab m cb):=(HB.out.cell (p:=⟨g,1,none⟩) hgl).trans (cell_of_row _ _ 1 _ _ _ Hg.out);clear c0' c1'
    rcases hrel with ⟨rfl,HO⟩ | ⟨rfl,HO⟩ | ⟨rfl,HO⟩
    ·go_wp2_with (at_builtin; refine wpList_append_rd (S:=S) _ rfl (.tmp 31) (.tmp 32) _ rfl w.heap.size 9 i0 _ 1 16 Tryz.underlying22 hi0 hz0 hz1 hz2 rfl (by omega) _ 0 [] rfl HO.out (.slice Aa n ca) n xs rfl (Ha.out.below HB.out) H1.out (by simp only [maxLen]; omega) (by omega) HB.out.size ?_; intro v2 w2 hown2 hg2 hat2)
     have HB2:=Lib.hid (HB.out.grown hg2 HB.out.size (fun k hk=>(HO.out.lt k hk).1));have HO2:=Lib.hid hown2;clear hown2 hg2 hat2;go_roundw
     case rel=>exact ⟨HB2,.inr (.inl ⟨rfl,HO2⟩)⟩
     case measure=>simp [intOf]
    ·go_wp2_with (at_builtin; refine wpList_append_rd (S:=S) _ rfl (.tmp 31) (.tmp 32) _ rfl w.heap.size 9 i0 _ 1 16 Tryz.underlying22 hi0 hz0 hz1 hz2 rfl (by omega) _ (0+n) ([] ++ xs) rfl HO.out (.slice Ab m cb) m ys rfl (Hb.out.below HB.out) H2.out (by simp only [maxLen]; omega) (by omega) HB.out.size ?_; intro v2 w2 hown2 hg2 hat2)
     have HB2:=Lib.hid (HB.out.grown hg2 HB.out.size (fun k hk=>(HO.out.lt k hk).1));have HO2:=Lib.hid hown2;clear hown2 hg2 hat2;go_roundw
     case rel=>exact ⟨HB2,.inr (.inr ⟨rfl,HO2⟩)⟩
     case measure=>simp [intOf]
    ·go_wp2_with fail
     go_ret;exact ⟨_,rfl,by simpa using HO.out,HB.out⟩
theorem intInfo:(Tryz.prog.info? 3).map (fun i=>(i.zero,i.size,i.bytes))=some (some (.int .i64 0),1,8):=by kernel_rfl
theorem grow_int (n:Nat) (w:World) (hn:n≤65536):Calls Tryz.prog 212 #[.slice none 0 0,.int .i64 n] w (RetOwn 3 1 0 [] w):=by
 obtain ⟨i0,hi0,hz0,hz1,hz2⟩:=info_parts intInfo;by_cases h0:n=0
 ·subst h0
  go_enter Tryz.func212,Tryz.ntmps212;go_wp2;go_ret;exact ⟨_,rfl,World.ownsRow_nil _ _ _ _,Below.refl _ _⟩
 ·have hgr:∀ ty,(Builtin.append_ #[103,3] ty #[.slice none 0 0,.int .i64 n]).run Tryz.prog w=.ok (.slice (some ⟨w.heap.size,0,none⟩) n (grownCap w n 0 3))
    (w.drew.alloc (.cells (#[] ++ Builtin.zeroCells (Value.cells (.int .i64 0)) n ++ Builtin.zeroCells (Value.cells (.int .i64 0)) (grownCap w n 0 3 - n)) 3)):=fun ty=>by
   have h:=Lib.run_append_grow_zeros w 103 3 ty 3 i0 _ .i64 .i64 Tryz.underlying103 Tryz.underlying3 hi0 hz0 none 0 0 [] (by rw [hz1]; exact run_firstCells_none w.drew 1 0 0 0) n (by omega) (by omega) (by omega) (by omega) (by rw [hz2]; omega)
    (by rw [hz2]; exact growslice_fits (by omega) (by omega))
   simpa using h
  have hG:=grownCap_ge w n 0 3
  have hG63:grownCap w n 0 3≤9223372036854775807:=by
   have:=grownCap_le_maxLen w n 0 3 (by unfold maxLen; omega);unfold maxLen at this; omega
  generalize grownCap w n 0 3=G at hgr hG hG63
  obtain ⟨C,hC,hCs⟩:∃ C:Array Value,(#[] ++ Builtin.zeroCells (Value.cells (.int .i64 0)) n ++ Builtin.zeroCells (Value.cells (.int .i64 0)) (G - n))=C∧C.size=G:=⟨_,rfl,by simp [size_zeroCells,Value.cells]; omega⟩
  rw [hC] at hgr;have hn0:decide (0<n)=true:=by simp; omega
  have hw1:¬ ((n:Int)<0):=by omega
  have HC:=Lib.hid hCs;clear hC hCs;go_enter Tryz.func212,Tryz.ntmps212;go_wp2_with (at_builtin; refine Lib.wpList_append_run _ rfl _ _ _ _ rfl _ _ rfl rfl _ _ (hgr _) ?_);go_ret;exact ⟨_,rfl,⟨rfl,.inr ⟨w.heap.size,G,C,rfl,Nat.le_refl _,heap_alloc_new w (.cells C 3),by omega,by unfold maxLen; omega,by rw [HC.out]; omega,by simp⟩⟩,((Below.refl _ _).alloc (Nat.le_refl _) _).drew⟩
theorem concat_int (S:Nat→Prop) (g n m:Nat) (va vb:Value) (xs ys:List Value) (T:TypeId) (w:World) (hg:w.heap[g]?=some (.cells #[va,vb] T (0,0))) (ha:Rd S w 1 va n xs) (hb:Rd S w 1 vb m ys)
  (h1:∀ u ∈ xs,u.oneCell'=true) (h2:∀ u ∈ ys,u.oneCell'=true) (hn:n≤30000) (hm:m≤30000) :
  Calls Tryz.prog 197 #[.slice (some ⟨g,0,none⟩) 2 2] w (RetOwn 3 1 (n+m) (xs ++ ys) w):=by
 obtain ⟨i0,hi0,hz0,hz1,hz2⟩:=info_parts intInfo;have Ha:=Lib.hid ha;have Hb:=Lib.hid hb;obtain ⟨Aa,ca,rfl,_,ha2⟩:=ha.form;obtain ⟨Ab,cb,rfl,_,hb2⟩:=hb.form;unfold maxLen at ha2 hb2
 have hgl:g<w.heap.size:=by
  rcases Nat.lt_or_ge g w.heap.size with h | h
  ·exact h
  ·rw [Array.getElem?_eq_none h] at hg; cases hg
 have Hg:=Lib.hid hg;have H1:=Lib.hid h1;have H2:=Lib.hid h2;have c0:w.cell? ⟨g,0,none⟩=some (.slice Aa n ca):=cell_of_row _ _ 0 _ _ _ hg;have c1:w.cell? ⟨g,1,none⟩=some (.slice Ab m cb):=cell_of_row _ _ 1 _ _ _ hg;clear ha hb hg h1 h2;go_enter Tryz.func197,Tryz.ntmps197;go_wp2_with fail;go_loop [3,5,11] (fun s _ i=>(i=.int .i64 0∧s=.int .i64 0)∨(i=.int .i64 1∧s=.int .i64 n)∨(i=.int .i64 2∧s=.int .i64 ((n:Int)+(m:Int)))) (fun _ _ i=>(2 - intOf i).toNat)
 case atStart=>exact .inl ⟨rfl,rfl⟩
 case round =>
  rcases hrel with ⟨rfl,rfl⟩ | ⟨rfl,rfl⟩ | ⟨rfl,rfl⟩
  ·go_wp2
   go_round
   case rel=>exact .inr (.inl ⟨rfl,rfl⟩)
   case measure=>simp [intOf]
  ·go_wp2
   go_round
   case rel=>exact .inr (.inr ⟨rfl,rfl⟩)
   case measure=>simp [intOf]
  ·go_wp2_with fail
   have hnm:((n:Int)+(m:Int))=((n+m:Nat):Int):=by omega
   rw [hnm];clear hnm;refine (grow_int (n+m) _ (by omega)).mono ?_;rintro e w1 ⟨v1,rfl,hown1,hb1⟩;have Ho1:=Lib.hid hown1;have c0':w1.cell? ⟨g,0,none⟩=some (.slice Aa n ca):=(hb1.cell (p:=⟨g,0,none⟩) hgl).trans c0;have c1':w1.cell? ⟨g,1,none⟩=some (.slice Ab m cb):=(hb1.cell (p:=⟨g,1,none⟩) hgl).trans c1;have Hb1:=Lib.hid hb1;clear hown1 c0 c1 hb1;go_wp2_with fail
   obtain ⟨wo,rfl⟩:∃ wo:World,wo=w1:=⟨_,rfl⟩
   go_loopw [6,8,27] (fun v _ i wr=>Hid (Below w.heap.size w wr)∧((i=.int .i64 0∧Hid (wr.ownsRow w.heap.size 3 1 v 0 []))∨(i=.int .i64 1∧Hid (wr.ownsRow w.heap.size 3 1 v (0+n) ([] ++ xs)))∨(i=.int .i64 2∧Hid (wr.ownsRow w.heap.size 3 1 v (0+n+m) ([] ++ xs ++ ys))))) (fun _ _ i _=>(2 - intOf i).toNat)
   case atStart=>exact ⟨Hb1,.inl ⟨rfl,Ho1⟩⟩
   case round =>
    obtain ⟨HB,hrel⟩:=hrel;have d0:wr.cell? ⟨g,0,none⟩=some (.slice Aa n ca):=(HB.out.cell (p:=⟨g,0,none⟩) hgl).trans (cell_of_row _ _ 0 _ _ _ Hg.out);have d1:wr.cell? ⟨g,1,none⟩=some (.slice Ab m cb):=(HB.out.cell (p:=⟨g,1,none⟩) hgl).trans (cell_of_row _ _ 1 _ _ _ Hg.out);clear c0' c1'
    rcases hrel with ⟨rfl,HO⟩ | ⟨rfl,HO⟩ | ⟨rfl,HO⟩
    ·go_wp2_with (at_builtin; refine wpList_append_rd (S:=S) _ rfl (.tmp 31) (.tmp 32) _ rfl w.heap.size 3 i0 _ 1 8 Tryz.underlying103 hi0 hz0 hz1 hz2 rfl (by omega) _ 0 [] rfl HO.out (.slice Aa n ca) n xs rfl (Ha.out.below HB.out) H1.out (by simp only [maxLen]; omega) (by omega) HB.out.size ?_; intro v2 w2 hown2 hg2 hat2)
     have HB2:=Lib.hid (HB.out.grown hg2 HB.out.size (fun k hk=>(HO.out.lt k hk).1));have HO2:=Lib.hid hown2;clear hown2 hg2 hat2;go_roundw
     case rel=>exact ⟨HB2,.inr (.inl ⟨rfl,HO2⟩)⟩
     case measure=>simp [intOf]
    ·go_wp2_with (at_builtin; refine wpList_append_rd (S:=S) _ rfl (.tmp 31) (.tmp 32) _ rfl w.heap.size 3 i0 _ 1 8 Tryz.underlying103 hi0 hz0 hz1 hz2 rfl (by omega) _ (0+n) ([] ++ xs) rfl HO.out (.slice Ab m cb) m ys rfl (Hb.out.below HB.out) H2.out (by simp only [maxLen]; omega) (by omega) HB.out.size ?_; intro v2 w2 hown2 hg2 hat2)
     have HB2:=Lib.hid (HB.out.grown hg2 HB.out.size (fun k hk=>(HO.out.lt k hk).1));have HO2:=Lib.hid hown2;clear hown2 hg2 hat2;go_roundw
     case rel=>exact ⟨HB2,.inr (.inr ⟨rfl,HO2⟩)⟩
     case measure=>simp [intOf]
    ·go_wp2_with fail
     go_ret;exact ⟨_,rfl,by simpa using HO.out,HB.out⟩
end Go.Proofs.YtagndjihiklmiaaGreatDoor
namespace Go.Proofs.YtagndjihiklmiaaGreatDoor
open Go.RowKit
theorem meet_any (af am bf bm:Int) (w:World) (h1:0≤af) (h2:af≤40) (h3:0≤am) (h4:am≤40) (h5:0≤bf) (h6:bf≤40) (h7:0≤bm) (h8:bm≤40) :
  Calls Tryz.prog 194 #[spanV af am,spanV bf bm] w (Ret (.bool (meetB af am bf bm)) w):=by
 go_enter Tryz.func194,Tryz.ntmps194;go_wp2
 all_goals
  go_ret;refine ⟨?_,((Below.refl _ _).alloc (Nat.le_refl _) _).alloc (by simp) _⟩;simp [meetB, *];try omega
theorem next_any (af am bf bm:Int) (w:World) (h1:0≤af) (h2:af≤40) (h3:0≤am) (h4:am≤40) :
  Calls Tryz.prog 195 #[spanV af am,spanV bf bm] w (Ret (.bool (af+am == bf)) w):=by
 go_enter Tryz.func195,Tryz.ntmps195;go_wp2;go_ret;exact ⟨rfl,((Below.refl _ _).alloc (Nat.le_refl _) _).alloc (by simp) _⟩
theorem has_any (f m at_:Int) (w:World) (h1:0≤f) (h2:f≤40) (h3 : -9223372036854775808≤at_) (h4:at_≤9223372036854775807) :
  Calls Tryz.prog 121 #[spanV f m,.int .i64 at_] w (Ret (.bool (hasB f m at_)) w):=by
 by_cases hc:f≤at_
 all_goals
  go_enter Tryz.func121,Tryz.ntmps121;go_wp2;go_ret;exact ⟨by simp [hasB]; omega,((Below.refl _ _).alloc (Nat.le_refl _) _)⟩
theorem spanfault_any (f m most:Int) (w:World) :
  Calls Tryz.prog 177 #[spanV f m,.int .i64 most] w (Ret (.int .i64 (spanF f m most)) w):=by
 by_cases hg:0≤f∧f≤31∧1≤m∧m≤most∧m≤32 - f
 ·have e0:spanF f m most=0:=spanF_pos hg
  rw [e0];obtain ⟨h1,h2,h3,h4,h5⟩:=hg;go_enter Tryz.func177,Tryz.ntmps177;go_wp2;go_ret;exact ⟨rfl,(Below.refl _ _).alloc (Nat.le_refl _) _⟩
 ·have e0:spanF f m most=1:=spanF_neg hg
  rw [e0];clear e0;by_cases h1:f<0
  ·clear hg
   go_enter Tryz.func177,Tryz.ntmps177;go_wp2;go_ret;exact ⟨rfl,(Below.refl _ _).alloc (Nat.le_refl _) _⟩
  ·by_cases h2:31<f
   ·clear hg
    go_enter Tryz.func177,Tryz.ntmps177;go_wp2;go_ret;exact ⟨rfl,(Below.refl _ _).alloc (Nat.le_refl _) _⟩
   ·by_cases h3:m<1
    ·clear hg
     go_enter Tryz.func177,Tryz.ntmps177;go_wp2;go_ret;exact ⟨rfl,(Below.refl _ _).alloc (Nat.le_refl _) _⟩
    ·by_cases h4:most<m
     ·clear hg
      go_enter Tryz.func177,Tryz.ntmps177;go_wp2;go_ret;exact ⟨rfl,(Below.refl _ _).alloc (Nat.le_refl _) _⟩
     ·have h5:32 - f<m:=by omega
      have h6:32 - m<f:=by omega
      clear hg;go_enter Tryz.func177,Tryz.ntmps177;go_wp2;go_ret;exact ⟨rfl,(Below.refl _ _).alloc (Nat.le_refl _) _⟩
theorem check_any (f m most:Int) (w:World) (hm:most≤9223372036854775807) :
  Calls Tryz.prog 190 #[spanV f m,.int .i64 most] w (Ret (errV (spanF f m most)) w):=by
 by_cases hg:0≤f∧f≤31∧1≤m∧m≤most∧m≤32 - f
 ·have e0:spanF f m most=0:=spanF_pos hg
  rw [e0];obtain ⟨h1,h2,h3,h4,h5⟩:=hg;go_enter Tryz.func190,Tryz.ntmps190;go_wp2;go_ret;exact ⟨rfl,(Below.refl _ _).alloc (Nat.le_refl _) _⟩
 ·have e0:spanF f m most=1:=spanF_neg hg
  rw [e0];clear e0;by_cases h1:f<0
  ·clear hg
   go_enter Tryz.func190,Tryz.ntmps190;go_wp2;go_ret;exact ⟨rfl,(Below.refl _ _).alloc (Nat.le_refl _) _⟩
  ·by_cases h2:31<f
   ·clear hg
    go_enter Tryz.func190,Tryz.ntmps190;go_wp2;go_ret;exact ⟨rfl,(Below.refl _ _).alloc (Nat.le_refl _) _⟩
   ·by_cases h3:m<1
    ·clear hg
     go_enter Tryz.func190,Tryz.ntmps190;go_wp2;go_ret;exact ⟨rfl,(Below.refl _ _).alloc (Nat.le_refl _) _⟩
    ·by_cases h4:most<m
     ·clear hg
      go_enter Tryz.func190,Tryz.ntmps190;go_wp2;go_ret;exact ⟨rfl,(Below.refl _ _).alloc (Nat.le_refl _) _⟩
     ·have h5:32 - f<m:=by omega
      have h6:32 - m<f:=by omega
      clear hg;go_enter Tryz.func190,Tryz.ntmps190;go_wp2;go_ret;exact ⟨rfl,(Below.refl _ _).alloc (Nat.le_refl _) _⟩
theorem same_nil (f:Int) (w:World) :
  Calls Tryz.prog 6 #[.nilIface,.int .i64 f] w (RetSame (.bool (f == 0)) w):=by
 go_enter Tryz.func6,Tryz.ntmps6;go_wp2;go_ret;exact ⟨rfl,rfl⟩
theorem same_err (n f:Int) (w:World) (h:0<n) :
  Calls Tryz.prog 6 #[.iface 38 (.int .i64 n),.int .i64 f] w (RetSame (.bool (n == f)) w):=by
 by_cases h1:0<f
 ·go_enter Tryz.func6,Tryz.ntmps6
  go_wp2;go_ret;exact ⟨rfl,rfl⟩
 ·have h2:(n == f)=false:=by simp; omega
  rw [h2];go_enter Tryz.func6,Tryz.ntmps6;go_wp2;go_ret;exact ⟨rfl,rfl⟩
theorem same_any (n:Nat) (f:Int) (w:World) :
  Calls Tryz.prog 6 #[errV n,.int .i64 f] w (RetSame (.bool ((n:Int) == f)) w):=by
 unfold errV;by_cases h:n=0
 ·subst h
  rw [if_pos rfl];refine (same_nil f w).mono ?_;rintro e w' ⟨rfl,rfl⟩;refine ⟨?_,rfl⟩
  have:(f == 0)=(((0:Nat):Int) == f):=by
   rw [Bool.eq_iff_iff]; simp; omega
  rw [this]
 ·rw [if_neg h]
  exact same_err n f w (by omega)
theorem rhas_any (f m at_:Int) (w:World) (h1:0≤f) (h2:f≤40) (h3:0≤m) (h4:m≤40) :
  Calls Tryz.prog 66 #[spanV f m,.int .i64 at_] w (Ret (.bool (hasB f m at_)) w):=by
 go_enter Tryz.func66,Tryz.ntmps66;go_wp2;go_loop [5] (fun i=>∃ k:Int,0≤k∧k≤m∧i=.int .i64 k∧¬ (f≤at_∧at_ - f<k)) (fun i=>(m - intOf i).toNat)
 case atStart=>exact ⟨0,by omega,by omega,rfl,by omega⟩
 case round =>
  obtain ⟨k,hk0,hk1,rfl,hno⟩:=hrel;have Hno:=Lib.hid hno;clear hno;go_wp2
  ·go_ret
   rename_i hq;refine ⟨?_,(Below.refl _ _).alloc (Nat.le_refl _) _⟩;simp [hasB] at *;omega
  ·go_round
   case rel=>exact ⟨k+1,by omega,by omega,rfl,by have:=Hno.out; simp at *; omega⟩
   case measure=>simp [intOf]; omega
  ·go_ret
   refine ⟨?_,(Below.refl _ _).alloc (Nat.le_refl _) _⟩;have:=Hno.out;simp [hasB] at *;omega
end Go.Proofs.YtagndjihiklmiaaGreatDoor
