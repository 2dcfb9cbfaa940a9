/- slices.Insert of one sector into a row of the call's own. -/
import Derived.Test.YtagndjihiklmiaaGreatDoorQ19
import Derived.Lib.Overlaps
import Derived.Laws.CopyRow
import Derived.Laws.Externs
set_option linter.unusedSimpArgs false
set_option linter.unusedVariables false
set_option maxRecDepth 100000
set_option maxHeartbeats 8000000
namespace Go.Proofs.YtagndjihiklmiaaGreatDoor
open Go.RowKit
section
variable {P:Program}
theorem run_copy_wide (w:World) (dT sT ty elem:TypeId) (size g o dLen dCap:Nat) (a:Addr) (sLen sCap:Nat) (cur:Array Value) (t:TypeId) (cs:List Value)
  (hu:P.underlying dT=some (.slice elem)) (hs:(P.info? elem).map (·.size)=some size) (hg:w.heap[g]?=some (.cells cur t (0,0))) (hn:cs.length=Nat.min sLen dLen * size)
  (hsrc:∀ j v,cs[j]?=some v→w.cell? (a.add j)=some v) (hfit:o+cs.length≤cur.size) (h1:∀ v ∈ cs,v.oneCell'=true) :
  (Builtin.copy_ #[dT,sT] ty #[.slice (some ⟨g,o,none⟩) dLen dCap,.slice (some a) sLen sCap]).run P w =
   .ok (goInt (Nat.min sLen dLen)) (w.setRow g (cur.toList.take o ++ cs ++ cur.toList.drop (o+cs.length)).toArray):=by
 have hl:=run_loadCells_list (P:=P) w a cs hsrc;have hst:=run_storeCells_at P g o t cs 0 cur w hg (by simpa using hfit) h1
 cases hq:P.info? elem with
 |none=>simp [hq] at hs
 |some i =>
  have hi:i.size=size:=by simpa [hq] using hs
  simp [Builtin.copy_,run_underlying hu,Builtin.lenOf,Builtin.firstCells,sizeOf,typeInfo,hq,hi,← hn,hl,hst]
end
theorem grown_setRow {w0 w:World} {g:Nat} {cs:Array Value} {r:Option Nat} (h:w0.grownBy w r) (hg:some g=r∨w0.heap.size≤g):w0.grownBy (w.setRow g cs) r :=
 ⟨h.os,h.tape,h.output,by simpa [World.setRow] using h.size,fun k hk hr=>by
  rw [setRow_other _ _ _ _ (fun e=>by
   subst e;rcases hg with hg | hg
   ·exact hr hg
   ·omega)]
  exact h.block k hk hr⟩
theorem grown_drew {w0 w:World} {r:Option Nat} (h:w0.grownBy w r):w0.grownBy w.drew r:=⟨h.os,h.tape,h.output,h.size,h.block⟩
theorem grown_alloc {w0 w:World} {r:Option Nat} (h:w0.grownBy w r) (o:Obj):w0.grownBy (w.alloc o) r :=
 ⟨h.os,h.tape,h.output,Nat.le_trans h.size (by simp),fun k hk hr=>by
  rw [Below.heap_alloc _ _ _ (Nat.lt_of_lt_of_le hk h.size)]; exact h.block k hk hr⟩
theorem binsert_any (base:Nat) (v:Value) (n i vb:Nat) (xs ys:List Value) (w:World) (hown:w.ownsRow base 107 4 v n xs) (h1:∀ u ∈ xs,u.oneCell'=true)
  (hy:w.heap[vb]?=some (.cells ys.toArray 107 (0,0))) (hyl:ys.length=4) (hy1:∀ u ∈ ys,u.oneCell'=true) (hvb:v.ownBlock≠some vb) (hi:i≤n) (hn:n≤65536) (hbase:base≤w.heap.size) :
  Calls Tryz.prog 136 #[v,.int .i64 i,.slice (some ⟨vb,0,none⟩) 1 1] w fun E w' =>
   ∃ v',E=.returned v'∧w'.ownsRow base 107 4 v' (n+1) (xs.take (i * 4) ++ ys ++ xs.drop (i * 4))∧w.grownBy w' v.ownBlock:=by
 obtain ⟨i0,hi0,hz0,hz1,hz2⟩:=info_parts bufInfo
 obtain ⟨R,hR⟩:∃ x,xs.take (i * 4) ++ ys ++ xs.drop (i * 4)=x:=⟨_,rfl⟩
 rw [hR];have HR:=Lib.hid hR;clear hR
 obtain ⟨r,hr⟩:∃ x,v.ownBlock=x:=⟨_,rfl⟩
 rw [hr];have hr0:=Lib.hid hr;clear hr;have hlen:=hown.1
 have hvbl:vb<w.heap.size:=by
  rcases Nat.lt_or_ge vb w.heap.size with h | h
  ·exact h
  ·rw [Array.getElem?_eq_none h] at hy; cases hy
 have hyc:∀ (w':World),w'.heap[vb]?=w.heap[vb]?→∀ j u,ys[j]?=some u→w'.cell? ⟨vb,j,none⟩=some u:=fun w' hw j u hu=>by
  rw [cell_of_row _ _ _ _ _ _ (hw.trans hy)]; simpa using hu
 have hyr:Rd (fun _=>True) w 4 (.slice (some ⟨vb,0,none⟩) 1 1) 1 ys:=⟨_,_,rfl,by omega,by simp [maxLen],by omega,fun _=>⟨vb,0,rfl,trivial,fun j u hu=>by simpa using hyc w rfl j u hu⟩⟩
 by_cases hin:i=n
 ·subst hin
  have hv:∃ A cap,v=.slice A i cap∧i≤cap∧cap≤9223372036854775807:=by
   rcases hown.2 with ⟨h,h0⟩ | ⟨g,cap,cur,h,_,_,h3,h4,_⟩
   ·exact ⟨none,0,by rw [h,h0],by omega,by omega⟩
   ·unfold maxLen at h4; exact ⟨_,cap,h,h3,by omega⟩
  obtain ⟨A,cap,rfl,hc1,hc2⟩:=hv;have Hown:=Lib.hid hown;have Hyr:=Lib.hid hyr;have Hxs:Hid (R=xs ++ ys):=show _=_ by rw [← HR.out,List.take_of_length_le (by omega),List.drop_eq_nil_of_le (by omega),List.append_nil]
  clear hown hyr hyc hlen;go_enter Tryz.func136,Tryz.ntmps136;go_wp2_with (at_builtin; refine wpList_append_rd (S:=fun _=>True) _ rfl (.tmp 23) (.tmp 24) _ rfl base 107 i0 _ 4 40 Tryz.underlying66 hi0 hz0 hz1 hz2 rfl (by omega) (.slice A i cap) i xs rfl Hown.out (.slice (some ⟨vb,0,none⟩) 1 1) 1 ys rfl Hyr.out hy1 (by simp only [maxLen]; omega) (by omega) hbase ?_; intro v1 w1 hown1 hg1 hat1; rw [hr0.out] at hg1; clear hat1)
  all_goals
   go_ret;exact ⟨v1,rfl,by rw [Hxs.out]; exact hown1,hg1⟩
 ·have hlt:i<n:=by omega
  obtain ⟨g,cap,rfl,hbg,hgl,hnc,hcm⟩:=own_pos hown (by omega);obtain ⟨cur,hrow,_,_,_,hcs,htk⟩:=ownB_row hown (by omega);have hgv:g≠vb:=fun e=>hvb (by rw [e]; rfl)
  have hcel:∀ (w':World),w'.heap[g]?=w.heap[g]?→∀ j u,xs[j]?=some u→w'.cell? ⟨g,j,none⟩=some u:=fun w' hw j u hu=>by
   have hj:j<n * 4:=by have:=(List.getElem?_eq_some_iff.1 hu).1; omega
   rw [cell_of_row _ _ _ _ _ _ (hw.trans hrow),← Array.getElem?_toList,← hu,← htk,List.getElem?_take,if_pos hj]
  have hw1:(i:Int)≤(n:Int):=by omega
  have hz3:((i:Int) == (n:Int))=false:=by simp; omega
  by_cases hroom:n+1≤cap
  ·have hov:∀ lb cb,(callFunc 169 #[.slice (some ⟨vb,0,none⟩) 1 1,.slice (some ⟨g,(i+1) * 4,none⟩) lb cb]).run Tryz.prog w=.ok (.value (.bool false)) w:=fun lb cb=>by
    rw [run_callFunc_extern Tryz.func169 (by kernel_rfl) (by kernel_rfl) (by kernel_rfl) (e:=Extern.SlicesOverlaps.overlaps #[66,66] #[4]) (by kernel_rfl),
     Lib.run_overlaps_apart w 66 4 107 Tryz.underlying66 4 Tryz.sizeOf107 ⟨vb,0,none⟩ ⟨g,(i+1) * 4,none⟩ 1 1 lb cb (fun e=>hgv e.symm) 107 107 ys.toArray.size cur.size (by simp [World.shape?,hy]) (by simp [World.shape?,hrow]) (by omega) (frozen_of_row _ _ _ _ _ hy) (frozen_of_row _ _ _ _ _ hy)]
    rfl
   obtain ⟨w1,hcp1,hrow1,hg1⟩:∃ w1,(∀ ty dc sc,(Builtin.copy_ #[66,66] ty #[.slice (some ⟨g,(i+1) * 4,none⟩) (n - i) dc,.slice (some ⟨g,i * 4,none⟩) (n+1 - i) sc]).run Tryz.prog w.drew=.ok (goInt ((n - i:Nat):Int)) w1) ∧
     w1.heap[g]?=some (.cells (cur.toList.take ((i+1) * 4) ++ xs.drop (i * 4) ++ cur.toList.drop ((i+1) * 4+(xs.drop (i * 4)).length)).toArray 107 (0,0))∧w.grownBy w1 (some g):=by
    have hdl:(xs.drop (i * 4)).length=(n - i) * 4:=by rw [List.length_drop,hlen]; omega
    have hmin:Nat.min (n+1 - i) (n - i)=n - i:=by simp only [Nat.min_def]; split <;> omega
    refine ⟨w.drew.setRow g _,fun ty dc sc=>?_,setRow_heap w.drew g cur _ _ _ hrow,grown_setRow (grown_drew (World.grownBy.refl w _)) (.inl rfl)⟩
    have:=run_copy_wide (P:=Tryz.prog) w.drew 66 66 ty 107 4 g ((i+1) * 4) (n - i) dc ⟨g,i * 4,none⟩ (n+1 - i) sc cur _ (xs.drop (i * 4)) Tryz.underlying66 (by rw [hi0]; simp [hz1]) hrow
     (by rw [hdl,hmin]) (fun j u hu=>by rw [Go.WideShapes.add_plain]; exact hcel w.drew rfl _ u (by rwa [List.getElem?_drop] at hu)) (by rw [hdl,hcs]; omega) (fun u hu=>h1 u (List.mem_of_mem_drop hu))
    rw [hmin] at this;exact this
   obtain ⟨w2,hcp2,hrow2,hg2⟩:∃ w2,(∀ ty dc,(Builtin.copy_ #[66,66] ty #[.slice (some ⟨g,i * 4,none⟩) (n+1 - i) dc,.slice (some ⟨vb,0,none⟩) 1 1]).run Tryz.prog w1=.ok (goInt 1) w2) ∧
     w2.heap[g]?=some (.cells (xs.take (i * 4) ++ ys ++ xs.drop (i * 4) ++ cur.toList.drop ((n+1) * 4)).toArray 107 (0,0))∧w.grownBy w2 (some g):=by
    have hmin:Nat.min 1 (n+1 - i)=1:=by simp only [Nat.min_def]; split <;> omega
    have hdl:(xs.drop (i * 4)).length=(n - i) * 4:=by rw [List.length_drop,hlen]; omega
    have hyw:w1.heap[vb]?=w.heap[vb]?:=hg1.block vb hvbl (by simp; exact fun e=>hgv e.symm);have hcurl:cur.toList.length=cap * 4:=by rw [Array.length_toList,hcs]
    have eArr:((cur.toList.take ((i+1) * 4) ++ xs.drop (i * 4) ++ cur.toList.drop ((i+1) * 4+(xs.drop (i * 4)).length)).toArray.toList.take (i * 4) ++ ys ++ (cur.toList.take ((i+1) * 4) ++ xs.drop (i * 4) ++ cur.toList.drop ((i+1) * 4+(xs.drop (i * 4)).length)).toArray.toList.drop (i * 4+ys.length)).toArray =
      (xs.take (i * 4) ++ ys ++ xs.drop (i * 4) ++ cur.toList.drop ((n+1) * 4)).toArray:=by
     rw [List.toList_toArray,hyl,hdl];have ht:cur.toList.take (i * 4)=xs.take (i * 4):=by rw [← htk,List.take_take]; congr 1; omega
     rw [List.append_assoc (cur.toList.take ((i+1) * 4)),List.take_append_of_le_length (by rw [List.length_take,hcurl]; omega),List.take_take,Nat.min_eq_left (by omega),ht,
      List.drop_append,List.length_take,hcurl,Nat.min_eq_left (by omega),List.drop_eq_nil_of_le (by rw [List.length_take,hcurl]; omega),show i * 4+4 - (i+1) * 4=0 by omega,List.drop_zero,List.nil_append,
      show (i+1) * 4+(n - i) * 4=(n+1) * 4 by omega]
     simp only [List.append_assoc]
    refine ⟨w1.setRow g _,fun ty dc=>?_,setRow_heap w1 g _ _ _ _ hrow1,grown_setRow hg1 (.inl rfl)⟩
    have h3:=run_copy_wide (P:=Tryz.prog) w1 66 66 ty 107 4 g (i * 4) (n+1 - i) dc ⟨vb,0,none⟩ 1 1 _ _ ys Tryz.underlying66 (by rw [hi0]; simp [hz1]) hrow1
     (by rw [hmin,hyl]) (fun j u hu=>by rw [Go.WideShapes.add_plain]; simpa using hyc w1 hyw j u hu) (by
      rw [List.size_toArray]; simp only [List.length_append,List.length_take,List.length_drop,hcurl,hyl]; omega) hy1
    rw [hmin,eArr] at h3;exact h3
   have Hfin:Hid (w2.ownsRow base 107 4 (.slice (some ⟨g,0,none⟩) (n+1) cap) (n+1) R):=by
    rw [← HR.out];refine ⟨by simp only [List.length_append,List.length_take,List.length_drop,hlen,hyl]; omega,.inr ⟨g,cap,_,rfl,hbg,hrow2,hroom,by simp only [maxLen]; omega,?_,?_⟩⟩
    ·rw [List.size_toArray]; simp only [List.length_append,List.length_take,List.length_drop,hlen,hyl,Array.length_toList,hcs]; omega
    ·simp only []
     rw [List.take_append_of_le_length (by simp only [List.length_append,List.length_take,List.length_drop,hlen,hyl]; omega),List.take_of_length_le (by simp only [List.length_append,List.length_take,List.length_drop,hlen,hyl]; omega)]
   have Hg2:Hid (w.grownBy w2 r):=by rw [← hr0.out]; exact hg2
   have Hcp1:=Lib.hid hcp1;have Hcp2:=Lib.hid hcp2;clear hcel hyc hyr hown hrow hrow1 hrow2 hg1 hg2 htk hcs hlen h1 hy hy1 hyl hcp1 hcp2;have hw2:IntKind.i64.wrap ((i:Int)+1)=(i:Int)+1:=by rw [IntKind.wrap_i64]; omega
   have hb1:(0:Int)≤(i:Int)+1:=by omega
   have hb2:¬ (cap=i+1):=by omega
   have hb3:(i:Int)≤(n:Int)+1:=by omega
   have hb4:¬ (cap=i):=by omega
   have htn:((i:Int)+1).toNat=i+1:=by omega
   have hz5:decide ((cap:Int)<(n:Int)+1)=false:=by simp; omega
   go_enter Tryz.func136,Tryz.ntmps136;go_wp2_with (simp only [hov]);have hcp1:=Hcp1.out;have hcp2:=Hcp2.out;go_region
   go_wp2;go_ret;exact ⟨_,rfl,Hfin.out,Hg2.out⟩
  ·obtain rfl:cap=n:=by omega
   obtain ⟨N,hN⟩:∃ x,w.heap.size=x:=⟨_,rfl⟩
   have hcurl:cur.toList.length=cap * 4:=by rw [Array.length_toList,hcs]
   obtain ⟨w1,G,row,hap,hrow1,hG1,hG2,hrs,hrt,hg1,hsz1⟩:∃ w1 G,∃ row:Array Value,(∀ ty,(Builtin.append_ #[66,3] ty #[.slice (some ⟨g,0,none⟩) i cap,.int .i64 ((cap:Int)+1 - (i:Int))]).run Tryz.prog w=.ok (.slice (some ⟨N,0,none⟩) (cap+1) G) w1) ∧
     w1.heap[N]?=some (.cells row 107 (0,0))∧cap+1≤G∧G≤9223372036854775807∧row.size=G * 4∧row.toList.take (i * 4)=xs.take (i * 4)∧w.grownBy w1 none∧w1.heap.size=N+1:=by
    have hold:(Builtin.firstCells i0.size i (.slice (some ⟨g,0,none⟩) i cap)).run Tryz.prog w.drew=.ok (xs.take (i * 4)).toArray w.drew:=by
     rw [hz1]
     exact run_firstCells_some w.drew 4 i ⟨g,0,none⟩ i cap (xs.take (i * 4)) (by rw [List.length_take,hlen]; omega) (fun j u hj=>by
      rw [Go.WideShapes.add_plain];rw [List.getElem?_take] at hj
      split at hj
      ·simpa using hcel w.drew rfl j u hj
      ·cases hj)
    have hG:=grownCap_ge w (i+(cap+1 - i)) cap 107;have hG':=grownCap_le_maxLen w (i+(cap+1 - i)) cap 107 (by unfold maxLen; omega);have e1:i+(cap+1 - i)=cap+1:=by omega
    have h:=fun ty=>Lib.run_append_grow_zeros (P:=Tryz.prog) w 66 3 ty 107 i0 _ .i64 .i64 Tryz.underlying66 Tryz.underlying3 hi0 hz0 (some ⟨g,0,none⟩) i cap (xs.take (i * 4)) hold (cap+1 - i) (by omega) (by rw [hz1]; omega) (by omega) (by omega) (by rw [hz2]; omega) (by rw [hz2,e1]; exact growslice_fits (by omega) (by omega))
    have e2:(((cap+1 - i:Nat)):Int)=(cap:Int)+1 - (i:Int):=by omega
    rw [e2] at h
    have hs:((xs.take (i * 4)).toArray ++ Builtin.zeroCells (Value.agg #[.int .i64 0,.string ⟨#[]⟩,.bool false,.int .i64 0]).cells (cap+1 - i) ++ Builtin.zeroCells (Value.agg #[.int .i64 0,.string ⟨#[]⟩,.bool false,.int .i64 0]).cells (grownCap w (i+(cap+1 - i)) cap 107 - (i+(cap+1 - i)))).size=grownCap w (i+(cap+1 - i)) cap 107 * 4:=by
     simp only [Array.size_append,size_zeroCells,List.size_toArray,List.length_take,hlen,Value.cells,List.length_cons,List.length_nil];omega
    have ht:((xs.take (i * 4)).toArray ++ Builtin.zeroCells (Value.agg #[.int .i64 0,.string ⟨#[]⟩,.bool false,.int .i64 0]).cells (cap+1 - i) ++ Builtin.zeroCells (Value.agg #[.int .i64 0,.string ⟨#[]⟩,.bool false,.int .i64 0]).cells (grownCap w (i+(cap+1 - i)) cap 107 - (i+(cap+1 - i)))).toList.take (i * 4)=xs.take (i * 4):=by
     rw [Array.toList_append,Array.toList_append,List.toList_toArray,List.append_assoc,List.take_append_of_le_length (by rw [List.length_take,hlen]; omega),List.take_take,Nat.min_self]
    generalize (xs.take (i * 4)).toArray ++ Builtin.zeroCells (Value.agg #[.int .i64 0,.string ⟨#[]⟩,.bool false,.int .i64 0]).cells (cap+1 - i) ++ Builtin.zeroCells (Value.agg #[.int .i64 0,.string ⟨#[]⟩,.bool false,.int .i64 0]).cells (grownCap w (i+(cap+1 - i)) cap 107 - (i+(cap+1 - i)))=ROW at h hs ht;refine ⟨w.drew.alloc (.cells ROW 107),grownCap w (i+(cap+1 - i)) cap 107,ROW,fun ty=>?_,?_,by omega,by unfold maxLen at hG'; omega,hs,ht,grown_alloc (grown_drew (World.grownBy.refl w _)) _,by simp [hN]⟩
    ·rw [h ty,hN,e1]
    ·rw [← hN]; exact heap_alloc_new w.drew _
   have hgN:g≠N:=by omega
   have hvN:vb≠N:=by omega
   obtain ⟨w2,hcp1,hrow2,hg2⟩:∃ w2,(∀ ty dc,(Builtin.copy_ #[66,66] ty #[.slice (some ⟨N,i * 4,none⟩) (cap+1 - i) dc,.slice (some ⟨vb,0,none⟩) 1 1]).run Tryz.prog w1=.ok (goInt 1) w2) ∧
     w2.heap[N]?=some (.cells (xs.take (i * 4) ++ ys ++ row.toList.drop (i * 4+4)).toArray 107 (0,0))∧w.grownBy w2 none:=by
    have hmin:Nat.min 1 (cap+1 - i)=1:=by simp only [Nat.min_def]; split <;> omega
    have hyw:w1.heap[vb]?=w.heap[vb]?:=hg1.block vb hvbl (by simp);refine ⟨w1.setRow N _,fun ty dc=>?_,setRow_heap w1 N _ _ _ _ hrow1,grown_setRow hg1 (.inr (by omega))⟩
    have h3:=run_copy_wide (P:=Tryz.prog) w1 66 66 ty 107 4 N (i * 4) (cap+1 - i) dc ⟨vb,0,none⟩ 1 1 row _ ys Tryz.underlying66 (by rw [hi0]; simp [hz1]) hrow1
     (by rw [hmin,hyl]) (fun j u hu=>by rw [Go.WideShapes.add_plain]; simpa using hyc w1 hyw j u hu) (by rw [hrs,hyl]; omega) hy1
    rw [hmin,hrt,hyl] at h3;exact h3
   obtain ⟨w3,hcp2,hrow3,hg3⟩:∃ w3,(∀ ty dc sc,(Builtin.copy_ #[66,66] ty #[.slice (some ⟨N,(i+1) * 4,none⟩) (cap - i) dc,.slice (some ⟨g,i * 4,none⟩) (cap - i) sc]).run Tryz.prog w2.drew=.ok (goInt ((cap - i:Nat):Int)) w3) ∧
     w3.heap[N]?=some (.cells (xs.take (i * 4) ++ ys ++ xs.drop (i * 4) ++ row.toList.drop ((cap+1) * 4)).toArray 107 (0,0))∧w.grownBy w3 none:=by
    have hdl:(xs.drop (i * 4)).length=(cap - i) * 4:=by rw [List.length_drop,hlen]; omega
    have hgw:w2.drew.heap[g]?=w.heap[g]?:=hg2.block g hgl (by simp)
    have eArr:((xs.take (i * 4) ++ ys ++ row.toList.drop (i * 4+4)).toArray.toList.take ((i+1) * 4) ++ xs.drop (i * 4) ++ (xs.take (i * 4) ++ ys ++ row.toList.drop (i * 4+4)).toArray.toList.drop ((i+1) * 4+(xs.drop (i * 4)).length)).toArray =
      (xs.take (i * 4) ++ ys ++ xs.drop (i * 4) ++ row.toList.drop ((cap+1) * 4)).toArray:=by
     have hhl:(xs.take (i * 4) ++ ys).length=(i+1) * 4:=by rw [List.length_append,List.length_take,hlen,hyl]; omega
     rw [List.toList_toArray,hdl,List.take_append_of_le_length (by omega),List.take_of_length_le (by omega),List.drop_append,hhl,(List.drop_eq_nil_of_le (by omega):(xs.take (i * 4) ++ ys).drop ((i+1) * 4+(cap - i) * 4)=[]),List.nil_append,List.drop_drop]
     congr 3; omega
    refine ⟨w2.drew.setRow N _,fun ty dc sc=>?_,setRow_heap w2.drew N _ _ _ _ hrow2,grown_setRow (grown_drew hg2) (.inr (by omega))⟩
    have h3:=run_copy_wide (P:=Tryz.prog) w2.drew 66 66 ty 107 4 N ((i+1) * 4) (cap - i) dc ⟨g,i * 4,none⟩ (cap - i) sc _ _ (xs.drop (i * 4)) Tryz.underlying66 (by rw [hi0]; simp [hz1]) hrow2
     (by rw [hdl]; congr 1; simp only [Nat.min_def]; split <;> omega) (fun j u hu=>by rw [Go.WideShapes.add_plain]; exact hcel w2.drew hgw _ u (by rwa [List.getElem?_drop] at hu)) (by
      rw [List.size_toArray]; simp only [List.length_append,List.length_take,List.length_drop,Array.length_toList,hrs,hyl,hlen]; omega) (fun u hu=>h1 u (List.mem_of_mem_drop hu))
    rw [eArr,show Nat.min (cap - i) (cap - i)=cap - i from Nat.min_self _] at h3;exact h3
   have Hfin:Hid (w3.ownsRow base 107 4 (.slice (some ⟨N,0,none⟩) (cap+1) G) (cap+1) R):=by
    rw [← HR.out];refine ⟨by simp only [List.length_append,List.length_take,List.length_drop,hlen,hyl]; omega,.inr ⟨N,G,_,rfl,by omega,hrow3,hG1,by simp only [maxLen]; omega,?_,?_⟩⟩
    ·rw [List.size_toArray]; simp only [List.length_append,List.length_take,List.length_drop,hlen,hyl,Array.length_toList,hrs]; omega
    ·simp only []
     rw [List.take_append_of_le_length (by simp only [List.length_append,List.length_take,List.length_drop,hlen,hyl]; omega),List.take_of_length_le (by simp only [List.length_append,List.length_take,List.length_drop,hlen,hyl]; omega)]
   have Hg3:Hid (w.grownBy w3 r):=⟨hg3.os,hg3.tape,hg3.output,hg3.size,fun k hk _=>hg3.block k hk (by simp)⟩
   clear hcel hyc hyr hown hrow hrow1 hrow2 hrow3 hg1 hg2 hg3 htk hcs hlen h1 hy hy1 hyl hrs hrt hcurl;have hw2:IntKind.i64.wrap ((i:Int)+1)=(i:Int)+1:=by rw [IntKind.wrap_i64]; omega
   have hw3:IntKind.i64.wrap ((cap:Int)+1 - (i:Int))=(cap:Int)+1 - (i:Int):=by rw [IntKind.wrap_i64]; omega
   have hb1:(0:Int)≤(i:Int)+1:=by omega
   have hb2:¬ (cap=i):=by omega
   have hb3:(i:Int)≤(cap:Int)+1:=by omega
   have hb4:¬ (G=i):=by omega
   have hb5:¬ (G=i+1):=by omega
   have htn:((i:Int)+1).toNat=i+1:=by omega
   have hz5:(cap:Int)<(cap:Int)+1:=by omega
   go_enter Tryz.func136,Tryz.ntmps136;go_wp2_with (at_builtin; refine Lib.wpList_append_run _ rfl _ _ _ _ rfl _ _ rfl rfl _ _ (hap _) ?_);go_region
   go_wp2;go_ret;exact ⟨_,rfl,Hfin.out,Hg3.out⟩
end Go.Proofs.YtagndjihiklmiaaGreatDoor
namespace Go.Proofs.YtagndjihiklmiaaGreatDoor
open Go.RowKit
def RetPut (m:List Bf) (w:World):Ending→World→Prop:=fun e w'=>∃ v,e=.returned (.tuple #[v,.nilIface])∧w'.ownsRow w.heap.size 107 4 v m.length (flatB m)∧Below w.heap.size w w'
theorem flatB_ins (l:List Bf) (b:Bf):(flatB l).take (posB l b.pos * 4) ++ b.cells ++ (flatB l).drop (posB l b.pos * 4)=flatB (insB l b):=by
 rw [flatB_take,flatB_drop]; unfold insB; rw [flatB_app,flatB_cons]; simp [List.append_assoc]
theorem insB_len (l:List Bf) (b:Bf):(insB l b).length=l.length+1:=by
 have:=posB_le l b.pos;unfold insB; simp; omega
theorem flatB_erase (l:List Bf) (i:Nat):(flatB l).take (i * 4) ++ (flatB l).drop ((i+1) * 4)=flatB (l.eraseIdx i):=by
 rw [flatB_take,flatB_drop,← flatB_app,List.eraseIdx_eq_take_drop_succ]
theorem cellsB_one (b:Bf):∀ u ∈ b.cells,u.oneCell'=true:=by
 intro u hu;simp only [Bf.cells,List.mem_cons,List.not_mem_nil,or_false] at hu;rcases hu with rfl | rfl | rfl | rfl <;> rfl
theorem mapPut_at {l:List Bf} (h:Rises l) {b x:Bf} {i:Nat} (hx:l[i]?=some x) (hp:x.pos=b.pos):(l.map fun y=>if y.pos=b.pos then b else y)=l.set i b:=by
 have:=map_one h hx hp (fun y=>if y.pos=b.pos then b else y) (fun y hy=>if_neg hy);rw [if_pos hp] at this; exact this
def RetPutO (o:Option (List Bf)) (w:World):Ending→World→Prop:=match o with
 |some m=>RetPut m w
 |none=>Ret (.tuple #[.slice none 0 0,errV 7]) w
theorem put_all (S:Nat→Prop) (l:List Bf) (v:Value) (b:Bf) (f:FuncId) (first caps:Array Value) (held:Int→Bool) (w:World) (h:BufsAt S w v l) (hr:Rises l) (hin:InB l) (hh:HeldBy w f first caps held) (hn0:l.length≤65536) :
  Calls Tryz.prog 92 #[v,bfV b,.func (.func f) first caps] w (RetPutO (putB l b held) w):=by
 have HI:=Lib.hid hin;have HH:=Lib.hid hh;clear hin hh;obtain ⟨A,cap,rfl,h1,h2⟩:=h.form;unfold maxLen at h2;have H:=Lib.hid h;have HR:=Lib.hid hr;clear h hr;go_enter Tryz.func92,Tryz.ntmps92;go_wp2_with fail;have L:=(Lay.refl w).alloc' w.heap.size #[.int .i64 b.pos,.string b.data,.bool b.dirty,.int .i64 b.used] 107 rfl;have hz:(w.alloc (.cells #[.int .i64 b.pos,.string b.data,.bool b.dirty,.int .i64 b.used] 107)).heap.size=w.heap.size+1:=by simp
 generalize World.alloc _ _=W at L hz ⊢;have Hz:=Lib.hid hz;clear hz;refine (bclone_any S _ l.length (flatB l) _ (H.out.below L.below).1 (flatB_one l) (by omega)).mono ?_;rintro e w1 ⟨v1,rfl,hown,hb1⟩;have Hown:=Lib.hid hown;have L1:=L.step hb1;obtain ⟨A1,cp1,rfl,hc1,hc2⟩:=ownB_slice hown;clear hown L;obtain ⟨q0,q1,q2,q3⟩:=L1.c4 0 rfl;clear hb1;go_wp2_with fail;refine (find_any (fun _=>True) l _ b.pos _ (bufs_of_own (fun _ _=>trivial) Hown.out H.out.2) HR.out (by omega)).mono ?_;rintro e w2 ⟨rfl,hb2⟩;have Ho2:=Lib.hid (own_below Hown.out hb2);have L2:=L1.step hb2;clear hb2 L1 q0 q1 q2 q3;obtain ⟨q0,q1,q2,q3⟩:=L2.c4 0 rfl;have HE:Hid (putB l b held=if isB l b.pos then some (l.map fun x=>if x.pos=b.pos then b else x) else if 8≤l.length then (if leastB l false held<0 then none else some (insB (l.eraseIdx (leastB l false held).toNat) b)) else some (insB l b)):=show _=_ from rfl
 cases hi:isB l b.pos with
 |true =>
  have He:Hid (putB l b held=some (l.map fun x=>if x.pos=b.pos then b else x)):=show _=_ by rw [HE.out,hi]; rfl
  have Hi:=Lib.hid hi;clear hi HE;obtain ⟨x,hx,hp⟩:=isB_at HR.out Hi.out;have hlt:=(List.getElem?_eq_some_iff.1 hx).1;have hi1:((posB l b.pos:Nat):Int)<(l.length:Int):=by omega
  obtain ⟨g,cp,e,hbg,hgl,_,_⟩:=own_pos Ho2.out (by omega)
  cases e
  have hfr:=own_frozen Ho2.out (by omega);obtain ⟨k0,k1,k2,k3⟩:=own_cells4 Ho2.out hx;have HL:=Lib.hid L2;have Hx:=Lib.hid hx;have Hp:=Lib.hid hp;clear hx hp L2;go_wp2_with fail;go_ret2;have hlen:(l.map fun y=>if y.pos=b.pos then b else y).length=l.length:=by simp
  have hbw:w.heap.size≤g:=by have:=Hz.out; omega
  rw [He.out];refine ⟨_,rfl,?_,(((HL.out.below.setCell hbw _).setCell hbw _).setCell hbw _).setCell hbw _⟩;rw [hlen,mapPut_at HR.out Hx.out Hp.out,← flatB_set hlt b];have hj:posB l b.pos * 4+4≤l.length * 4:=by omega
  exact own_lo (ownB_setCell (ownB_setCell (ownB_setCell (ownB_setCell Ho2.out (by omega)) (by omega)) (by omega)) (by omega)) (by have:=Hz.out; omega)
 |false =>
  have Hi:=Lib.hid hi;by_cases h8:8≤l.length
  ·by_cases hv:leastB l false held<0
   ·have He:Hid (putB l b held=none):=show _=_ by rw [HE.out,hi,if_neg (by decide),if_pos h8,if_pos hv]
    clear hi HE;have hl8:(8:Int)≤(l.length:Int):=by omega
    go_wp2_with fail;refine (victim_any (fun _=>True) l _ f first caps held _ (bufs_of_own (fun _ _=>trivial) Ho2.out H.out.2) HI.out (HH.out.step L2.below) hn0).mono ?_;rintro e w3 ⟨rfl,hb3⟩;have Ho3:=Lib.hid (own_below Ho2.out hb3);have L3:=L2.step hb3;clear hb3 q0 q1 q2 q3;have hm1:leastB l false held = -1:=by have:=bestB_range (okB false held) l l.length; rw [leastB_eq] at hv ⊢; omega
    rw [hm1];clear hm1 hv L2;go_wp2_with fail;go_ret2;rw [He.out];exact ⟨rfl,L3.below⟩
   ·obtain ⟨j,hj,hjl⟩:∃ j:Nat,leastB l false held=(j:Int)∧j<l.length:=by
     have:=bestB_range (okB false held) l l.length;rw [leastB_eq] at hv ⊢;exact ⟨(bestB (okB false held) l l.length).toNat,by omega,by omega⟩
    have He:Hid (putB l b held=some (insB (l.eraseIdx j) b)):=show _=_ by rw [HE.out,hi,if_neg (by decide),if_pos h8,if_neg hv,hj,Int.toNat_natCast]
    have Hj:=Lib.hid hj;clear hj hv hi HE;have hl8:(8:Int)≤(l.length:Int):=by omega
    go_wp2_with fail;refine (victim_any (fun _=>True) l _ f first caps held _ (bufs_of_own (fun _ _=>trivial) Ho2.out H.out.2) HI.out (HH.out.step L2.below) hn0).mono ?_;rintro e w3 ⟨rfl,hb3⟩;have Ho3:=Lib.hid (own_below Ho2.out hb3);have L3:=L2.step hb3;clear hb3 q0 q1 q2 q3;rw [Hj.out];obtain ⟨g,cp,e,hbg,hgl,hnc,_⟩:=own_pos Ho3.out (by omega)
    cases e
    have hj0:decide ((j:Int)<0)=false:=by simp
    have hj1:IntKind.i64.wrap ((j:Int)+1)=(j:Int)+1:=by rw [IntKind.wrap_i64]; omega
    have Hl':(l.eraseIdx j).length=l.length - 1:=List.length_eraseIdx_of_lt hjl;clear L2;obtain ⟨q0,q1,q2,q3⟩:=L3.c4 0 rfl;go_wp2_with fail;refine (bdelete_any W.heap.size g l.length cp1 j (flatB l) _ Ho3.out (flatB_one l) hjl hn0).mono ?_;rintro e w4 ⟨v4,rfl,hown4,hg4⟩;rw [flatB_erase,← Hl'] at hown4;have Hown4:=Lib.hid hown4;have HgW:Hid (w.heap.size<g):=show _<_ by have:=Hz.out; omega
    have L4:Lay w w4 [(w.heap.size,107,#[.int .i64 b.pos,.string b.data,.bool b.dirty,.int .i64 b.used])] :=
     L3.chg (F:=fun k=>k=g) ((Chg.refl).grown hg4 (fun k hk=>by cases hk; exact .inl rfl)) (fun k hk=>by subst hk; have:=HgW.out; omega) (fun x hx=>by simp at hx; subst hx; exact fun h=>by have:=HgW.out; simp only at h; omega)
    have Hl'':=Lib.hid Hl';clear hown4 hg4 q0 q1 q2 q3 Hl';obtain ⟨q0,q1,q2,q3⟩:=L4.c4 0 rfl
    obtain ⟨l',hl'⟩:∃ l',l.eraseIdx j=l':=⟨_,rfl⟩
    have HR':=Lib.hid (erase_rises HR.out j);have Hok':Hid (∀ x ∈ l.eraseIdx j,BfOk x):=fun x hx=>H.out.2 x (List.mem_of_mem_eraseIdx hx)
    have Hi':=Lib.hid (erase_no Hi.out j);rw [hl'] at Hown4 HR' Hok' Hi' Hl'';have Hl0:=Lib.hid hl';clear hl';obtain ⟨A4,cp4,rfl,hc41,hc42⟩:=ownB_slice Hown4.out;go_wp2_with fail;refine (find_any (fun _=>True) l' _ b.pos _ (bufs_of_own (fun _ _=>trivial) Hown4.out Hok'.out) HR'.out (by have:=Hl''.out; omega)).mono ?_;rintro e w5 ⟨rfl,hb5⟩;have Ho5:=Lib.hid (own_below Hown4.out hb5);have L5:=L4.step hb5;clear hb5 L4 q0 q1 q2 q3;obtain ⟨q0,q1,q2,q3⟩:=L5.c4 0 rfl;have Hl8:Hid (l'.length≤65536):=show _≤_ by have:=Hl''.out; omega
    have HzW:Hid (W.heap.size=w.heap.size+1):=Hz;have hb3:=(Below.refl w5.heap.size w5).alloc (Nat.le_refl _) (.cells #[.int .i64 b.pos,.string b.data,.bool b.dirty,.int .i64 b.used] 107);have hv3:(w5.alloc (.cells #[.int .i64 b.pos,.string b.data,.bool b.dirty,.int .i64 b.used] 107)).heap[w5.heap.size]?=some (.cells b.cells.toArray 107 (0,0)):=heap_alloc_new w5 _;have hz3:(w5.alloc (.cells #[.int .i64 b.pos,.string b.data,.bool b.dirty,.int .i64 b.used] 107)).heap.size=w5.heap.size+1:=by simp
    go_wp2_with fail;generalize World.alloc _ _=W3 at hb3 hv3 hz3 ⊢;have Hb3:=Lib.hid hb3;have Hz3:=Lib.hid hz3;clear hz3;refine (binsert_any W.heap.size _ l'.length (posB l' b.pos) w5.heap.size (flatB l') b.cells _ (own_below Ho5.out hb3) (flatB_one _) hv3 rfl (cellsB_one b) (fun e=>by have:=(Ho5.out.lt _ e).2; omega) (posB_le _ _) (by have:=Hl8.out; omega) (by have:=Hz3.out; have:=L5.size; have:=HzW.out; omega)).mono ?_;clear hb3 hv3;rintro e w6 ⟨v6,rfl,hown6,hg6⟩;rw [flatB_ins,← insB_len l' b] at hown6;have Hown6:=Lib.hid hown6;have Hg6:=Lib.hid hg6;clear hown6 hg6;go_wp2_with fail;go_ret2;rw [He.out];refine ⟨v6,rfl,(by rw [Hl0.out]; exact own_lo (B:=W.heap.size) Hown6.out (by have:=HzW.out; omega)),Below.grown (L5.below.trans (Hb3.out.mono L5.size)) Hg6.out (by have:=Hz3.out; have:=L5.size; omega) (fun k hk=>?_)⟩;have:=(Ho5.out.lt k hk).1;have:=HzW.out;omega
  ·have hn:l.length<8:=by omega
   have He:Hid (putB l b held=some (insB l b)):=show _=_ by rw [HE.out,hi,if_neg (by decide),if_neg h8]
   clear hi HE;have hl8:decide ((8:Int)≤(l.length:Int))=false:=by simp; omega
   have Hl8:Hid (l.length<8):=hn;have HzW:Hid (W.heap.size=w.heap.size+1):=Hz;have hb3:=(Below.refl w2.heap.size w2).alloc (Nat.le_refl _) (.cells #[.int .i64 b.pos,.string b.data,.bool b.dirty,.int .i64 b.used] 107);have hv3:(w2.alloc (.cells #[.int .i64 b.pos,.string b.data,.bool b.dirty,.int .i64 b.used] 107)).heap[w2.heap.size]?=some (.cells b.cells.toArray 107 (0,0)):=heap_alloc_new w2 _;have hz3:(w2.alloc (.cells #[.int .i64 b.pos,.string b.data,.bool b.dirty,.int .i64 b.used] 107)).heap.size=w2.heap.size+1:=by simp
   go_wp2_with fail;generalize World.alloc _ _=W3 at hb3 hv3 hz3 ⊢;have Hb3:=Lib.hid hb3;have Hz3:=Lib.hid hz3;clear hz3;refine (binsert_any W.heap.size _ l.length (posB l b.pos) w2.heap.size (flatB l) b.cells _ (own_below Ho2.out hb3) (flatB_one _) hv3 rfl (cellsB_one b) (fun e=>by have:=(Ho2.out.lt _ e).2; omega) (posB_le _ _) (by have:=Hl8.out; omega) (by have:=Hz3.out; have:=L2.size; have:=HzW.out; omega)).mono ?_;clear hb3 hv3;rintro e w4 ⟨v4,rfl,hown4,hg4⟩;rw [flatB_ins,← insB_len l b] at hown4;have Hown4:=Lib.hid hown4;have Hg4:=Lib.hid hg4;clear hown4 hg4;go_wp2_with fail;go_ret2;rw [He.out];refine ⟨v4,rfl,own_lo Hown4.out (by have:=HzW.out; omega),Below.grown (L2.below.trans (Hb3.out.mono L2.size)) Hg4.out (by have:=Hz3.out; have:=L2.size; omega) (fun k hk=>?_)⟩;have:=(Ho2.out.lt k hk).1;have:=HzW.out;omega
theorem put_some (S:Nat→Prop) (l m:List Bf) (v:Value) (b:Bf) (f:FuncId) (first caps:Array Value) (held:Int→Bool) (w:World) (h:BufsAt S w v l) (hr:Rises l) (hin:InB l) (hh:HeldBy w f first caps held) (hn:l.length≤65536) (hp:putB l b held=some m) :
  Calls Tryz.prog 92 #[v,bfV b,.func (.func f) first caps] w (RetPut m w):=by
 have:=put_all S l v b f first caps held w h hr hin hh hn
 rw [hp] at this;exact this
theorem put_none (S:Nat→Prop) (l:List Bf) (v:Value) (b:Bf) (f:FuncId) (first caps:Array Value) (held:Int→Bool) (w:World) (h:BufsAt S w v l) (hr:Rises l) (hin:InB l) (hh:HeldBy w f first caps held) (hn:l.length≤65536) (hp:putB l b held=none) :
  Calls Tryz.prog 92 #[v,bfV b,.func (.func f) first caps] w (Ret (.tuple #[.slice none 0 0,errV 7]) w):=by
 have:=put_all S l v b f first caps held w h hr hin hh hn
 rw [hp] at this;exact this
end Go.Proofs.YtagndjihiklmiaaGreatDoor
