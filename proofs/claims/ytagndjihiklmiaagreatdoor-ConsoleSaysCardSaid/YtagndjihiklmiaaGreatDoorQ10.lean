/- Blocks of the call's own, while an object changes: what lies in each, in a list. -/
import Derived.Test.YtagndjihiklmiaaGreatDoorQ9
import Derived.Maps.OwnSet
set_option linter.unusedSimpArgs false
set_option linter.unusedVariables false
set_option maxRecDepth 100000
set_option maxHeartbeats 8000000
namespace Go.Proofs.YtagndjihiklmiaaGreatDoor
open Go.RowKit
def setMany:Array Value→Nat→List Value→Array Value
 |c,_,[]=>c
 |c,o,v :: l=>setMany (c.setIfInBounds o v) (o+1) l
theorem heap_setCells_row (b:Nat) (T:TypeId):∀ (vs:List Value) (o:Nat) (w:World) (cur:Array Value),w.heap[b]?=some (.cells cur T (0,0))→(w.setCells b o vs).heap[b]?=some (.cells (setMany cur o vs) T (0,0))
 | [],_,_,_,h=>h
 |v :: l,o,w,cur,h=>heap_setCells_row b T l (o+1) _ _ (heap_setCell_same _ _ o _ _ v h)
theorem setMany_mid:∀ (vs a m c:List Value),m.length=vs.length→setMany (a ++ (m ++ c)).toArray a.length vs=(a ++ (vs ++ c)).toArray
 | [],a,[],c,_=>rfl
 |v :: vs,a,x :: m,c,h=>by
  unfold setMany;rw [List.setIfInBounds_toArray];have e1:(a ++ (x :: m ++ c)).set a.length v=(a ++ [v]) ++ (m ++ c):=by simp [List.set_append_right]
  have e2:a.length+1=(a ++ [v]).length:=by simp
  rw [e1,e2,setMany_mid vs (a ++ [v]) m c (by simpa using h)];simp
theorem setMany_all (cur vs:Array Value) (h:cur.size=vs.size):setMany cur 0 vs.toList=vs:=by
 have:=setMany_mid vs.toList [] cur.toList [] (by simpa using h)
 simpa using this
structure LayF (F:Nat→Prop) (w wr:World) (l:List (Nat × TypeId × Array Value)):Prop where
 chg:Chg F w wr
 row:∀ x ∈ l,wr.heap[x.1]?=some (.cells x.2.2 x.2.1 (0,0))
 own:∀ x ∈ l,w.heap.size≤x.1
 nd:(l.map (·.1)).Nodup
section
variable {F G:Nat→Prop} {w wr w':World} {l:List (Nat × TypeId × Array Value)}
theorem LayF.refl (F:Nat→Prop) (w:World):LayF F w w []:=⟨Chg.refl,by simp,by simp,by simp⟩
theorem LayF.lt (h:LayF F w wr l) {x:Nat × TypeId × Array Value} (hx:x ∈ l):x.1<wr.heap.size:=by
 have:=h.row x hx;rcases Nat.lt_or_ge x.1 wr.heap.size with h | h
 ·exact h
 ·rw [Array.getElem?_eq_none h] at this; cases this
theorem LayF.size (h:LayF F w wr l):w.heap.size≤wr.heap.size:=h.chg.size
theorem LayF.chg2 (h:LayF F w wr l) (hb:Chg G wr w') (hG:∀ k,G k→F k∨w.heap.size≤k) (hn:∀ x ∈ l,¬ G x.1):LayF F w w' l :=
 ⟨⟨hb.os.trans h.chg.os,hb.tape.trans h.chg.tape,hb.output.trans h.chg.output,Nat.le_trans h.size hb.size,fun k hk hf=>(hb.block k (Nat.lt_of_lt_of_le hk h.size) (fun hg=>(hG k hg).elim hf (fun h2=>by omega))).trans (h.chg.block k hk hf)⟩,
  fun x hx=>(hb.block _ (h.lt hx) (hn x hx)).trans (h.row x hx),h.own,h.nd⟩
theorem LayF.step (h:LayF F w wr l) (hb:Below wr.heap.size wr w'):LayF F w w' l:=h.chg2 (G:=fun _=>False) (Chg.of_below hb) (fun _ h=>h.elim) (fun _ _ h=>h)
theorem LayF.drew (h:LayF F w wr l):LayF F w wr.drew l:=h.step (Below.refl _ _).drew
theorem LayF.alloc' (h:LayF F w wr l) (n:Nat) (cs:Array Value) (T:TypeId) (hn:wr.heap.size=n):LayF F w (wr.alloc (.cells cs T)) ((n,T,cs) :: l):=by
 subst hn;have hs:=h.step ((Below.refl wr.heap.size wr).alloc (Nat.le_refl _) (.cells cs T));refine ⟨hs.chg,fun x hx=>?_,fun x hx=>?_,?_⟩
 ·rcases List.mem_cons.1 hx with rfl | hx
  ·exact heap_alloc_new wr (.cells cs T)
  ·exact hs.row x hx
 ·rcases List.mem_cons.1 hx with rfl | hx
  ·exact h.size
  ·exact h.own x hx
 ·rw [List.map_cons,List.nodup_cons]
  refine ⟨fun hm=>?_,h.nd⟩;obtain ⟨x,hx,he⟩:=List.mem_map.1 hm;have:=h.lt hx;omega
theorem LayF.at_ (h:LayF F w wr l) (i:Nat) {b:Nat} {T:TypeId} {cs:Array Value} (hi:l[i]?=some (b,T,cs)):wr.heap[b]?=some (.cells cs T (0,0)):=h.row _ (List.mem_of_getElem? hi)
theorem LayF.cell (h:LayF F w wr l) (i:Nat) {b:Nat} {T:TypeId} {cs:Array Value} (hi:l[i]?=some (b,T,cs)) (k:Nat):wr.cell? ⟨b,k,none⟩=cs[k]?:=cell_of_row _ _ k _ _ _ (h.at_ i hi)
theorem LayF.frozen (h:LayF F w wr l) (i:Nat) {b:Nat} {T:TypeId} {cs:Array Value} (hi:l[i]?=some (b,T,cs)) (k:Nat):wr.frozen? ⟨b,k,none⟩=false:=frozen_of_row _ _ k _ _ (h.at_ i hi)
theorem LayF.c6 (h:LayF F w wr l) (i:Nat) {b:Nat} {T:TypeId} {c0 c1 c2 c3 c4 c5:Value} (hi:l[i]?=some (b,T,#[c0,c1,c2,c3,c4,c5])) :
  wr.cell? ⟨b,0,none⟩=some c0∧wr.cell? ⟨b,1,none⟩=some c1∧wr.cell? ⟨b,2,none⟩=some c2∧wr.cell? ⟨b,3,none⟩=some c3∧wr.cell? ⟨b,4,none⟩=some c4∧wr.cell? ⟨b,5,none⟩=some c5 :=
 ⟨h.cell i hi 0,h.cell i hi 1,h.cell i hi 2,h.cell i hi 3,h.cell i hi 4,h.cell i hi 5⟩
theorem LayF.c8 (h:LayF F w wr l) (i:Nat) {b:Nat} {T:TypeId} {c0 c1 c2 c3 c4 c5 c6 c7:Value} (hi:l[i]?=some (b,T,#[c0,c1,c2,c3,c4,c5,c6,c7])) :
  wr.cell? ⟨b,0,none⟩=some c0∧wr.cell? ⟨b,1,none⟩=some c1∧wr.cell? ⟨b,2,none⟩=some c2∧wr.cell? ⟨b,3,none⟩=some c3∧wr.cell? ⟨b,4,none⟩=some c4∧wr.cell? ⟨b,5,none⟩=some c5∧wr.cell? ⟨b,6,none⟩=some c6∧wr.cell? ⟨b,7,none⟩=some c7 :=
 ⟨h.cell i hi 0,h.cell i hi 1,h.cell i hi 2,h.cell i hi 3,h.cell i hi 4,h.cell i hi 5,h.cell i hi 6,h.cell i hi 7⟩
theorem LayF.range (h:LayF F w wr l) (i:Nat) {b:Nat} {T:TypeId} {cs:Array Value} (hi:l[i]?=some (b,T,cs)):wr.rangeAt b 0 cs.toList:=fun j v hv=>by
 rw [Nat.zero_add,h.cell i hi j]; simpa using hv
theorem LayF.there (h:LayF F w wr l) (i:Nat) {b:Nat} {T:TypeId} {cs:Array Value} (hi:l[i]?=some (b,T,cs)) (n:Nat) (hn:n=cs.size):wr.there b 0 n:=fun j hj=>by
 rw [Nat.zero_add,h.cell i hi j,h.frozen i hi j,Array.getElem?_eq_getElem (by omega)];exact ⟨rfl,rfl⟩
theorem nd_set {l:List (Nat × TypeId × Array Value)} {i b:Nat} {T:TypeId} {cs cs':Array Value} (hi:l[i]?=some (b,T,cs)):(l.set i (b,T,cs')).map (·.1)=l.map (·.1):=by
 rw [List.map_set];apply List.ext_getElem?;intro j;rw [List.getElem?_set]
 split
 ·rename_i e
  subst e;rw [List.getElem?_map,hi]
  split
  ·rfl
  ·rename_i hh
   exfalso;apply hh;rw [List.length_map];exact (List.getElem?_eq_some_iff.1 hi).1
 ·rfl
theorem LayF.turn (h:LayF F w wr l) (i:Nat) {b:Nat} {T:TypeId} {cs cs':Array Value} (hi:l[i]?=some (b,T,cs)) (hc:Chg (fun k=>k=b) wr w') (hb:w'.heap[b]?=some (.cells cs' T (0,0))):LayF F w w' (l.set i (b,T,cs')):=by
 have hm:=List.mem_of_getElem? hi;have hown:=h.own _ hm;refine ⟨⟨hc.os.trans h.chg.os,hc.tape.trans h.chg.tape,hc.output.trans h.chg.output,Nat.le_trans h.size hc.size,fun k hk hf=>(hc.block k (Nat.lt_of_lt_of_le hk h.size) (fun e=>by simp only at hown; omega)).trans (h.chg.block k hk hf)⟩,fun x hx=>?_,fun x hx=>?_,?_⟩
 ·obtain ⟨j,hj⟩:=List.mem_iff_getElem?.1 hx
  rw [List.getElem?_set] at hj
  split at hj
  ·split at hj
   ·cases hj; exact hb
   ·cases hj
  ·rename_i e
   have hne:x.1≠b:=by
    intro he;have h1:(l.map (·.1))[i]?=some b:=by rw [List.getElem?_map,hi]; rfl
    have h2:(l.map (·.1))[j]?=some b:=by rw [List.getElem?_map,hj]; simp [he]
    obtain ⟨l1,h1⟩:=List.getElem?_eq_some_iff.1 h1;obtain ⟨l2,h2⟩:=List.getElem?_eq_some_iff.1 h2;exact e ((List.getElem_inj h.nd).1 (h1.trans h2.symm))
   have hx':=List.mem_of_getElem? hj;rw [hc.block _ (h.lt hx') hne];exact h.row x hx'
 ·rcases List.mem_or_eq_of_mem_set hx with hx | rfl
  ·exact h.own x hx
  ·exact hown
 ·rw [nd_set hi]; exact h.nd
theorem LayF.set (h:LayF F w wr l) (i:Nat) {b:Nat} {T:TypeId} {cs:Array Value} (hi:l[i]?=some (b,T,cs)) (k:Nat) (v:Value):LayF F w (wr.setCell ⟨b,k,none⟩ v) (l.set i (b,T,cs.setIfInBounds k v)) :=
 h.turn i hi (Chg.setCell (F:=fun k=>k=b) Chg.refl (.inl rfl) _) (heap_setCell_same _ _ k _ _ v (h.at_ i hi))
theorem LayF.put (h:LayF F w wr l) (i:Nat) {b:Nat} {T:TypeId} {cs:Array Value} (hi:l[i]?=some (b,T,cs)) (vs:Array Value) (hs:cs.size=vs.size):LayF F w (wr.setCells b 0 vs.toList) (l.set i (b,T,vs)) :=
 h.turn i hi (Chg.setCells (F:=fun k=>k=b) Chg.refl (.inl rfl) _ _) (by rw [heap_setCells_row b T vs.toList 0 wr cs (h.at_ i hi),setMany_all _ _ hs])
end
end Go.Proofs.YtagndjihiklmiaaGreatDoor
namespace Go.Proofs.YtagndjihiklmiaaGreatDoor
open Go.RowKit
section
variable {F S:Nat→Prop} {w:World} {TD TP:TypeId} {b:Nat} {d:Dv}
theorem devCells_flush (d:Dv) (wv lv:Value) (h1:d.kept.length=32) (h2:d.now.length=32):setMany (devCells d wv lv).toArray 0 (d.now.map .string)=(devCells { d with kept:=d.now } wv lv).toArray:=by
 have:=setMany_mid (d.now.map .string) [] (d.kept.map .string) (d.now.map .string ++ [wv,lv]) (by simp [h1,h2])
 simpa [devCells] using this
theorem devCells_back (d:Dv) (wv lv:Value) (h1:d.kept.length=32) (h2:d.now.length=32):setMany (devCells d wv lv).toArray 32 (d.kept.map .string)=(devCells { d with now:=d.kept } wv lv).toArray:=by
 have:=setMany_mid (d.kept.map .string) (d.kept.map .string) (d.now.map .string) [wv,lv] (by simp [h1,h2])
 simpa [devCells,h1] using this
theorem DevAt.row (h:DevAt TD TP S F w b d):∃ wv lv,w.heap[b]?=some (.cells (devCells d wv lv).toArray TD (0,0)):=by
 obtain ⟨_,_,_,wv,lv,_,h,_⟩:=h; exact ⟨wv,lv,h⟩
theorem range_now (h1:d.kept.length=32) {wv lv:Value} (hrow:w.heap[b]?=some (.cells (devCells d wv lv).toArray TD (0,0))):w.rangeAt b 32 (d.now.map .string):=fun j v hv=>by
 rw [cell_of_row _ _ _ _ _ _ hrow];rw [List.getElem?_map] at hv;obtain ⟨s,hs,rfl⟩:=Option.map_eq_some_iff.1 hv
 simpa using devCells_at_now d wv lv h1 j s hs
theorem range_kept {wv lv:Value} (hrow:w.heap[b]?=some (.cells (devCells d wv lv).toArray TD (0,0))):w.rangeAt b 0 (d.kept.map .string):=fun j v hv=>by
 rw [cell_of_row _ _ _ _ _ _ hrow];have hlt:j<d.kept.length:=by simpa using (List.getElem?_eq_some_iff.1 hv).1
 simp only [List.getElem?_toArray,Nat.zero_add];unfold devCells;rw [List.getElem?_append_left (by simpa using hlt)];exact hv
theorem there_of_row {cs:Array Value} (hrow:w.heap[b]?=some (.cells cs TD (0,0))) (o n:Nat) (h:o+n≤cs.size):w.there b o n:=fun j hj=>by
 rw [cell_of_row _ _ _ _ _ _ hrow,frozen_of_row _ _ _ _ _ hrow,Array.getElem?_eq_getElem (by omega)];exact ⟨rfl,rfl⟩
end
theorem devbusy_any (S F:Nat→Prop) (w:World) (b:Nat) (d:Dv) (h:DevAt TDp TPp S F w b d) (h2:d.l.length≤2) :
  Calls Tryz.prog 100 #[.pointer (some ⟨b,0,none⟩)] w (fun e w'=>∃ v,e=.returned v∧ReqsAt (fun b=>S b∨w.heap.size≤b) w' v d.l∧Below w.heap.size w w'):=by
 obtain ⟨hb,hk,hn,wv,lv,cs,hrow,hw,hl,hcs,hok⟩:=h;have hlen:cs.length=d.l.length:=by rw [← hcs,List.length_map]
 obtain ⟨A,cap,rfl,hc1,hc2⟩:=hl.form;have c65:w.cell? ⟨b,65,none⟩=some (.slice A cs.length cap):=by rw [cell_of_row _ _ _ _ _ _ hrow]; simpa using devCells_at_l d wv _ hk hn
 have Hl:=Lib.hid hl.rd;have Hone:Hid (∀ u ∈ cs.flatMap Rc.cells,u.oneCell'=true):=fun u hu=>by obtain ⟨c,hc,hu⟩:=List.mem_flatMap.1 hu; exact rc_one S (hok c hc) u hu
 have Hok:=Lib.hid hok;have Hcs:=Lib.hid hcs;have Hlen:=Lib.hid hlen;clear hrow hw hl hcs hok hlen;go_enter Tryz.func100,Tryz.ntmps100;go_wp2_with fail;refine (clone_any F _ _ _ _ Hl.out Hone.out (by rw [Hlen.out]; omega)).mono ?_;rintro e w1 ⟨v,rfl,hown,hb1⟩;obtain ⟨A1,c1,rfl⟩:=own_sl (own_lo hown (Nat.zero_le _));have Hown:=Lib.hid hown;clear hown;go_wp2_with fail;go_ret;refine ⟨_,rfl,⟨cs,Hcs.out,Rd.of_own _ (fun b hb=>.inr hb) Hown.out,fun c hc=>((Hok.out c hc).below hb1).more (fun b hb=>.inl hb)⟩,hb1⟩
theorem devflush_any (S F:Nat→Prop) (w:World) (b:Nat) (d:Dv) (h:DevAt TDp TPp S F w b d) (hSF:∀ k,S k→¬ F k) :
  Calls Tryz.prog 160 #[.pointer (some ⟨b,0,none⟩)] w (fun e w'=>e=.returned (.tuple #[])∧DevAt TDp TPp S F w' b d.flush∧Chg F w w'∧w'.heap.size=w.heap.size):=by
 obtain ⟨hb,hk,hn,wv,lv,cs,hrow,hw,hl,hcs,hok⟩:=h;have HR:Hid (w.rangeAt b 32 (d.now.map .string)):=range_now hk hrow;have HT:Hid (w.there b 0 (d.now.map Value.string).toArray.size):=there_of_row hrow 0 _ (by rw [List.size_toArray,List.size_toArray,List.length_map,devCells_len _ _ _ hk hn]; omega);have Hs:Hid ((Tryz.prog.info? 48).map (·.size)=some (d.now.map Value.string).length):=show _=_ by rw [List.length_map,hn]; kernel_rfl
 have H1:Hid ((d.now.map Value.string).toArray.all (·.oneCell')=true):=all_oneCell_toArray (fun v hv=>by obtain ⟨s,_,rfl⟩:=List.mem_map.1 hv; rfl);have hrow1:=heap_setCells_row b _ (d.now.map .string) 0 w _ hrow;rw [devCells_flush d wv lv hk hn] at hrow1
 obtain ⟨W1,hW1⟩:∃ u,w.setCells b 0 (d.now.map .string)=u:=⟨_,rfl⟩
 rw [hW1] at hrow1;have c64:W1.cell? ⟨b,64,none⟩=some wv:=by rw [cell_of_row _ _ _ _ _ _ hrow1]; simpa using devCells_at_w { d with kept:=d.now } wv lv hn hn
 have f64:W1.frozen? ⟨b,64,none⟩=false:=frozen_of_row _ _ _ _ _ hrow1;have Hchg:Hid (Chg F w W1):=hW1▸Chg.refl.setCells (.inl hb) _ _;have Hsz:Hid (W1.heap.size=w.heap.size):=by rw [← hW1]; exact (setCells_rest b _ 0 w).2.2.2
 have Hother:Hid (∀ k,k≠b→W1.heap[k]?=w.heap[k]?):=fun k hk=>by rw [← hW1]; exact heap_setCells_other b k hk _ _ _
 have Hrow1:=Lib.hid hrow1;have Hrow:=Lib.hid hrow;have Hl:=Lib.hid hl;have Hcs:=Lib.hid hcs;have Hok:=Lib.hid hok;have HS:=Lib.hid hSF;have Hb:=Lib.hid hb;have Hk:=Lib.hid hk;have Hn:=Lib.hid hn;have HW:=Lib.hid hW1;clear hrow1 hrow hl hcs hok hSF hb hk hn hw hW1;go_enter Tryz.func160,Tryz.ntmps160
 go_wp2_with (first
  |(refine wpList_load_mid rfl 48 (.tmp 6) rfl b 32 rfl (d.now.map .string) _ HR.out Tryz.underlying48 rfl Hs.out ?_)
  |(refine wpList_store_mid rfl 48 (.tmp 9) (.tmp 7) rfl b 0 (d.now.map Value.string).toArray rfl rfl HT.out (by rw [List.size_toArray]; exact Hs.out) H1.out ?_
    rw [show w.setCells b 0 (d.now.map Value.string).toArray.toList=W1 from HW.out]))
 go_end0;have hsz:(W1.setCell ⟨b,64,none⟩ (.slice none 0 0)).heap.size=W1.heap.size:=by simp [World.setCell]
 have hother:∀ k,k≠b→(W1.setCell ⟨b,64,none⟩ (.slice none 0 0)).heap[k]?=w.heap[k]?:=fun k hk=>(Below.heap_setCell _ _ _ _ hk).trans (Hother.out k hk)
 refine ⟨rfl,⟨Hb.out,Hn.out,Hn.out,.slice none 0 0,lv,cs,?_,Ow.nil,?_,Hcs.out,fun c hm=>(Hok.out c hm).keep (fun k hs _=>hother k (fun e=>HS.out k hs (e▸Hb.out)))⟩,Hchg.out.setCell (.inl Hb.out) _,hsz.trans Hsz.out⟩
 ·rw [heap_setCell_same _ _ _ _ _ _ Hrow1.out,devCells_set_w { d with kept:=d.now } _ _ _ Hn.out Hn.out]; rfl
 ·exact ⟨own_keepD Hl.out.1 (fun k hv=>hother k (own_ne Hl.out.1 Hrow.out (by decide) k hv)),Hl.out.2⟩
theorem rdevflush_any (S F:Nat→Prop) (w:World) (b:Nat) (d:Dv) (h:DevAt TDr TPr S F w b d) (hSF:∀ k,S k→¬ F k) :
  Calls Tryz.prog 103 #[.pointer (some ⟨b,0,none⟩)] w (fun e w'=>e=.returned (.tuple #[])∧DevAt TDr TPr S F w' b d.flush∧Chg F w w'∧w'.heap.size=w.heap.size):=by
 obtain ⟨hb,hk,hn,wv,lv,cs,hrow,hw,hl,hcs,hok⟩:=h;have HR:Hid (w.rangeAt b 32 (d.now.map .string)):=range_now hk hrow;have HT:Hid (w.there b 0 (d.now.map Value.string).toArray.size):=there_of_row hrow 0 _ (by rw [List.size_toArray,List.size_toArray,List.length_map,devCells_len _ _ _ hk hn]; omega);have Hs:Hid ((Tryz.prog.info? 48).map (·.size)=some (d.now.map Value.string).length):=show _=_ by rw [List.length_map,hn]; kernel_rfl
 have H1:Hid ((d.now.map Value.string).toArray.all (·.oneCell')=true):=all_oneCell_toArray (fun v hv=>by obtain ⟨s,_,rfl⟩:=List.mem_map.1 hv; rfl);have hrow1:=heap_setCells_row b _ (d.now.map .string) 0 w _ hrow;rw [devCells_flush d wv lv hk hn] at hrow1
 obtain ⟨W1,hW1⟩:∃ u,w.setCells b 0 (d.now.map .string)=u:=⟨_,rfl⟩
 rw [hW1] at hrow1;have c64:W1.cell? ⟨b,64,none⟩=some wv:=by rw [cell_of_row _ _ _ _ _ _ hrow1]; simpa using devCells_at_w { d with kept:=d.now } wv lv hn hn
 have f64:W1.frozen? ⟨b,64,none⟩=false:=frozen_of_row _ _ _ _ _ hrow1;have Hchg:Hid (Chg F w W1):=hW1▸Chg.refl.setCells (.inl hb) _ _;have Hsz:Hid (W1.heap.size=w.heap.size):=by rw [← hW1]; exact (setCells_rest b _ 0 w).2.2.2
 have Hother:Hid (∀ k,k≠b→W1.heap[k]?=w.heap[k]?):=fun k hk=>by rw [← hW1]; exact heap_setCells_other b k hk _ _ _
 have Hrow1:=Lib.hid hrow1;have Hrow:=Lib.hid hrow;have Hl:=Lib.hid hl;have Hcs:=Lib.hid hcs;have Hok:=Lib.hid hok;have HS:=Lib.hid hSF;have Hb:=Lib.hid hb;have Hk:=Lib.hid hk;have Hn:=Lib.hid hn;have HW:=Lib.hid hW1;clear hrow1 hrow hl hcs hok hSF hb hk hn hw hW1;go_enter Tryz.func103,Tryz.ntmps103
 go_wp2_with (first
  |(refine wpList_load_mid rfl 48 (.tmp 5) rfl b 32 rfl (d.now.map .string) _ HR.out Tryz.underlying48 rfl Hs.out ?_)
  |(refine wpList_store_mid rfl 48 (.tmp 8) (.tmp 6) rfl b 0 (d.now.map Value.string).toArray rfl rfl HT.out (by rw [List.size_toArray]; exact Hs.out) H1.out ?_
    rw [show w.setCells b 0 (d.now.map Value.string).toArray.toList=W1 from HW.out]))
 go_end0;have hsz:(W1.setCell ⟨b,64,none⟩ (.slice none 0 0)).heap.size=W1.heap.size:=by simp [World.setCell]
 have hother:∀ k,k≠b→(W1.setCell ⟨b,64,none⟩ (.slice none 0 0)).heap[k]?=w.heap[k]?:=fun k hk=>(Below.heap_setCell _ _ _ _ hk).trans (Hother.out k hk)
 refine ⟨rfl,⟨Hb.out,Hn.out,Hn.out,.slice none 0 0,lv,cs,?_,Ow.nil,?_,Hcs.out,fun c hm=>(Hok.out c hm).keep (fun k hs _=>hother k (fun e=>HS.out k hs (e▸Hb.out)))⟩,Hchg.out.setCell (.inl Hb.out) _,hsz.trans Hsz.out⟩
 ·rw [heap_setCell_same _ _ _ _ _ _ Hrow1.out,devCells_set_w { d with kept:=d.now } _ _ _ Hn.out Hn.out]; rfl
 ·exact ⟨own_keepD Hl.out.1 (fun k hv=>hother k (own_ne Hl.out.1 Hrow.out (by decide) k hv)),Hl.out.2⟩
theorem dev_new (TD TP:TypeId) (S F:Nat→Prop) {w:World} {b:Nat} (h:w.heap[b]?=some (.cells (devCells Dv.new (.slice none 0 0) (.slice none 0 0)).toArray TD (0,0))) (hb:F b):DevAt TD TP S F w b Dv.new :=
 ⟨hb,rfl,rfl,_,_,[],h,Ow.nil,Ow.nil,rfl,by simp⟩
theorem devnew_any (w:World) :
  Calls Tryz.prog 34 #[] w (fun e w'=>e=.returned (.pointer (some ⟨w.heap.size,0,none⟩))∧(∀ S,DevAt TDp TPp S (fun k=>k=w.heap.size) w' w.heap.size Dv.new)∧Below w.heap.size w w'∧w'.heap.size=w.heap.size+1):=by
 go_enter Tryz.func34,Tryz.ntmps34;go_wp2_with fail;go_ret;exact ⟨rfl,fun S=>dev_new _ _ _ _ (heap_alloc_new _ _) rfl,(Below.refl _ _).alloc (Nat.le_refl _) _,by simp⟩
end Go.Proofs.YtagndjihiklmiaaGreatDoor
namespace Go.Proofs.YtagndjihiklmiaaGreatDoor
open Go.RowKit
abbrev tMap:TypeId:=100
theorem tMap_u:Tryz.prog.underlying tMap=some (.map 3 3):=Tryz.underlying100
theorem int_u:Tryz.prog.underlying 3=some (.int .i64):=Tryz.underlying3
theorem int_zero (w:World):(zeroValue 3).run Tryz.prog w=.ok (.int .i64 0) w:=by kernel_rfl
def MapAt (w:World) (b n:Nat) (f:Int→Int):Prop :=
 ∃ D:DataW Unit,w.ownsMap Tryz.prog 3 (plainElem Tryz.prog 3) b n D∧Maps.IsMap D∧∀ k:Int,i64 k→D.atKey (.int .i64 k) (.lit (.int .i64 0))=.lit (.int .i64 (f k))
theorem wf_i64 {n:Int} (h:i64 n):(Lit.int .i64 n).wf=true:=by
 unfold i64 at h;simp [Lit.wf,IntKind.min,IntKind.max,IntKind.signed,IntKind.bits];omega
theorem key_i64 {n:Int} (h:i64 n):keyOf Tryz.prog 3 (.int .i64 n)=some (.int .i64 n):=by
 simp [keyOf,mapKey,int_u,wf_i64 h]
def upd (f:Int→Int) (k v:Int):Int→Int:=fun j=>if j=k then v else f j
section
variable {w w':World} {b n:Nat} {f:Int→Int} {k v:Int}
theorem MapAt.made (w:World):MapAt (w.alloc (.map #[] 0)) w.heap.size 0 (fun _=>0):=⟨.map [],World.ownsMap_made _ _ _ _,Maps.isMap_empty,fun k _=>rfl⟩
theorem MapAt.mono {m:Nat} (h:MapAt w b n f) (hm:n≤m):MapAt w b m f:=by
 obtain ⟨D,h1,h2⟩:=h;exact ⟨D,h1.mono hm,h2⟩
theorem MapAt.lt (h:MapAt w b n f):b<w.heap.size:=by obtain ⟨D,h,_⟩:=h; exact h.lt
theorem MapAt.keep (h:MapAt w b n f) (hk:w'.heap[b]?=w.heap[b]?):MapAt w' b n f:=by
 obtain ⟨D,⟨es,clock,hb,rest⟩,h2⟩:=h;exact ⟨D,⟨es,clock,hk.trans hb,rest⟩,h2⟩
theorem MapAt.lookup (h:MapAt w b n f) (hk:i64 k):(Instr.lookup tMap (.map (some b)) (.int .i64 k) false).run Tryz.prog w=.ok (.int .i64 (f k)) w:=by
 obtain ⟨D,h1,h2,h3⟩:=h;obtain ⟨c,hrun,hat,_⟩:=h1.lookup_int (Maps.int_keyed int_u) tMap_u int_u (int_zero w) (key_i64 hk);rw [h3 k hk] at hat;simp only [DataW.lit.injEq,Lit.int.injEq,true_and] at hat;rw [hrun,hat]
theorem MapAt.update (h:MapAt w b n f) (hk:i64 k) (hv:i64 v) (hn:n<1000000000):∃ w',(Instr.mapUpdate tMap (.map (some b)) (.int .i64 k) (.int .i64 v)).run Tryz.prog w=.ok () w'∧MapAt w' b (n+1) (upd f k v)∧w.grownBy w' (some b):=by
 obtain ⟨D,h1,h2,h3⟩:=h;obtain ⟨w',hrun,ho,hg⟩:=h1.update (Maps.int_keyed int_u) tMap_u (by simp only [maxLen]; omega) (key_i64 hk) (plainElem_int int_u (wf_i64 hv));refine ⟨w',hrun,⟨_,ho,h2.put _ _,fun j hj=>?_⟩,hg⟩;unfold upd;by_cases e:j=k
 ·subst e
  rw [if_pos rfl,Maps.atKey_put_same h2 ((Maps.int_keyed int_u).key (key_i64 hk))]
 ·rw [if_neg e,Maps.atKey_put_other (by simpa using e)]
  exact h3 j hj
theorem MapAt.drop (h:MapAt w b n f) (hk:i64 k) (ty:TypeId):∃ w',(Builtin.delete_ #[tMap,3] ty #[.map (some b),.int .i64 k]).run Tryz.prog w=.ok (.tuple #[]) w'∧MapAt w' b n (upd f k 0)∧w.grownBy w' (some b):=by
 obtain ⟨D,h1,h2,h3⟩:=h;obtain ⟨w',hrun,ho,ht⟩:=h1.drop (Maps.int_keyed int_u) tMap_u (key_i64 hk) ty;refine ⟨w',hrun,⟨_,ho,h2.del _,fun j hj=>?_⟩,?_⟩
 ·unfold upd
  by_cases e:j=k
  ·subst e
   rw [if_pos rfl,Maps.atKey_del_same]
  ·rw [if_neg e,Maps.atKey_del_other (by simpa using e)]
   exact h3 j hj
 ·exact ht.grown
end
theorem wpList_drop {ops:Array Oper} {rest:List Oper} {o:Oper} {a:Act} {Q:Exit→Act→World→Prop} (w:World) (hg:o.guard=none) (m x:Operand) (hop:o.op=Op.call { callee:=Callee.builtin Builtin.delete,args:=#[m,x],argTypes:=#[tMap,3] })
  (b n:Nat) (f:Int→Int) (k:Int) (hm:a.eval m=.map (some b)) (hx:a.eval x=.int .i64 k) (h:MapAt w b n f) (hk:i64 k)
  (hK:∀ w',MapAt w' b n (upd f k 0)→w.grownBy w' (some b)→wpList Tryz.prog ops Q rest (a.put o.dst (.tuple #[])) w'):wpList Tryz.prog ops Q (o :: rest) a w:=by
 refine wpList_plain hg fun K' hK'=>?_;obtain ⟨w',hrun,r1,r2⟩:=h.drop hk o.type;unfold Oper.wp;simp [execOp,hop,resolve,invoke,builtin,hm,hx,hrun,Result.andThen];exact hK' _ _ (hK w' r1 r2)
theorem wpList_upd {ops:Array Oper} {rest:List Oper} {o:Oper} {a:Act} {Q:Exit→Act→World→Prop} (w:World) (hg:o.guard=none) (m x y:Operand) (hop:o.op=Op.mapUpdate tMap m x y)
  (b n:Nat) (f:Int→Int) (k v:Int) (hm:a.eval m=.map (some b)) (hx:a.eval x=.int .i64 k) (hy:a.eval y=.int .i64 v) (h:MapAt w b n f) (hk:i64 k) (hv:i64 v) (hn:n<1000000000)
  (hK:∀ w',MapAt w' b (n+1) (upd f k v)→w.grownBy w' (some b)→wpList Tryz.prog ops Q rest (a.put o.dst undef) w'):wpList Tryz.prog ops Q (o :: rest) a w:=by
 refine wpList_plain hg fun K' hK'=>?_;obtain ⟨w',hrun,r1,r2⟩:=h.update hk hv hn;unfold Oper.wp;simp [execOp,hop,hm,hx,hy,hrun,Result.andThen];exact hK' _ _ (hK w' r1 r2)
end Go.Proofs.YtagndjihiklmiaaGreatDoor
namespace Go.Proofs.YtagndjihiklmiaaGreatDoor
theorem ReqOk.size {r:Rq} (h:ReqOk r):∀ s ∈ r.data,s.size≤4:=fun s hs=>by
 have:=h.data;unfold dataOk at this;rw [List.all_eq_true] at this
 simpa using this s hs
theorem ReqOk.nats {r:Rq} (h:ReqOk r):∃ p n:Nat,r.lo=(p:Int)∧r.many=(n:Int)∧p+n≤32∧1≤n∧n≤4:=by
 have h1:=h.span;unfold SpanOk at h1;exact ⟨r.lo.toNat,r.many.toNat,by omega,by omega,by omega,by omega,by omega⟩
theorem ReqOk.len {r:Rq} (h:ReqOk r) (hw:r.write=true):(r.data.length:Int)=r.many:=by
 have:=h.shape;unfold shapeOk at this
 rwa [if_pos hw] at this
theorem DvOk.new:DvOk Dv.new:=by
 have h0:∀ s ∈ List.replicate 32 (⟨#[]⟩:ByteArray),s.size≤16:=fun s hs=>by
  obtain rfl:=List.eq_of_mem_replicate hs;exact Nat.zero_le _
 exact ⟨rfl,rfl,h0,h0,by simp [Dv.new],by simp [Dv.new],by simp [Dv.new]⟩
theorem DvOk.start {d:Dv} {r:Rq} (h:DvOk d) (hr:reqF r=0):DvOk (d.start r).1:=by
 unfold Dv.start
 split
 ·exact h
 ·rename_i h2
  refine ⟨h.kept,h.now,h.keptS,h.nowS,h.waits,fun x hx=>?_,?_⟩
  ·rcases List.mem_append.1 hx with hx | hx
   ·exact h.l x hx
   ·simp at hx; subst hx; exact hr
  ·have:=h.two
   simp only [List.length_append,List.length_cons,List.length_nil];omega
theorem start_waits (d:Dv) (r:Rq):(d.start r).1.waits=d.waits:=by
 unfold Dv.start; split <;> rfl
theorem DvOk.put {d:Dv} (h:DvOk d) {p:Nat} {s:ByteArray} (hp:p<32) (hs:s.size≤16):DvOk (d.put p s):=by
 refine ⟨h.kept,by simpa [Dv.put] using h.now,h.keptS,fun x hx=>?_,fun x hx=>?_,h.l,h.two⟩
 ·rcases List.mem_or_eq_of_mem_set hx with hx | rfl
  ·exact h.nowS x hx
  ·exact hs
 ·rcases List.mem_append.1 hx with hx | hx
  ·exact h.waits x hx
  ·simp at hx; subst hx; exact ⟨hp,hs⟩
theorem DvOk.wrote:∀ {l:List ByteArray} {d:Dv} {p:Nat},DvOk d→p+l.length≤32→(∀ s ∈ l,s.size≤16)→DvOk (d.wrote p l)
 | [],_,_,h,_,_=>h
 |s :: l,d,p,h,hp,hs=>by
  simp only [List.length_cons] at hp;rw [Dv.wrote];exact DvOk.wrote (d:=d.put p s) (p:=p+1) (h.put (by omega) (hs s (by simp))) (by omega) (fun x hx=>hs x (by simp [hx]))
theorem DvOk.drop {d:Dv} (h:DvOk d) (i:Nat):DvOk (d.drop i) :=
 ⟨h.kept,h.now,h.keptS,h.nowS,h.waits,fun r hr=>h.l r (List.mem_of_mem_eraseIdx hr),Nat.le_trans (List.length_eraseIdx_le _ _) h.two⟩
theorem DvOk.ended {d:Dv} (h:DvOk d) {r:Rq} (hr:ReqOk r) (i:Nat) (f:Bool):DvOk (d.ended r i f).1∧(d.ended r i f).1.waits.length≤d.waits.length+4:=by
 unfold Dv.ended
 split
 ·exact ⟨h.drop i,by simp [Dv.drop]⟩
 ·split
  ·rename_i hw
   obtain ⟨p,n,h1,h2,h3,_,h4⟩:=hr.nats;have h5:=hr.len hw;refine ⟨(h.drop i).wrote (by rw [h1]; simp; omega) (fun s hs=>Nat.le_trans (hr.size s hs) (by omega)),?_⟩;rw [(Dv.wrote_same _ _ _).2.2.2];show d.waits.length+_≤_;omega
  ·exact ⟨h.drop i,by simp [Dv.drop]⟩
theorem DvOk.endAt {d:Dv} (h:DvOk d) (i:Int) (f:Bool):DvOk (d.endAt i f).1∧(d.endAt i f).1.waits.length≤d.waits.length+4:=by
 unfold Dv.endAt
 split
 ·exact ⟨h,by simp⟩
 ·cases hr:d.l[i.toNat]? with
  |none=>exact ⟨h,by simp⟩
  |some r=>exact h.ended (reqF_zero (h.l r (List.mem_of_getElem? hr))) _ _
theorem DvOk.flush {d:Dv} (h:DvOk d):DvOk d.flush:=⟨h.now,h.now,h.nowS,h.nowS,by simp [Dv.flush],h.l,h.two⟩
theorem keepFrom_mem {keep:Nat}:∀ {l:List (Nat × ByteArray)} {K:List ByteArray} {i:Nat} {s:ByteArray},s ∈ Dv.keepFrom keep K l i→s ∈ K∨∃ p ∈ l,p.2=s
 | [],K,i,s,h=>.inl h
 |(p,u) :: l,K,i,s,h=>by
  rw [Dv.keepFrom] at h
  rcases keepFrom_mem h with h | ⟨q,hq,e⟩
  ·split at h
   ·rcases List.mem_or_eq_of_mem_set h with h | rfl
    ·exact .inl h
    ·exact .inr ⟨_,List.mem_cons_self,rfl⟩
   ·exact .inl h
  ·exact .inr ⟨q,by simp [hq],e⟩
theorem DvOk.crash {d:Dv} (h:DvOk d) (keep:Nat):DvOk (d.crash keep):=by
 have hs:∀ s ∈ Dv.keepFrom keep d.kept d.waits 0,s.size≤16:=fun s hs=>by
  rcases keepFrom_mem hs with h1 | ⟨p,hp,rfl⟩
  ·exact h.keptS s h1
  ·exact (h.waits p hp).2
 have hl:(Dv.keepFrom keep d.kept d.waits 0).length=32:=by rw [Dv.keepFrom_len,h.kept]
 exact ⟨hl,hl,hs,hs,by simp [Dv.crash],by simp [Dv.crash],by simp [Dv.crash]⟩
theorem DvOk.nowM {d:Dv} (h:DvOk d):∀ s ∈ d.now,s.size≤maxLen:=fun s hs=>Nat.le_trans (h.nowS s hs) (by simp [maxLen])
theorem endAt_split (d:Dv) (i:Int):(i<0∨(d.l.length:Int)≤i)∨∃ (k:Nat) (r:Rq),i=(k:Int)∧d.l[k]?=some r:=by
 by_cases h:i<0∨(d.l.length:Int)≤i
 ·exact .inl h
 ·obtain ⟨k,rfl⟩:∃ k:Nat,i=(k:Int):=⟨i.toNat,by omega⟩
  exact .inr ⟨k,d.l[k]'(by omega),rfl,List.getElem?_eq_getElem (by omega)⟩
end Go.Proofs.YtagndjihiklmiaaGreatDoor
namespace Go.Proofs.YtagndjihiklmiaaGreatDoor
open Go.RowKit
structure Drv where
 d:Dv
 tries:Int→Int
def tagOf (r:Rq):Int:=r.tags.headD 0
def Drv.endAt (v:Drv) (i:Int) (f:Bool):Drv × Rs × Bool × Nat :=
 let q:=v.d.endAt i f
 if q.2.2≠0 then ({ v with d:=q.1 },zeroRs,false,q.2.2)
 else if q.2.1.err=0 then (⟨q.1,upd v.tries (tagOf q.2.1.req) 0⟩,q.2.1,true,0)
 else if v.tries (tagOf q.2.1.req)+1<3 then (⟨(q.1.start q.2.1.req).1,upd v.tries (tagOf q.2.1.req) (v.tries (tagOf q.2.1.req)+1)⟩,zeroRs,false,(q.1.start q.2.1.req).2)
 else (⟨q.1,upd v.tries (tagOf q.2.1.req) 0⟩,q.2.1,true,0)
structure DrvAt (TD TP TV:TypeId) (S F:Nat→Prop) (w:World) (bv bd bt n:Nat) (v:Drv):Prop where
 row:w.heap[bv]?=some (.cells #[.pointer (some ⟨bd,0,none⟩),.map (some bt)] TV (0,0))
 map:∃ f,MapAt w bt n f∧∀ k,i64 k→f k=v.tries k
 dev:DevAt TD TP S F w bd v.d
 nv:¬ F bv
 nt:¬ F bt
 sv:∀ k,S k→k≠bv∧k≠bt
section
variable {TD TP TV:TypeId} {S F:Nat→Prop} {w w':World} {bv bd bt n:Nat} {v:Drv}
theorem DrvAt.ne (h:DrvAt TD TP TV S F w bv bd bt n v):bv≠bt:=by
 rintro rfl;obtain ⟨f,⟨D,⟨es,clock,hb,_⟩,_⟩,_⟩:=h.map;rw [h.row] at hb
 cases hb
theorem DrvAt.below (h:DrvAt TD TP TV S F w bv bd bt n v) (hb:Below w.heap.size w w'):DrvAt TD TP TV S F w' bv bd bt n v:=by
 obtain ⟨f,hf,hv⟩:=h.map;exact ⟨(hb.block _ (Array.getElem?_eq_some_iff.1 h.row).1).trans h.row,⟨f,hf.keep (hb.block _ hf.lt),hv⟩,h.dev.below hb,h.nv,h.nt,h.sv⟩
end
end Go.Proofs.YtagndjihiklmiaaGreatDoor
