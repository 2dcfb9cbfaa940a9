/- Put: with it in its place; another one may have to go. -/
import Derived.Test.YtaeadmlgffaegaaGreatDoorQ20
set_option linter.unusedSimpArgs false
set_option linter.unusedVariables false
set_option maxRecDepth 100000
set_option maxHeartbeats 8000000
namespace Go.Proofs.YtaeadmlgffaegaaGreatDoor
open Go.RowKit
def RetPut (m:List Bf) (w:World):Ending→World→Prop:=fun e w'=>∃ v,e=.returned (.tuple #[v,.nilIface])∧w'.ownsRow w.heap.size 111 4 v m.length (flatB m)∧Below w.heap.size w w'
theorem flatB_ins (l:List Bf) (b:Bf):(flatB l).take (posB l b.pos * 4) ++ b.cells ++ (flatB l).drop (posB l b.pos * 4)=flatB (insB l b):=by
 rw [flatB_take,flatB_drop]; unfold insB; rw [flatB_app,flatB_cons]; simp [List.append_assoc]
theorem insB_len (l:List Bf) (b:Bf):(insB l b).length=l.length+1:=by
 have:=posB_le l b.pos
 unfold insB; simp; omega
theorem flatB_erase (l:List Bf) (i:Nat):(flatB l).take (i * 4) ++ (flatB l).drop ((i+1) * 4)=flatB (l.eraseIdx i):=by
 rw [flatB_take,flatB_drop,← flatB_app,List.eraseIdx_eq_take_drop_succ]
theorem cellsB_one (b:Bf):∀ u ∈ b.cells,u.oneCell'=true:=by
 intro u hu
 simp only [Bf.cells,List.mem_cons,List.not_mem_nil,or_false] at hu
 rcases hu with rfl | rfl | rfl | rfl <;> rfl
theorem mapPut_at {l:List Bf} (h:Rises l) {b x:Bf} {i:Nat} (hx:l[i]?=some x) (hp:x.pos=b.pos):(l.map fun y=>if y.pos=b.pos then b else y)=l.set i b:=by
 have:=map_one h hx hp (fun y=>if y.pos=b.pos then b else y) (fun y hy=>if_neg hy)
 rw [if_pos hp] at this; exact this
theorem put_there (S:Nat→Prop) (l:List Bf) (v:Value) (b:Bf) (F:Value) (w:World) (h:BufsAt S w v l) (hr:Rises l) (hi:isB l b.pos=true) (hn:l.length≤65536) :
  Calls Tryz.prog 68 #[v,bfV b,F] w (RetPut (l.map fun y=>if y.pos=b.pos then b else y) w):=by
 obtain ⟨A,cap,rfl,h1,h2⟩:=h.form
 unfold maxLen at h2
 have H:=Lib.hid h
 have HR:=Lib.hid hr
 have Hi:=Lib.hid hi
 clear h hr hi
 go_enter Tryz.func68,Tryz.ntmps68
 go_wp2_with fail
 have L:=(Lay.refl w).alloc' w.heap.size #[.int .i64 b.pos,.string b.data,.bool b.dirty,.int .i64 b.used] 111 rfl
 have hz:(w.alloc (.cells #[.int .i64 b.pos,.string b.data,.bool b.dirty,.int .i64 b.used] 111)).heap.size=w.heap.size+1:=by simp
 generalize World.alloc _ _=W at L hz ⊢
 have Hz:=Lib.hid hz
 clear hz
 refine (bclone_any S _ l.length (flatB l) _ (H.out.below L.below).1 (flatB_one l) hn).mono ?_
 rintro e w1 ⟨v1,rfl,hown,hb1⟩
 have Hown:=Lib.hid hown
 have L1:=L.step hb1
 obtain ⟨A1,cp1,rfl,hc1,hc2⟩:=ownB_slice hown
 clear hown L
 obtain ⟨q0,q1,q2,q3⟩:=L1.c4 0 rfl
 clear hb1
 go_wp2_with fail
 refine (find_any (fun _=>True) l _ b.pos _ (bufs_of_own (fun _ _=>trivial) Hown.out H.out.2) HR.out hn).mono ?_
 rintro e w2 ⟨rfl,hb2⟩
 have Ho2:=Lib.hid (own_below Hown.out hb2)
 have L2:=L1.step hb2
 clear hb2 L1 q0 q1 q2 q3
 obtain ⟨q0,q1,q2,q3⟩:=L2.c4 0 rfl
 rw [Hi.out]
 obtain ⟨x,hx,hp⟩:=isB_at HR.out Hi.out
 have hlt:=(List.getElem?_eq_some_iff.1 hx).1
 have hi1:((posB l b.pos:Nat):Int)<(l.length:Int):=by omega
 obtain ⟨g,cp,e,hbg,hgl,_,_⟩:=own_pos Ho2.out (by omega)
 cases e
 have hfr:=own_frozen Ho2.out (by omega)
 obtain ⟨k0,k1,k2,k3⟩:=own_cells4 Ho2.out hx
 have HL:=Lib.hid L2
 have Hx:=Lib.hid hx
 have Hp:=Lib.hid hp
 clear hx hp L2
 go_wp2_with fail
 go_ret2
 have hlen:(l.map fun y=>if y.pos=b.pos then b else y).length=l.length:=by simp
 have hbw:w.heap.size≤g:=by have:=Hz.out; omega
 refine ⟨_,rfl,?_,(((HL.out.below.setCell hbw _).setCell hbw _).setCell hbw _).setCell hbw _⟩
 rw [hlen,mapPut_at HR.out Hx.out Hp.out,← flatB_set hlt b]
 have hj:posB l b.pos * 4+4≤l.length * 4:=by omega
 exact own_lo (ownB_setCell (ownB_setCell (ownB_setCell (ownB_setCell Ho2.out (by omega)) (by omega)) (by omega)) (by omega)) (by have:=Hz.out; omega)
theorem put_room (S:Nat→Prop) (l:List Bf) (v:Value) (b:Bf) (F:Value) (w:World) (h:BufsAt S w v l) (hr:Rises l) (hi:isB l b.pos=false) (hn:l.length<8) :
  Calls Tryz.prog 68 #[v,bfV b,F] w (RetPut (insB l b) w):=by
 obtain ⟨A,cap,rfl,h1,h2⟩:=h.form
 unfold maxLen at h2
 have H:=Lib.hid h
 have HR:=Lib.hid hr
 have Hi:=Lib.hid hi
 clear h hr hi
 go_enter Tryz.func68,Tryz.ntmps68
 go_wp2_with fail
 have L:=(Lay.refl w).alloc' w.heap.size #[.int .i64 b.pos,.string b.data,.bool b.dirty,.int .i64 b.used] 111 rfl
 have hz:(w.alloc (.cells #[.int .i64 b.pos,.string b.data,.bool b.dirty,.int .i64 b.used] 111)).heap.size=w.heap.size+1:=by simp
 generalize World.alloc _ _=W at L hz ⊢
 have Hz:=Lib.hid hz
 clear hz
 refine (bclone_any S _ l.length (flatB l) _ (H.out.below L.below).1 (flatB_one l) (by omega)).mono ?_
 rintro e w1 ⟨v1,rfl,hown,hb1⟩
 have Hown:=Lib.hid hown
 have L1:=L.step hb1
 obtain ⟨A1,cp1,rfl,hc1,hc2⟩:=ownB_slice hown
 clear hown L
 obtain ⟨q0,q1,q2,q3⟩:=L1.c4 0 rfl
 clear hb1
 go_wp2_with fail
 refine (find_any (fun _=>True) l _ b.pos _ (bufs_of_own (fun _ _=>trivial) Hown.out H.out.2) HR.out (by omega)).mono ?_
 rintro e w2 ⟨rfl,hb2⟩
 have Ho2:=Lib.hid (own_below Hown.out hb2)
 have L2:=L1.step hb2
 clear hb2 L1 q0 q1 q2 q3
 obtain ⟨q0,q1,q2,q3⟩:=L2.c4 0 rfl
 rw [Hi.out]
 have hl8:decide ((8:Int)≤(l.length:Int))=false:=by simp; omega
 have Hl8:Hid (l.length<8):=hn
 have HzW:Hid (W.heap.size=w.heap.size+1):=Hz
 have hb3:=(Below.refl w2.heap.size w2).alloc (Nat.le_refl _) (.cells #[.int .i64 b.pos,.string b.data,.bool b.dirty,.int .i64 b.used] 111)
 have hv3:(w2.alloc (.cells #[.int .i64 b.pos,.string b.data,.bool b.dirty,.int .i64 b.used] 111)).heap[w2.heap.size]?=some (.cells b.cells.toArray 111 (0,0)):=heap_alloc_new w2 _
 have hz3:(w2.alloc (.cells #[.int .i64 b.pos,.string b.data,.bool b.dirty,.int .i64 b.used] 111)).heap.size=w2.heap.size+1:=by simp
 go_wp2_with fail
 generalize World.alloc _ _=W3 at hb3 hv3 hz3 ⊢
 have Hb3:=Lib.hid hb3
 have Hz3:=Lib.hid hz3
 clear hz3
 refine (binsert_any W.heap.size _ l.length (posB l b.pos) w2.heap.size (flatB l) b.cells _ (own_below Ho2.out hb3) (flatB_one _) hv3 rfl (cellsB_one b) (fun e=>by have:=(Ho2.out.lt _ e).2; omega) (posB_le _ _) (by have:=Hl8.out; omega) (by have:=Hz3.out; have:=L2.size; have:=HzW.out; omega)).mono ?_
 clear hb3 hv3
 rintro e w4 ⟨v4,rfl,hown4,hg4⟩
 rw [flatB_ins,← insB_len l b] at hown4
 have Hown4:=Lib.hid hown4
 have Hg4:=Lib.hid hg4
 clear hown4 hg4
 go_wp2_with fail
 go_ret2
 refine ⟨v4,rfl,own_lo Hown4.out (by have:=HzW.out; omega),Below.grown (L2.below.trans (Hb3.out.mono L2.size)) Hg4.out (by have:=Hz3.out; have:=L2.size; omega) (fun k hk=>?_)⟩
 have:=(Ho2.out.lt k hk).1
 have:=HzW.out
 omega
theorem put_no (S:Nat→Prop) (l:List Bf) (v:Value) (b:Bf) (f:FuncId) (first caps:Array Value) (held:Int→Bool) (w:World) (h:BufsAt S w v l) (hr:Rises l) (hin:InB l) (hh:HeldBy w f first caps held) (hi:isB l b.pos=false) (hn:8≤l.length) (hm:l.length≤65536) (hv:leastB l false held<0) :
  Calls Tryz.prog 68 #[v,bfV b,.func (.func f) first caps] w (Ret (.tuple #[.slice none 0 0,errV 7]) w):=by
 have HI:=Lib.hid hin
 have HH:=Lib.hid hh
 clear hin hh
 obtain ⟨A,cap,rfl,h1,h2⟩:=h.form
 unfold maxLen at h2
 have H:=Lib.hid h
 have HR:=Lib.hid hr
 have Hi:=Lib.hid hi
 clear h hr hi
 go_enter Tryz.func68,Tryz.ntmps68
 go_wp2_with fail
 have L:=(Lay.refl w).alloc' w.heap.size #[.int .i64 b.pos,.string b.data,.bool b.dirty,.int .i64 b.used] 111 rfl
 have hz:(w.alloc (.cells #[.int .i64 b.pos,.string b.data,.bool b.dirty,.int .i64 b.used] 111)).heap.size=w.heap.size+1:=by simp
 generalize World.alloc _ _=W at L hz ⊢
 have Hz:=Lib.hid hz
 clear hz
 refine (bclone_any S _ l.length (flatB l) _ (H.out.below L.below).1 (flatB_one l) (by omega)).mono ?_
 rintro e w1 ⟨v1,rfl,hown,hb1⟩
 have Hown:=Lib.hid hown
 have L1:=L.step hb1
 obtain ⟨A1,cp1,rfl,hc1,hc2⟩:=ownB_slice hown
 clear hown L
 obtain ⟨q0,q1,q2,q3⟩:=L1.c4 0 rfl
 clear hb1
 go_wp2_with fail
 refine (find_any (fun _=>True) l _ b.pos _ (bufs_of_own (fun _ _=>trivial) Hown.out H.out.2) HR.out (by omega)).mono ?_
 rintro e w2 ⟨rfl,hb2⟩
 have Ho2:=Lib.hid (own_below Hown.out hb2)
 have L2:=L1.step hb2
 clear hb2 L1 q0 q1 q2 q3
 obtain ⟨q0,q1,q2,q3⟩:=L2.c4 0 rfl
 rw [Hi.out]
 have hl8:(8:Int)≤(l.length:Int):=by omega
 go_wp2_with fail
 refine (victim_any (fun _=>True) l _ f first caps held _ (bufs_of_own (fun _ _=>trivial) Ho2.out H.out.2) HI.out (HH.out.step L2.below) hm).mono ?_
 rintro e w3 ⟨rfl,hb3⟩
 have Ho3:=Lib.hid (own_below Ho2.out hb3)
 have L3:=L2.step hb3
 clear hb3 q0 q1 q2 q3
 have hm1:leastB l false held = -1:=by have:=bestB_range (okB false held) l l.length; rw [leastB_eq] at hv ⊢; omega
 rw [hm1]
 clear hm1 hv L2
 go_wp2_with fail
 go_ret2
 exact ⟨rfl,L3.below⟩
theorem put_goes (S:Nat→Prop) (l:List Bf) (v:Value) (b:Bf) (f:FuncId) (first caps:Array Value) (held:Int→Bool) (w:World) (h:BufsAt S w v l) (hr:Rises l) (hin:InB l) (hh:HeldBy w f first caps held) (hi:isB l b.pos=false) (hn:8≤l.length) (hm:l.length≤65536) (hv:¬ leastB l false held<0) :
  Calls Tryz.prog 68 #[v,bfV b,.func (.func f) first caps] w (RetPut (insB (l.eraseIdx (leastB l false held).toNat) b) w):=by
 obtain ⟨j,hj,hjl⟩:∃ j:Nat,leastB l false held=(j:Int)∧j<l.length:=by
  have:=bestB_range (okB false held) l l.length
  rw [leastB_eq] at hv ⊢
  exact ⟨(bestB (okB false held) l l.length).toNat,by omega,by omega⟩
 rw [hj,Int.toNat_natCast]
 have Hj:=Lib.hid hj
 clear hj hv
 have HI:=Lib.hid hin
 have HH:=Lib.hid hh
 clear hin hh
 obtain ⟨A,cap,rfl,h1,h2⟩:=h.form
 unfold maxLen at h2
 have H:=Lib.hid h
 have HR:=Lib.hid hr
 have Hi:=Lib.hid hi
 clear h hr hi
 go_enter Tryz.func68,Tryz.ntmps68
 go_wp2_with fail
 have L:=(Lay.refl w).alloc' w.heap.size #[.int .i64 b.pos,.string b.data,.bool b.dirty,.int .i64 b.used] 111 rfl
 have hz:(w.alloc (.cells #[.int .i64 b.pos,.string b.data,.bool b.dirty,.int .i64 b.used] 111)).heap.size=w.heap.size+1:=by simp
 generalize World.alloc _ _=W at L hz ⊢
 have Hz:=Lib.hid hz
 clear hz
 refine (bclone_any S _ l.length (flatB l) _ (H.out.below L.below).1 (flatB_one l) (by omega)).mono ?_
 rintro e w1 ⟨v1,rfl,hown,hb1⟩
 have Hown:=Lib.hid hown
 have L1:=L.step hb1
 obtain ⟨A1,cp1,rfl,hc1,hc2⟩:=ownB_slice hown
 clear hown L
 obtain ⟨q0,q1,q2,q3⟩:=L1.c4 0 rfl
 clear hb1
 go_wp2_with fail
 refine (find_any (fun _=>True) l _ b.pos _ (bufs_of_own (fun _ _=>trivial) Hown.out H.out.2) HR.out (by omega)).mono ?_
 rintro e w2 ⟨rfl,hb2⟩
 have Ho2:=Lib.hid (own_below Hown.out hb2)
 have L2:=L1.step hb2
 clear hb2 L1 q0 q1 q2 q3
 obtain ⟨q0,q1,q2,q3⟩:=L2.c4 0 rfl
 rw [Hi.out]
 have hl8:(8:Int)≤(l.length:Int):=by omega
 go_wp2_with fail
 refine (victim_any (fun _=>True) l _ f first caps held _ (bufs_of_own (fun _ _=>trivial) Ho2.out H.out.2) HI.out (HH.out.step L2.below) hm).mono ?_
 rintro e w3 ⟨rfl,hb3⟩
 have Ho3:=Lib.hid (own_below Ho2.out hb3)
 have L3:=L2.step hb3
 clear hb3 q0 q1 q2 q3
 rw [Hj.out]
 obtain ⟨g,cp,e,hbg,hgl,hnc,_⟩:=own_pos Ho3.out (by omega)
 cases e
 have hj0:decide ((j:Int)<0)=false:=by simp
 have hj1:IntKind.i64.wrap ((j:Int)+1)=(j:Int)+1:=by rw [IntKind.wrap_i64]; omega
 have Hl':(l.eraseIdx j).length=l.length - 1:=List.length_eraseIdx_of_lt hjl
 clear L2
 obtain ⟨q0,q1,q2,q3⟩:=L3.c4 0 rfl
 go_wp2_with fail
 refine (bdelete_any W.heap.size g l.length cp1 j (flatB l) _ Ho3.out (flatB_one l) hjl hm).mono ?_
 rintro e w4 ⟨v4,rfl,hown4,hg4⟩
 rw [flatB_erase,← Hl'] at hown4
 have Hown4:=Lib.hid hown4
 have HgW:Hid (w.heap.size<g):=show _<_ by have:=Hz.out; omega
 have L4:Lay w w4 [(w.heap.size,111,#[.int .i64 b.pos,.string b.data,.bool b.dirty,.int .i64 b.used])] :=
  L3.chg (F:=fun k=>k=g) ((Chg.refl).grown hg4 (fun k hk=>by cases hk; exact .inl rfl)) (fun k hk=>by subst hk; have:=HgW.out; omega) (fun x hx=>by simp at hx; subst hx; exact fun h=>by have:=HgW.out; simp only at h; omega)
 have Hl'':=Lib.hid Hl'
 clear hown4 hg4 q0 q1 q2 q3 Hl'
 obtain ⟨q0,q1,q2,q3⟩:=L4.c4 0 rfl
 obtain ⟨l',hl'⟩:∃ l',l.eraseIdx j=l':=⟨_,rfl⟩
 have HR':=Lib.hid (erase_rises HR.out j)
 have Hok':Hid (∀ x ∈ l.eraseIdx j,BfOk x):=fun x hx=>H.out.2 x (List.mem_of_mem_eraseIdx hx)
 have Hi':=Lib.hid (erase_no Hi.out j)
 rw [hl'] at Hown4 HR' Hok' Hi' Hl'' ⊢
 have Hl0:=Lib.hid hl'
 clear hl'
 obtain ⟨A4,cp4,rfl,hc41,hc42⟩:=ownB_slice Hown4.out
 go_wp2_with fail
 refine (find_any (fun _=>True) l' _ b.pos _ (bufs_of_own (fun _ _=>trivial) Hown4.out Hok'.out) HR'.out (by have:=Hl''.out; omega)).mono ?_
 rintro e w5 ⟨rfl,hb5⟩
 have Ho5:=Lib.hid (own_below Hown4.out hb5)
 have L5:=L4.step hb5
 clear hb5 L4 q0 q1 q2 q3
 obtain ⟨q0,q1,q2,q3⟩:=L5.c4 0 rfl
 have Hl8:Hid (l'.length≤65536):=show _≤_ by have:=Hl''.out; omega
 have HzW:Hid (W.heap.size=w.heap.size+1):=Hz
 have hb3:=(Below.refl w5.heap.size w5).alloc (Nat.le_refl _) (.cells #[.int .i64 b.pos,.string b.data,.bool b.dirty,.int .i64 b.used] 111)
 have hv3:(w5.alloc (.cells #[.int .i64 b.pos,.string b.data,.bool b.dirty,.int .i64 b.used] 111)).heap[w5.heap.size]?=some (.cells b.cells.toArray 111 (0,0)):=heap_alloc_new w5 _
 have hz3:(w5.alloc (.cells #[.int .i64 b.pos,.string b.data,.bool b.dirty,.int .i64 b.used] 111)).heap.size=w5.heap.size+1:=by simp
 go_wp2_with fail
 generalize World.alloc _ _=W3 at hb3 hv3 hz3 ⊢
 have Hb3:=Lib.hid hb3
 have Hz3:=Lib.hid hz3
 clear hz3
 refine (binsert_any W.heap.size _ l'.length (posB l' b.pos) w5.heap.size (flatB l') b.cells _ (own_below Ho5.out hb3) (flatB_one _) hv3 rfl (cellsB_one b) (fun e=>by have:=(Ho5.out.lt _ e).2; omega) (posB_le _ _) (by have:=Hl8.out; omega) (by have:=Hz3.out; have:=L5.size; have:=HzW.out; omega)).mono ?_
 clear hb3 hv3
 rintro e w6 ⟨v6,rfl,hown6,hg6⟩
 rw [flatB_ins,← insB_len l' b] at hown6
 have Hown6:=Lib.hid hown6
 have Hg6:=Lib.hid hg6
 clear hown6 hg6
 go_wp2_with fail
 go_ret2
 refine ⟨v6,rfl,(by rw [Hl0.out]; exact own_lo (B:=W.heap.size) Hown6.out (by have:=HzW.out; omega)),Below.grown (L5.below.trans (Hb3.out.mono L5.size)) Hg6.out (by have:=Hz3.out; have:=L5.size; omega) (fun k hk=>?_)⟩
 have:=(Ho5.out.lt k hk).1
 have:=HzW.out
 omega
theorem put_some (S:Nat→Prop) (l m:List Bf) (v:Value) (b:Bf) (f:FuncId) (first caps:Array Value) (held:Int→Bool) (w:World) (h:BufsAt S w v l) (hr:Rises l) (hin:InB l) (hh:HeldBy w f first caps held) (hn:l.length≤65536) (hp:putB l b held=some m) :
  Calls Tryz.prog 68 #[v,bfV b,.func (.func f) first caps] w (RetPut m w):=by
 unfold putB at hp
 cases hi:isB l b.pos with
 |true =>
  rw [hi,if_pos rfl] at hp
  cases hp
  exact put_there S l v b _ w h hr hi hn
 |false =>
  rw [hi,if_neg (by simp)] at hp
  by_cases h8:8≤l.length
  ·rw [if_pos h8] at hp
   by_cases hv:leastB l false held<0
   ·rw [if_pos hv] at hp; cases hp
   ·rw [if_neg hv] at hp
    cases hp
    exact put_goes S l v b f first caps held w h hr hin hh hi h8 hn hv
  ·rw [if_neg h8] at hp
   cases hp
   exact put_room S l v b _ w h hr hi (by omega)
theorem put_none (S:Nat→Prop) (l:List Bf) (v:Value) (b:Bf) (f:FuncId) (first caps:Array Value) (held:Int→Bool) (w:World) (h:BufsAt S w v l) (hr:Rises l) (hin:InB l) (hh:HeldBy w f first caps held) (hn:l.length≤65536) (hp:putB l b held=none) :
  Calls Tryz.prog 68 #[v,bfV b,.func (.func f) first caps] w (Ret (.tuple #[.slice none 0 0,errV 7]) w):=by
 unfold putB at hp
 cases hi:isB l b.pos with
 |true=>rw [hi,if_pos rfl] at hp; cases hp
 |false =>
  rw [hi,if_neg (by simp)] at hp
  by_cases h8:8≤l.length
  ·rw [if_pos h8] at hp
   by_cases hv:leastB l false held<0
   ·exact put_no S l v b f first caps held w h hr hin hh hi h8 hn hv
   ·rw [if_neg hv] at hp; cases hp
  ·rw [if_neg h8] at hp; cases hp
end Go.Proofs.YtaeadmlgffaegaaGreatDoor
namespace Go.Proofs.YtaeadmlgffaegaaGreatDoor
open Go.RowKit Go.Sort
theorem write_some {s:St} {c:Nat} {a:Ak} {m:List Bf} (hd:s.dead=false) (hf:(!St.still s.bufs a.pos && decide (6≤dirtyB s.bufs))=false) (hp:putB s.bufs ⟨a.pos,a.data,true,s.use+1⟩ s.heldP=some m) :
  s.write c a=({ s with use:=s.use+1,bufs:=m }:St).answer c noB 0:=by
 unfold St.write
 rw [if_neg (by rw [hd]; decide),if_neg (by rw [hf]; decide),hp]
theorem write_none {s:St} {c:Nat} {a:Ak} (hd:s.dead=false) (hf:(!St.still s.bufs a.pos && decide (6≤dirtyB s.bufs))=false) (hp:putB s.bufs ⟨a.pos,a.data,true,s.use+1⟩ s.heldP=none) :
  s.write c a={ s with use:=s.use+1 }:=by
 unfold St.write
 rw [if_neg (by rw [hd]; decide),if_neg (by rw [hf]; decide),hp]
theorem write_full {s:St} {c:Nat} {a:Ak} (hd:s.dead=false) (hf:(!St.still s.bufs a.pos && decide (6≤dirtyB s.bufs))=true):s.write c a=s:=by
 unfold St.write
 rw [if_neg (by rw [hd]; decide),if_pos hf]
theorem write_any (col:Nat→Nat) (w:World) (b bd N c:Nat) (x:Sv) (s:St) (a:Ak) (ba:Nat) (h:StAt Ts col w b bd N x s) (hI:Inv s) (hu:s.use≤900000000∧s.tag≤900000000) (hc:c<3) (ha:s.askAt c=some a) (hv:x.av c=.pointer (some ⟨ba,0,none⟩)) :
  Calls Tryz.prog 95 #[.pointer (some ⟨b,0,none⟩),.int .i64 (c:Int),.pointer (some ⟨ba,0,none⟩)] w (Ret2 Ts col w b bd N x (s.write c a) (.tuple #[])):=by
 obtain ⟨lv,hrow,hfa,_⟩:=h.askc hc ha hv
 have Hne:=Lib.hid (h.ask_ne hfa)
 have Hbl:=Lib.hid h.bl
 have Hs0:=Lib.hid h.s0
 clear hfa
 have H:=Lib.hid h
 have HI:=Lib.hid hI
 have Ha:=Lib.hid (hI.ask c a ha)
 have c20:w.cell? ⟨b,20,none⟩=some (.bool s.dead):=h.cell 20
 have c2:w.cell? ⟨b,2,none⟩=some x.bufs:=h.cell 2
 have p1:w.cell? ⟨ba,1,none⟩=some (.int .i64 a.pos):=cell_of_row _ _ 1 _ _ _ hrow
 have Hrow:=Lib.hid hrow
 have Hub:=Lib.hid hu
 clear h hI ha hrow hv hu
 have hz:=zero_buf
 go_enter Tryz.func95,Tryz.ntmps95
 cases hdd:s.dead with
 |true =>
  have Hsr:Hid (s.write c a=s.answer c noB 9):=show _=_ by unfold St.write; rw [hdd,if_pos rfl]
  rw [hdd] at c20
  clear hdd
  go_wp2_with fail
  refine (answer_any col w b bd N _ _ c noB 9 H.out hc).mono ?_
  rintro e w4 ⟨rfl,hS4,hst4⟩
  have HS4:=Lib.hid hS4
  have Hst4:=Lib.hid hst4
  clear hS4 hst4
  go_wp2_with fail
  go_end0
  rw [Hsr.out]
  exact ⟨_,rfl,Hst4.out,HS4.out.chg (F:=fun k=>k=b) rfl,Avs.ans .refl H.out.asks hc⟩
 |false =>
  rw [hdd] at c20
  have Hdd:=Lib.hid hdd
  clear hdd
  go_wp2_with fail
  obtain ⟨FB,hFB⟩:∃ F:Array Value,F=#[.int .i64 (getB s.bufs a.pos).1.pos,.string (getB s.bufs a.pos).1.data,.bool (getB s.bufs a.pos).1.dirty,.int .i64 (getB s.bufs a.pos).1.used]:=⟨_,rfl⟩
  refine wp_region_ev mixed [(18,fun v _=>v=(.pointer (some ⟨b,0,none⟩))),(19,fun v _=>v=(.pointer (some ⟨b,0,none⟩))),(20,fun v _=>v=(.pointer (some ⟨b,2,none⟩))),(21,fun v _=>v=x.bufs),(22,fun v _=>v=(.pointer (some ⟨ba,0,none⟩))),(23,fun v _=>v=(.pointer (some ⟨ba,0,none⟩))),(24,fun v _=>v=(.pointer (some ⟨ba,1,none⟩))),(25,fun v _=>v=(.int .i64 a.pos)),(26,fun v _=>v=(.tuple #[.agg #[.int .i64 (getB s.bufs a.pos).1.pos,.string (getB s.bufs a.pos).1.data,.bool (getB s.bufs a.pos).1.dirty,.int .i64 (getB s.bufs a.pos).1.used],.bool (getB s.bufs a.pos).2])),(17,fun v _=>v=(.tuple #[.agg #[.int .i64 (getB s.bufs a.pos).1.pos,.string (getB s.bufs a.pos).1.data,.bool (getB s.bufs a.pos).1.dirty,.int .i64 (getB s.bufs a.pos).1.used],.bool (getB s.bufs a.pos).2])),(27,fun v _=>v=(.agg #[.int .i64 (getB s.bufs a.pos).1.pos,.string (getB s.bufs a.pos).1.data,.bool (getB s.bufs a.pos).1.dirty,.int .i64 (getB s.bufs a.pos).1.used])),(28,fun v _=>v=(.bool (getB s.bufs a.pos).2)),(6,BxF 111 FB w.heap.size),(7,fun v _=>v=(.bool (getB s.bufs a.pos).2))] (fun u=>Below w.heap.size w u) (BR 111 FB w.heap.size) (BxE 111 FB 13) (by kernel_rfl) rfl (by decide) (Below.refl _ _).drew ?st (fun k vs u u' h hr=>h.step hr) ?steps ?fin
  case st=>exact ⟨fun v u u' h _=>h,fun v u u' h _=>h,fun v u u' h _=>h,fun v u u' h _=>h,fun v u u' h _=>h,fun v u u' h _=>h,fun v u u' h _=>h,fun v u u' h _=>h,fun v u u' h _=>h,fun v u u' h _=>h,fun v u u' h _=>h,fun v u u' h _=>h,fun v u u' h hr=>h.step hr,fun v u u' h _=>h,trivial⟩
  case steps =>
   refine ⟨?_,?_,?_,?_,?_,?_,?_,?_,?_,?_,?_,?_,?_,?_,?_,trivial⟩
   all_goals
    intro ρ u hp hJ hr
    try
     have r1:ρ _=_:=hr.1
     clear hr
     have c2:=cell_b hJ c2
     have p1:=cell_b hJ p1
     refine gives_value (v:=_) (w':=u) ?_ ⟨rfl,hJ,BR.refl _,fun h=>absurd h (by decide)⟩
     go_simp
     done
   ·have r1:ρ (.tmp 21)=x.bufs:=hr.1
    have r2:ρ (.tmp 25)=(.int .i64 a.pos):=hr.2.1
    clear hr
    refine gives_enter (f:=59) (args:=#[x.bufs,.int .i64 a.pos]) (w':=u) ?_ ((get_st H.out HI.out a.pos u hJ).mono ?_)
    ·have hpf:=hp.func 59
     go_simp
    rintro e u' ⟨rfl,hb⟩
    exact ⟨_,rfl,rfl,hJ.trans (hb.mono hJ.size),BR.below hb,fun h=>absurd h (by decide)⟩
   ·clear hr
    refine gives_value (v:=.pointer (some ⟨u.heap.size,0,none⟩)) (w':=u.alloc (.cells #[.int .i64 0,.string ⟨#[]⟩,.bool false,.int .i64 0] 111)) ?_ ⟨⟨_,rfl,hJ.size,⟨_,by rw [hFB]; rfl,heap_alloc_new _ _⟩⟩,hJ.trans (((Below.refl _ _).alloc (Nat.le_refl _) _).mono hJ.size),BR.below ((Below.refl _ _).alloc (Nat.le_refl _) _),fun h=>absurd h (by decide)⟩
    go_simp
   ·have r1:BxF 111 FB w.heap.size (ρ (.tmp 6)) u:=hr.1
    have r2:ρ (.tmp 27)=(.agg #[.int .i64 (getB s.bufs a.pos).1.pos,.string (getB s.bufs a.pos).1.data,.bool (getB s.bufs a.pos).1.dirty,.int .i64 (getB s.bufs a.pos).1.used]):=hr.2.1
    clear hr
    obtain ⟨bb,e1,hbb,hbx⟩:=r1
    rw [show FB.size=4 by rw [hFB]; rfl] at hbx
    obtain ⟨g1,g2,g3⟩:=bx_put4 (v0:=.int .i64 (getB s.bufs a.pos).1.pos) (v1:=.string (getB s.bufs a.pos).1.data) (v2:=.bool (getB s.bufs a.pos).1.dirty) (v3:=.int .i64 (getB s.bufs a.pos).1.used) hbb hbx _ rfl
    rw [← hFB] at g1 g2
    refine gives_skip (w':=_) ?_ ⟨trivial,hJ.trans g3,g1,BxE.at e1 rfl g2⟩
    obtain ⟨z0,z1,z2,z3,hz⟩:=bx4 hbx
    have z0:u.cell? ⟨bb,0,none⟩=some _:=cell_of_row _ _ 0 _ _ _ hz
    have z1:u.cell? ⟨bb,1,none⟩=some _:=cell_of_row _ _ 1 _ _ _ hz
    have z2:u.cell? ⟨bb,2,none⟩=some _:=cell_of_row _ _ 2 _ _ _ hz
    have z3:u.cell? ⟨bb,3,none⟩=some _:=cell_of_row _ _ 3 _ _ _ hz
    have f0:∀ j,u.frozen? ⟨bb,j,none⟩=false:=fun j=>frozen_of_row _ _ j _ _ hz
    clear g1 g2 g3 hz hbx
    go_simp
  intro f u hF hJ hU hE
  have f6:BxF 111 FB w.heap.size (f 6) u:=hF.2.2.2.2.2.2.2.2.2.2.2.2.1
  have f7:f 7=(.bool (getB s.bufs a.pos).2):=hF.2.2.2.2.2.2.2.2.2.2.2.2.2.1
  obtain ⟨bb,e6,hbb,hbz⟩:=f6
  have hbx:u.heap[bb]?=some (.cells FB 111 (0,0)):=hE 13 _ rfl rfl bb (by rw [argsOf_store rfl,e6]; rfl)
  clear hF hU hE c2 p1
  rw [hFB] at hbx
  clear hbz hFB FB
  have HJ:=Lib.hid hJ
  have Hbx:=Lib.hid hbx
  have Hbb:=Lib.hid hbb
  clear hJ hbx hbb
  simp only [laid]
  have H1:=Lib.hid (H.out.below HJ.out)
  have Hr1:Hid (u.heap[ba]?=_):=show _=_ from (HJ.out.block _ (Array.getElem?_eq_some_iff.1 Hrow.out).1).trans Hrow.out
  have Hln:Hid (s.bufs.length≤65536):=show _≤_ by have:=HI.out.len8; omega
  have Hus:Hid (0≤s.use∧s.use≤1000000000):=show _∧_ from ⟨HI.out.use0,by have:=Hub.out; omega⟩
  have Hin:Hid (InB s.bufs):=HI.out.inb
  clear c20
  have z2:u.cell? ⟨bb,2,none⟩=some (.bool (getB s.bufs a.pos).1.dirty):=cell_of_row _ _ 2 _ _ _ Hbx.out
  have Hz2:=Lib.hid z2
  have Hst:Hid (St.still s.bufs a.pos=((getB s.bufs a.pos).2 && (getB s.bufs a.pos).1.dirty)):=show _=_ from rfl
  have key:((getB s.bufs a.pos).2=true∧(getB s.bufs a.pos).1.dirty=true∧St.still s.bufs a.pos=true)∨((getB s.bufs a.pos).2=true∧(getB s.bufs a.pos).1.dirty=false∧St.still s.bufs a.pos=false)∨((getB s.bufs a.pos).2=false∧(getB s.bufs a.pos).1.dirty=(getB s.bufs a.pos).1.dirty∧St.still s.bufs a.pos=false):=by
   rw [Hst.out]
   cases (getB s.bufs a.pos).2 <;> cases (getB s.bufs a.pos).1.dirty <;> simp
  rcases key with ⟨hg,hd,hs⟩ | ⟨hg,hd,hs⟩ | ⟨hg,hd,hs⟩
  all_goals
   rw [hg] at f7
   rw [hd] at z2
   have Hst0:=Lib.hid hs
   clear hg hd hs
   go_wp2_with fail
   first
    |(refine (stdirty_any col u b bd N x s H1.out HI.out.len8).mono ?_
      rintro e U ⟨rfl,hb1⟩
      have HB1:=Lib.hid hb1
      have H2:=Lib.hid (H1.out.below hb1)
      clear hb1
      rcases Nat.lt_or_ge (dirtyB s.bufs) 6 with h6 | h6
      rotate_left
      ·have hn6:decide ((6:Int)≤(dirtyB s.bufs:Int))=true:=by rw [decide_eq_true_iff]; omega
       have Hwr3:=Lib.hid (write_full (s:=s) (c:=c) (a:=a) Hdd.out (by rw [Hst0.out,show decide (6≤dirtyB s.bufs)=true by rw [decide_eq_true_iff]; omega]; rfl))
       clear h6
       go_wp2_with fail
       go_end0
       rw [Hwr3.out]
       exact ⟨_,rfl,H2.out,Chg.of_below (HJ.out.trans (HB1.out.mono HJ.out.size)),.refl⟩
      have hn6:decide ((6:Int)≤(dirtyB s.bufs:Int))=false:=by rw [decide_eq_false_iff_not]; omega
      have Hdl:Hid ((∃ e,atB s.bufs a.pos=some (e,true))∨dirtyB s.bufs<6):=show _∨_ from .inr h6
      have Hwr2:Hid ((!St.still s.bufs a.pos && decide (6≤dirtyB s.bufs))=false):=show _=_ by rw [Hst0.out,show decide (6≤dirtyB s.bufs)=false by rw [decide_eq_false_iff_not]; omega]; rfl
      clear h6
      go_wp2_with fail)
    |(have Hdl:Hid ((∃ e,atB s.bufs a.pos=some (e,true))∨dirtyB s.bufs<6):=show _∨_ from .inl (HI.out.still_at.1 Hst0.out)
      have Hwr2:Hid ((!St.still s.bufs a.pos && decide (6≤dirtyB s.bufs))=false):=show _=_ by rw [Hst0.out]; rfl
      obtain ⟨U,hU⟩:∃ U,u=U:=⟨_,rfl⟩
      have HB1:Hid (Below u.heap.size u U):=show Below _ _ _ from hU▸Below.refl _ _
      have H2:=Lib.hid (H1.out.below HB1.out)
      rw [hU]
      clear hU)
   have H5d:=Lib.hid (H2.out.below (Below.refl _ _).drew)
   have Hr5:Hid (U.heap[ba]?=_):=show _=_ from (HB1.out.block _ (Array.getElem?_eq_some_iff.1 Hr1.out).1).trans Hr1.out
   have HB5:Hid (Below w.heap.size w U):=show Below _ _ _ from HJ.out.trans (HB1.out.mono HJ.out.size)
   have K0:U.drew.cell? ⟨b,2,none⟩=some x.bufs∧U.drew.cell? ⟨ba,1,none⟩=some (.int .i64 a.pos)∧U.drew.cell? ⟨ba,2,none⟩=some (.string a.data):=⟨H5d.out.cell 2,cell_of_row _ _ 1 _ _ _ Hr5.out,cell_of_row _ _ 2 _ _ _ Hr5.out⟩
   cases hp:putB s.bufs ⟨a.pos,a.data,true,s.use+1⟩ s.heldP with
   |some m =>
    have Hwr3:=Lib.hid (write_some (c:=c) Hdd.out Hwr2.out hp)
    have Hp:=Lib.hid hp
    clear hp
    go_region_held3 (fun q=>q.cell? ⟨b,2,none⟩=some x.bufs∧q.cell? ⟨ba,1,none⟩=some (.int .i64 a.pos)∧q.cell? ⟨ba,2,none⟩=some (.string a.data))
     (first | exact K2 | exact K1 | exact K0)
     (first
      |((with_reducible refine (used_any col U.drew b bd N x s H5d.out Hus.out).mono ?_); rintro e u1 ⟨rfl,hS1,hst1⟩; have K1:u1.cell? ⟨b,2,none⟩=some x.bufs∧u1.cell? ⟨ba,1,none⟩=some (.int .i64 a.pos)∧u1.cell? ⟨ba,2,none⟩=some (.string a.data):=⟨hst1.cell 2,cell_of_row _ _ 1 _ _ _ ((hS1.block ba Hne.out).trans Hr5.out),cell_of_row _ _ 2 _ _ _ ((hS1.block ba Hne.out).trans Hr5.out)⟩; have HS1:=Lib.hid hS1; have Hst1:=Lib.hid hst1; have Hbu:Hid (BufsAt (Im u1 col) u1 x.bufs s.bufs):=hst1.bufs; have Hby:Hid (HeldBy u1 58 #[.pointer (some ⟨b,0,none⟩)] #[] s.heldP):=(held_by col u1 b bd N x { s with use:=s.use+1 } hst1 (good_oks HI.out.good) HI.out.dv.two); clear hS1 hst1)
      |((with_reducible refine (put_some (Im u1 col) s.bufs m x.bufs ⟨a.pos,a.data,true,s.use+1⟩ 58 #[.pointer (some ⟨b,0,none⟩)] #[] s.heldP u1 Hbu.out HI.out.rises Hin.out Hby.out Hln.out Hp.out).mono ?_); rintro e u2 ⟨v2,rfl,ho2,hb2⟩; have K2:u2.cell? ⟨b,2,none⟩=some x.bufs∧u2.cell? ⟨ba,1,none⟩=some (.int .i64 a.pos)∧u2.cell? ⟨ba,2,none⟩=some (.string a.data):=⟨cell_b hb2 K1.1,cell_b hb2 K1.2.1,cell_b hb2 K1.2.2⟩; obtain ⟨A2,n2,m2,e2,en⟩:=own_slice' ho2; subst e2; subst en; have Ho2:=Lib.hid ho2; have HB2:=Lib.hid hb2; have Hst2:=Lib.hid (Hst1.out.below hb2); have q2:=K2.1; have f2:=Hst2.out.frozen 2; clear ho2 hb2)
      |fail)
    all_goals
     clear K0 K1 K2
     try go_wp2_with fail
     have hS3:=(Same1.refl (b:=b) (w:=u2)).setCell 2 (.slice A2 m.length m2)
     have hI3:=HI.out.putB Hp.out ⟨Ha.out.lo,Ha.out.hi⟩ (by have:=Ha.out.size; simp only; omega) (show s.use≤s.use+1 by omega) (by have:=HI.out.use0; simp only; omega) (fun _=>Hdl.out) (.inl rfl)
     have hv3:BufsAt (S0 col) u2 (.slice A2 m.length m2) m:=bufs_of_own (fun k hk=>Hst1.out.s0 k hk) Ho2.out (hI3.bok (by show s.use+1≤_; have:=Hub.out; omega))
     have Hst3:=Lib.hid (Hst2.out.bufd hS3 hv3 (heap_setCell_same _ _ 2 _ _ _ Hst2.out.row))
     have HC:Hid (Chg (fun k=>k=b) w (u2.setCell ⟨b,2,none⟩ (.slice A2 m.length m2))):=show Chg _ _ _ from
      ((Chg.of_below (HB5.out.trans (((Below.refl _ _).drew).mono HB5.out.size))).trans ((HS1.out.chg (F:=fun k=>k=b) rfl).mono (fun k hk=>.inl hk))).trans (((Chg.of_below HB2.out).trans ((hS3.chg (F:=fun k=>k=b) rfl).mono (fun k hk=>.inl hk))).mono (fun k hk=>.inl hk))
     clear hS3 hv3 hI3 q2 f2
     generalize World.setCell _ _ _=u3 at HC Hst3 ⊢
     refine (answer_any col u3 b bd N _ _ c noB 0 Hst3.out hc).mono ?_
     rintro e w4 ⟨rfl,hS4,hst4⟩
     have HS4:=Lib.hid hS4
     have Hst4:=Lib.hid hst4
     clear hS4 hst4
     go_wp2_with fail
     go_end0
     rw [Hwr3.out]
     exact ⟨_,rfl,Hst4.out,HC.out.trans ((HS4.out.chg (F:=fun k=>k=b) rfl).mono (fun k hk=>.inl hk)),Avs.ans .bufs Hst3.out.asks hc⟩
   |none =>
    have Hwr3:=Lib.hid (write_none (c:=c) Hdd.out Hwr2.out hp)
    have Hp:=Lib.hid hp
    clear hp
    go_region_held3 (fun q=>q.cell? ⟨b,2,none⟩=some x.bufs∧q.cell? ⟨ba,1,none⟩=some (.int .i64 a.pos)∧q.cell? ⟨ba,2,none⟩=some (.string a.data))
     (first | exact K2 | exact K1 | exact K0)
     (first
      |((with_reducible refine (used_any col U.drew b bd N x s H5d.out Hus.out).mono ?_); rintro e u1 ⟨rfl,hS1,hst1⟩; have K1:u1.cell? ⟨b,2,none⟩=some x.bufs∧u1.cell? ⟨ba,1,none⟩=some (.int .i64 a.pos)∧u1.cell? ⟨ba,2,none⟩=some (.string a.data):=⟨hst1.cell 2,cell_of_row _ _ 1 _ _ _ ((hS1.block ba Hne.out).trans Hr5.out),cell_of_row _ _ 2 _ _ _ ((hS1.block ba Hne.out).trans Hr5.out)⟩; have HS1:=Lib.hid hS1; have Hst1:=Lib.hid hst1; have Hbu:Hid (BufsAt (Im u1 col) u1 x.bufs s.bufs):=hst1.bufs; have Hby:Hid (HeldBy u1 58 #[.pointer (some ⟨b,0,none⟩)] #[] s.heldP):=(held_by col u1 b bd N x { s with use:=s.use+1 } hst1 (good_oks HI.out.good) HI.out.dv.two); clear hS1 hst1)
      |((with_reducible refine (put_none (Im u1 col) s.bufs x.bufs ⟨a.pos,a.data,true,s.use+1⟩ 58 #[.pointer (some ⟨b,0,none⟩)] #[] s.heldP u1 Hbu.out HI.out.rises Hin.out Hby.out Hln.out Hp.out).mono ?_); rintro e u2 ⟨rfl,hb2⟩; have K2:u2.cell? ⟨b,2,none⟩=some x.bufs∧u2.cell? ⟨ba,1,none⟩=some (.int .i64 a.pos)∧u2.cell? ⟨ba,2,none⟩=some (.string a.data):=⟨cell_b hb2 K1.1,cell_b hb2 K1.2.1,cell_b hb2 K1.2.2⟩; have HB2:=Lib.hid hb2; have Hst2:=Lib.hid (Hst1.out.below hb2); clear hb2)
      |fail)
    all_goals
     clear K0 K1 K2
     try go_wp2_with fail
     go_end0
     rw [Hwr3.out]
     exact ⟨_,rfl,Hst2.out,((Chg.of_below (HB5.out.trans (((Below.refl _ _).drew).mono HB5.out.size))).trans ((HS1.out.chg (F:=fun k=>k=b) rfl).mono (fun k hk=>.inl hk))).trans (Chg.of_below HB2.out),.refl⟩
end Go.Proofs.YtaeadmlgffaegaaGreatDoor
namespace Go.Proofs.YtaeadmlgffaegaaGreatDoor
open Go.RowKit Go.Sort
theorem sync1_any (S:Nat→Prop) (w:World) (b B:Nat) (T:TypeId) (vb:Value) (l:List Bf) (p:Int) (h2:w.cell? ⟨b,2,none⟩=some vb) (h:BufsAt S w vb l) (hr:Rises l) (hn:l.length≤65536) (hB:w.heap[B]?=some (.cells #[.pointer (some ⟨b,0,none⟩)] T (0,0))) :
  Calls Tryz.prog 131 #[.int .i64 p,.pointer (some ⟨B,0,none⟩)] w (Ret (.bool (!St.still l p)) w):=by
 have H:=Lib.hid h
 have HR:=Lib.hid hr
 have HN:=Lib.hid hn
 have k0:w.cell? ⟨B,0,none⟩=some (.pointer (some ⟨b,0,none⟩)):=cell_of_row _ _ 0 _ _ _ hB
 have hz:=zero_buf
 have Hst:Hid (St.still l p=((getB l p).2 && (getB l p).1.dirty)):=show _=_ from rfl
 clear h hr hn hB
 go_enter Tryz.func131,Tryz.ntmps131
 go_wp2_with fail
 refine (get_any _ _ _ p _ H.out HR.out HN.out).mono ?_
 rintro e u1 ⟨rfl,hb1⟩
 have HB1:=Lib.hid hb1
 clear hb1 h2 k0
 cases hf:(getB l p).2 with
 |true =>
  cases hd:(getB l p).1.dirty with
  |true =>
   have Hv:Hid (St.still l p=true):=show _=_ by rw [Hst.out,hf,hd]; rfl
   clear hf
   go_wp2_with fail
   go_ret
   rw [Hv.out]
   exact ⟨rfl,HB1.out.alloc HB1.out.size _⟩
  |false =>
   have Hv:Hid (St.still l p=false):=show _=_ by rw [Hst.out,hf,hd]; rfl
   clear hf
   go_wp2_with fail
   go_ret
   rw [Hv.out]
   exact ⟨rfl,HB1.out.alloc HB1.out.size _⟩
 |false =>
  have Hv:Hid (St.still l p=false):=show _=_ by rw [Hst.out,hf]; rfl
  go_wp2_with fail
  go_ret
  rw [Hv.out]
  exact ⟨rfl,HB1.out.alloc HB1.out.size _⟩
end Go.Proofs.YtaeadmlgffaegaaGreatDoor
namespace Go.Proofs.YtaeadmlgffaegaaGreatDoor
open Go.RowKit Go.Sort
def gone1 (l:List Bf) (p:Int):Bool:=!St.still l p
def RetFirst (g:Int→Bool) (l:List Int) (w:World):Ending→World→Prop:=fun e w'=>∃ n:Int,e=.returned (.int .i64 n)∧((n = -1∧l.any g=false)∨∃ (k:Nat) (p:Int),n=k∧l[k]?=some p∧(l.take k).any g=false∧g p=true)∧Below w.heap.size w w'
theorem index_left (SB:Nat→Prop) (w:World) (b B:Nat) (T:TypeId) (vb:Value) (L:List Bf) (S:Nat→Prop) (l:List Int) (v:Value) (h2:w.cell? ⟨b,2,none⟩=some vb) (h:BufsAt SB w vb L) (hr:Rises L) (hn:L.length≤65536) (hB:w.heap[B]?=some (.cells #[.pointer (some ⟨b,0,none⟩)] T (0,0))) (hl:Rd S w 1 v l.length (l.map (.int .i64))) (h60:l.length≤60000) :
  Calls Tryz.prog 152 #[v,.func (.func 131) #[] #[.pointer (some ⟨B,0,none⟩)]] w (RetFirst (gone1 L) l w):=by
 obtain ⟨A,cap,rfl,g1,g2⟩:=hl.form
 unfold maxLen at g2
 have Hl:=Lib.hid hl
 have HB:=Lib.hid hB
 have H:=Lib.hid h
 have HR:=Lib.hid hr
 have HN:=Lib.hid hn
 have H2:=Lib.hid h2
 have hlt0:B<w.heap.size:=(Array.getElem?_eq_some_iff.1 hB).1
 clear h hB hl hr hn h2
 go_enter Tryz.func152,Tryz.ntmps152
 go_wp2
 go_loopw [8] (fun i wr=>∃ k:Nat,k≤l.length∧i=.int .i64 k∧Below w.heap.size w wr∧Hid ((l.take k).any (gone1 L)=false)) (fun i _=>l.length - (intOf i).toNat)
 case atStart=>exact ⟨0,by omega,rfl,Below.refl _ _,rfl⟩
 case round =>
  obtain ⟨k,hk,rfl,hw,hall⟩:=hrel
  by_cases hlt:k<l.length
  ·obtain ⟨bl,off,rfl,_,hb,hc⟩:=(Hl.out.below hw).at_ (by omega) (by omega)
   have hx:l[k]?=some l[k]:=List.getElem?_eq_getElem hlt
   have k0:=hc k (.int .i64 l[k]) (by rw [List.getElem?_map,hx]; rfl)
   clear hc
   have Hx:=Lib.hid hx
   clear hx
   generalize l[k]=p at *
   have Hw:=Lib.hid hw
   go_wp2_with fail
   refine (sync1_any SB wr b B T vb L p (cell_b Hw.out H2.out) (H.out.below Hw.out) HR.out HN.out ((Hw.out.block _ (by assumption)).trans HB.out)).mono ?_
   rintro e w1 ⟨rfl,hb1⟩
   have hw1:=hw.trans (hb1.mono hw.size)
   clear k0 hb1
   cases hs:St.still L p with
   |true =>
    have Hm:Hid (gone1 L p=false):=show _=_ by unfold gone1; rw [hs]; rfl
    clear hs
    go_wp2_with fail
    go_roundw
    case rel=>exact ⟨k+1,by omega,by go_num,hw1,by show _=false; rw [any_take_succ _ _ _ _ Hx.out,hall.out,Hm.out]; rfl⟩
    case measure=>simp [intOf]; omega
   |false =>
    have Hm:Hid (gone1 L p=true):=show _=_ by unfold gone1; rw [hs]; rfl
    clear hs
    go_wp2_with fail
    go_ret
    exact ⟨k,rfl,.inr ⟨k,p,rfl,Hx.out,hall.out,Hm.out⟩,hw1⟩
  ·go_wp2
   go_ret
   exact ⟨-1,rfl,.inl ⟨rfl,any_end _ _ _ (by omega) hall.out⟩,hw⟩
end Go.Proofs.YtaeadmlgffaegaaGreatDoor
