/- Put: with it in its place; another one may have to go. -/
import Derived.Test.YtinknleckppciaaGreatDoorR26
import Derived.Test.YtinknleckppciaaGreatDoorR31
import Derived.Test.YtinknleckppciaaGreatDoorR29
import Derived.Test.YtinknleckppciaaGreatDoorR15
namespace Go.Proofs.YtinknleckppciaaGreatDoor
set_option linter.unusedSimpArgs false
set_option linter.unusedVariables false
open Go.RowKit

/-- It returns a row of the call's own that holds the sectors, and no error. -/
def RetPut (m : List Bf) (w : World) : Ending → World → Prop := fun e w' => ∃ v, e = .returned (.tuple #[v, .nilIface]) ∧ w'.ownsRow w.heap.size 83 4 v m.length (flatB m) ∧ Below w.heap.size w w'
theorem flatB_ins (l : List Bf) (b : Bf) : (flatB l).take (posB l b.pos * 4) ++ b.cells ++ (flatB l).drop (posB l b.pos * 4) = flatB (insB l b) := by
  rw [flatB_take, flatB_drop]; unfold insB; rw [flatB_app, flatB_cons]; simp [List.append_assoc]
theorem insB_len (l : List Bf) (b : Bf) : (insB l b).length = l.length + 1 := by
  have := posB_le l b.pos
  unfold insB; simp; omega
theorem flatB_erase (l : List Bf) (i : Nat) : (flatB l).take (i * 4) ++ (flatB l).drop ((i + 1) * 4) = flatB (l.eraseIdx i) := by
  rw [flatB_take, flatB_drop, ← flatB_app, List.eraseIdx_eq_take_drop_succ]
theorem cellsB_one (b : Bf) : ∀ u ∈ b.cells, u.oneCell' = true := by
  intro u hu
  simp only [Bf.cells, List.mem_cons, List.not_mem_nil, or_false] at hu
  rcases hu with rfl | rfl | rfl | rfl <;> rfl
theorem mapPut_at {l : List Bf} (h : Rises l) {b x : Bf} {i : Nat} (hx : l[i]? = some x) (hp : x.pos = b.pos) : (l.map fun y => if y.pos = b.pos then b else y) = l.set i b := by
  have := map_one h hx hp (fun y => if y.pos = b.pos then b else y) (fun y hy => if_neg hy)
  rw [if_pos hp] at this; exact this

set_option maxRecDepth 100000 in
set_option maxHeartbeats 1000000 in
/-- It is at hand already. -/
theorem put_there (S : Nat → Prop) (l : List Bf) (v : Value) (b : Bf) (F : Value) (w : World) (h : BufsAt S w v l) (hr : Rises l) (hi : isB l b.pos = true) (hn : l.length ≤ 65536) :
    Calls Tryz.prog 52 #[v, bfV b, F] w (RetPut (l.map fun y => if y.pos = b.pos then b else y) w) := by
  obtain ⟨A, cap, rfl, h1, h2⟩ := h.form
  unfold maxLen at h2
  have H := Lib.hid h
  have HR := Lib.hid hr
  have Hi := Lib.hid hi
  clear h hr hi
  go_enter Tryz.func52, Tryz.ntmps52
  go_wp2_with fail
  have L := (Lay.refl w).alloc' w.heap.size #[.int .i64 b.pos, .string b.data, .bool b.dirty, .int .i64 b.used] 83 rfl
  have hz : (w.alloc (.cells #[.int .i64 b.pos, .string b.data, .bool b.dirty, .int .i64 b.used] 83)).heap.size = w.heap.size + 1 := by simp
  generalize World.alloc _ _ = W at L hz ⊢
  have Hz := Lib.hid hz
  clear hz
  refine (bclone_any S _ l.length (flatB l) _ (H.out.below L.below).1 (flatB_one l) hn).mono ?_
  rintro e w1 ⟨v1, rfl, hown, hb1⟩
  have Hown := Lib.hid hown
  have L1 := L.step hb1
  obtain ⟨A1, cp1, rfl, hc1, hc2⟩ := ownB_slice hown
  clear hown L
  obtain ⟨q0, q1, q2, q3⟩ := L1.c4 0 rfl
  clear hb1
  go_wp2_with fail
  refine (find_any (fun _ => True) l _ b.pos _ (bufs_of_own (fun _ _ => trivial) Hown.out H.out.2) HR.out hn).mono ?_
  rintro e w2 ⟨rfl, hb2⟩
  have Ho2 := Lib.hid (own_below Hown.out hb2)
  have L2 := L1.step hb2
  clear hb2 L1 q0 q1 q2 q3
  obtain ⟨q0, q1, q2, q3⟩ := L2.c4 0 rfl
  rw [Hi.out]
  obtain ⟨x, hx, hp⟩ := isB_at HR.out Hi.out
  have hlt := (List.getElem?_eq_some_iff.1 hx).1
  have hi1 : ((posB l b.pos : Nat) : Int) < (l.length : Int) := by omega
  obtain ⟨g, cp, e, hbg, hgl, _, _⟩ := own_pos Ho2.out (by omega)
  cases e
  have hfr := own_frozen Ho2.out (by omega)
  obtain ⟨k0, k1, k2, k3⟩ := own_cells4 Ho2.out hx
  have HL := Lib.hid L2
  have Hx := Lib.hid hx
  have Hp := Lib.hid hp
  clear hx hp L2
  go_wp2_with fail
  go_ret2
  have hlen : (l.map fun y => if y.pos = b.pos then b else y).length = l.length := by simp
  have hbw : w.heap.size ≤ g := by have := Hz.out; omega
  refine ⟨_, rfl, ?_, (((HL.out.below.setCell hbw _).setCell hbw _).setCell hbw _).setCell hbw _⟩
  rw [hlen, mapPut_at HR.out Hx.out Hp.out, ← flatB_set hlt b]
  have hj : posB l b.pos * 4 + 4 ≤ l.length * 4 := by omega
  exact own_lo (ownB_setCell (ownB_setCell (ownB_setCell (ownB_setCell Ho2.out (by omega)) (by omega)) (by omega)) (by omega)) (by have := Hz.out; omega)

set_option maxRecDepth 100000 in
set_option maxHeartbeats 1000000 in
/-- There is room. -/
theorem put_room (S : Nat → Prop) (l : List Bf) (v : Value) (b : Bf) (F : Value) (w : World) (h : BufsAt S w v l) (hr : Rises l) (hi : isB l b.pos = false) (hn : l.length < 8) :
    Calls Tryz.prog 52 #[v, bfV b, F] w (RetPut (insB l b) w) := by
  obtain ⟨A, cap, rfl, h1, h2⟩ := h.form
  unfold maxLen at h2
  have H := Lib.hid h
  have HR := Lib.hid hr
  have Hi := Lib.hid hi
  clear h hr hi
  go_enter Tryz.func52, Tryz.ntmps52
  go_wp2_with fail
  have L := (Lay.refl w).alloc' w.heap.size #[.int .i64 b.pos, .string b.data, .bool b.dirty, .int .i64 b.used] 83 rfl
  have hz : (w.alloc (.cells #[.int .i64 b.pos, .string b.data, .bool b.dirty, .int .i64 b.used] 83)).heap.size = w.heap.size + 1 := by simp
  generalize World.alloc _ _ = W at L hz ⊢
  have Hz := Lib.hid hz
  clear hz
  refine (bclone_any S _ l.length (flatB l) _ (H.out.below L.below).1 (flatB_one l) (by omega)).mono ?_
  rintro e w1 ⟨v1, rfl, hown, hb1⟩
  have Hown := Lib.hid hown
  have L1 := L.step hb1
  obtain ⟨A1, cp1, rfl, hc1, hc2⟩ := ownB_slice hown
  clear hown L
  obtain ⟨q0, q1, q2, q3⟩ := L1.c4 0 rfl
  clear hb1
  go_wp2_with fail
  refine (find_any (fun _ => True) l _ b.pos _ (bufs_of_own (fun _ _ => trivial) Hown.out H.out.2) HR.out (by omega)).mono ?_
  rintro e w2 ⟨rfl, hb2⟩
  have Ho2 := Lib.hid (own_below Hown.out hb2)
  have L2 := L1.step hb2
  clear hb2 L1 q0 q1 q2 q3
  obtain ⟨q0, q1, q2, q3⟩ := L2.c4 0 rfl
  rw [Hi.out]
  have hl8 : decide ((8 : Int) ≤ (l.length : Int)) = false := by simp; omega
  have Hl8 : Hid (l.length < 8) := hn
  have HzW : Hid (W.heap.size = w.heap.size + 1) := Hz
  have hb3 := (Below.refl w2.heap.size w2).alloc (Nat.le_refl _) (.cells #[.int .i64 b.pos, .string b.data, .bool b.dirty, .int .i64 b.used] 83)
  have hv3 : (w2.alloc (.cells #[.int .i64 b.pos, .string b.data, .bool b.dirty, .int .i64 b.used] 83)).heap[w2.heap.size]? = some (.cells b.cells.toArray 83 (0, 0)) := heap_alloc_new w2 _
  have hz3 : (w2.alloc (.cells #[.int .i64 b.pos, .string b.data, .bool b.dirty, .int .i64 b.used] 83)).heap.size = w2.heap.size + 1 := by simp
  go_wp2_with fail
  generalize World.alloc _ _ = W3 at hb3 hv3 hz3 ⊢
  have Hb3 := Lib.hid hb3
  have Hz3 := Lib.hid hz3
  clear hz3
  refine (binsert_any W.heap.size _ l.length (posB l b.pos) w2.heap.size (flatB l) b.cells _ (own_below Ho2.out hb3) (flatB_one _) hv3 rfl (cellsB_one b) (fun e => by have := (Ho2.out.lt _ e).2; omega) (posB_le _ _) (by have := Hl8.out; omega) (by have := Hz3.out; have := L2.size; have := HzW.out; omega)).mono ?_
  clear hb3 hv3
  rintro e w4 ⟨v4, rfl, hown4, hg4⟩
  rw [flatB_ins, ← insB_len l b] at hown4
  have Hown4 := Lib.hid hown4
  have Hg4 := Lib.hid hg4
  clear hown4 hg4
  go_wp2_with fail
  go_ret2
  refine ⟨v4, rfl, own_lo Hown4.out (by have := HzW.out; omega), Below.grown (L2.below.trans (Hb3.out.mono L2.size)) Hg4.out (by have := Hz3.out; have := L2.size; omega) (fun k hk => ?_)⟩
  have := (Ho2.out.lt k hk).1
  have := HzW.out
  omega

set_option maxRecDepth 100000 in
set_option maxHeartbeats 1000000 in
/-- There is no room, and none that may go. -/
theorem put_no (S : Nat → Prop) (l : List Bf) (v : Value) (b : Bf) (f : FuncId) (first caps : Array Value) (held : Int → Bool) (w : World) (h : BufsAt S w v l) (hr : Rises l) (hin : InB l) (hh : HeldBy w f first caps held) (hi : isB l b.pos = false) (hn : 8 ≤ l.length) (hm : l.length ≤ 65536) (hv : leastB l false held < 0) :
    Calls Tryz.prog 52 #[v, bfV b, .func (.func f) first caps] w (Ret (.tuple #[.slice none 0 0, errV 7]) w) := by
  have HI := Lib.hid hin
  have HH := Lib.hid hh
  clear hin hh
  obtain ⟨A, cap, rfl, h1, h2⟩ := h.form
  unfold maxLen at h2
  have H := Lib.hid h
  have HR := Lib.hid hr
  have Hi := Lib.hid hi
  clear h hr hi
  go_enter Tryz.func52, Tryz.ntmps52
  go_wp2_with fail
  have L := (Lay.refl w).alloc' w.heap.size #[.int .i64 b.pos, .string b.data, .bool b.dirty, .int .i64 b.used] 83 rfl
  have hz : (w.alloc (.cells #[.int .i64 b.pos, .string b.data, .bool b.dirty, .int .i64 b.used] 83)).heap.size = w.heap.size + 1 := by simp
  generalize World.alloc _ _ = W at L hz ⊢
  have Hz := Lib.hid hz
  clear hz
  refine (bclone_any S _ l.length (flatB l) _ (H.out.below L.below).1 (flatB_one l) (by omega)).mono ?_
  rintro e w1 ⟨v1, rfl, hown, hb1⟩
  have Hown := Lib.hid hown
  have L1 := L.step hb1
  obtain ⟨A1, cp1, rfl, hc1, hc2⟩ := ownB_slice hown
  clear hown L
  obtain ⟨q0, q1, q2, q3⟩ := L1.c4 0 rfl
  clear hb1
  go_wp2_with fail
  refine (find_any (fun _ => True) l _ b.pos _ (bufs_of_own (fun _ _ => trivial) Hown.out H.out.2) HR.out (by omega)).mono ?_
  rintro e w2 ⟨rfl, hb2⟩
  have Ho2 := Lib.hid (own_below Hown.out hb2)
  have L2 := L1.step hb2
  clear hb2 L1 q0 q1 q2 q3
  obtain ⟨q0, q1, q2, q3⟩ := L2.c4 0 rfl
  rw [Hi.out]
  have hl8 : (8 : Int) ≤ (l.length : Int) := by omega
  go_wp2_with fail
  refine (victim_any (fun _ => True) l _ f first caps held _ (bufs_of_own (fun _ _ => trivial) Ho2.out H.out.2) HI.out (HH.out.step L2.below) hm).mono ?_
  rintro e w3 ⟨rfl, hb3⟩
  have Ho3 := Lib.hid (own_below Ho2.out hb3)
  have L3 := L2.step hb3
  clear hb3 q0 q1 q2 q3
  have hm1 : leastB l false held = -1 := by have := bestB_range (okB false held) l l.length; rw [leastB_eq] at hv ⊢; omega
  rw [hm1]
  clear hm1 hv L2
  go_wp2_with fail
  go_ret2
  exact ⟨rfl, L3.below⟩

set_option maxRecDepth 100000 in
set_option maxHeartbeats 1000000 in
/-- There is no room: one goes. -/
theorem put_goes (S : Nat → Prop) (l : List Bf) (v : Value) (b : Bf) (f : FuncId) (first caps : Array Value) (held : Int → Bool) (w : World) (h : BufsAt S w v l) (hr : Rises l) (hin : InB l) (hh : HeldBy w f first caps held) (hi : isB l b.pos = false) (hn : 8 ≤ l.length) (hm : l.length ≤ 65536) (hv : ¬ leastB l false held < 0) :
    Calls Tryz.prog 52 #[v, bfV b, .func (.func f) first caps] w (RetPut (insB (l.eraseIdx (leastB l false held).toNat) b) w) := by
  obtain ⟨j, hj, hjl⟩ : ∃ j : Nat, leastB l false held = (j : Int) ∧ j < l.length := by
    have := bestB_range (okB false held) l l.length
    rw [leastB_eq] at hv ⊢
    exact ⟨(bestB (okB false held) l l.length).toNat, by omega, by omega⟩
  rw [hj, Int.toNat_natCast]
  have Hj := Lib.hid hj
  clear hj hv
  have HI := Lib.hid hin
  have HH := Lib.hid hh
  clear hin hh
  obtain ⟨A, cap, rfl, h1, h2⟩ := h.form
  unfold maxLen at h2
  have H := Lib.hid h
  have HR := Lib.hid hr
  have Hi := Lib.hid hi
  clear h hr hi
  go_enter Tryz.func52, Tryz.ntmps52
  go_wp2_with fail
  have L := (Lay.refl w).alloc' w.heap.size #[.int .i64 b.pos, .string b.data, .bool b.dirty, .int .i64 b.used] 83 rfl
  have hz : (w.alloc (.cells #[.int .i64 b.pos, .string b.data, .bool b.dirty, .int .i64 b.used] 83)).heap.size = w.heap.size + 1 := by simp
  generalize World.alloc _ _ = W at L hz ⊢
  have Hz := Lib.hid hz
  clear hz
  refine (bclone_any S _ l.length (flatB l) _ (H.out.below L.below).1 (flatB_one l) (by omega)).mono ?_
  rintro e w1 ⟨v1, rfl, hown, hb1⟩
  have Hown := Lib.hid hown
  have L1 := L.step hb1
  obtain ⟨A1, cp1, rfl, hc1, hc2⟩ := ownB_slice hown
  clear hown L
  obtain ⟨q0, q1, q2, q3⟩ := L1.c4 0 rfl
  clear hb1
  go_wp2_with fail
  refine (find_any (fun _ => True) l _ b.pos _ (bufs_of_own (fun _ _ => trivial) Hown.out H.out.2) HR.out (by omega)).mono ?_
  rintro e w2 ⟨rfl, hb2⟩
  have Ho2 := Lib.hid (own_below Hown.out hb2)
  have L2 := L1.step hb2
  clear hb2 L1 q0 q1 q2 q3
  obtain ⟨q0, q1, q2, q3⟩ := L2.c4 0 rfl
  rw [Hi.out]
  have hl8 : (8 : Int) ≤ (l.length : Int) := by omega
  go_wp2_with fail
  refine (victim_any (fun _ => True) l _ f first caps held _ (bufs_of_own (fun _ _ => trivial) Ho2.out H.out.2) HI.out (HH.out.step L2.below) hm).mono ?_
  rintro e w3 ⟨rfl, hb3⟩
  have Ho3 := Lib.hid (own_below Ho2.out hb3)
  have L3 := L2.step hb3
  clear hb3 q0 q1 q2 q3
  rw [Hj.out]
  obtain ⟨g, cp, e, hbg, hgl, hnc, _⟩ := own_pos Ho3.out (by omega)
  cases e
  have hj0 : decide ((j : Int) < 0) = false := by simp
  have hj1 : IntKind.i64.wrap ((j : Int) + 1) = (j : Int) + 1 := by rw [IntKind.wrap_i64]; omega
  have Hl' : (l.eraseIdx j).length = l.length - 1 := List.length_eraseIdx_of_lt hjl
  clear L2
  obtain ⟨q0, q1, q2, q3⟩ := L3.c4 0 rfl
  go_wp2_with fail
  refine (bdelete_any W.heap.size g l.length cp1 j (flatB l) _ Ho3.out (flatB_one l) hjl hm).mono ?_
  rintro e w4 ⟨v4, rfl, hown4, hg4⟩
  rw [flatB_erase, ← Hl'] at hown4
  have Hown4 := Lib.hid hown4
  have HgW : Hid (w.heap.size < g) := show _ < _ by have := Hz.out; omega
  have L4 : Lay w w4 [(w.heap.size, 83, #[.int .i64 b.pos, .string b.data, .bool b.dirty, .int .i64 b.used])] :=
    L3.chg (F := fun k => k = g) ((Chg.refl).grown hg4 (fun k hk => by cases hk; exact .inl rfl)) (fun k hk => by subst hk; have := HgW.out; omega) (fun x hx => by simp at hx; subst hx; exact fun h => by have := HgW.out; simp only at h; omega)
  have Hl'' := Lib.hid Hl'
  clear hown4 hg4 q0 q1 q2 q3 Hl'
  obtain ⟨q0, q1, q2, q3⟩ := L4.c4 0 rfl
  obtain ⟨l', hl'⟩ : ∃ l', l.eraseIdx j = l' := ⟨_, rfl⟩
  have HR' := Lib.hid (erase_rises HR.out j)
  have Hok' : Hid (∀ x ∈ l.eraseIdx j, BfOk x) := fun x hx => H.out.2 x (List.mem_of_mem_eraseIdx hx)
  have Hi' := Lib.hid (erase_no Hi.out j)
  rw [hl'] at Hown4 HR' Hok' Hi' Hl'' ⊢
  have Hl0 := Lib.hid hl'
  clear hl'
  obtain ⟨A4, cp4, rfl, hc41, hc42⟩ := ownB_slice Hown4.out
  go_wp2_with fail
  refine (find_any (fun _ => True) l' _ b.pos _ (bufs_of_own (fun _ _ => trivial) Hown4.out Hok'.out) HR'.out (by have := Hl''.out; omega)).mono ?_
  rintro e w5 ⟨rfl, hb5⟩
  have Ho5 := Lib.hid (own_below Hown4.out hb5)
  have L5 := L4.step hb5
  clear hb5 L4 q0 q1 q2 q3
  obtain ⟨q0, q1, q2, q3⟩ := L5.c4 0 rfl
  have Hl8 : Hid (l'.length ≤ 65536) := show _ ≤ _ by have := Hl''.out; omega
  have HzW : Hid (W.heap.size = w.heap.size + 1) := Hz
  have hb3 := (Below.refl w5.heap.size w5).alloc (Nat.le_refl _) (.cells #[.int .i64 b.pos, .string b.data, .bool b.dirty, .int .i64 b.used] 83)
  have hv3 : (w5.alloc (.cells #[.int .i64 b.pos, .string b.data, .bool b.dirty, .int .i64 b.used] 83)).heap[w5.heap.size]? = some (.cells b.cells.toArray 83 (0, 0)) := heap_alloc_new w5 _
  have hz3 : (w5.alloc (.cells #[.int .i64 b.pos, .string b.data, .bool b.dirty, .int .i64 b.used] 83)).heap.size = w5.heap.size + 1 := by simp
  go_wp2_with fail
  generalize World.alloc _ _ = W3 at hb3 hv3 hz3 ⊢
  have Hb3 := Lib.hid hb3
  have Hz3 := Lib.hid hz3
  clear hz3
  refine (binsert_any W.heap.size _ l'.length (posB l' b.pos) w5.heap.size (flatB l') b.cells _ (own_below Ho5.out hb3) (flatB_one _) hv3 rfl (cellsB_one b) (fun e => by have := (Ho5.out.lt _ e).2; omega) (posB_le _ _) (by have := Hl8.out; omega) (by have := Hz3.out; have := L5.size; have := HzW.out; omega)).mono ?_
  clear hb3 hv3
  rintro e w6 ⟨v6, rfl, hown6, hg6⟩
  rw [flatB_ins, ← insB_len l' b] at hown6
  have Hown6 := Lib.hid hown6
  have Hg6 := Lib.hid hg6
  clear hown6 hg6
  go_wp2_with fail
  go_ret2
  refine ⟨v6, rfl, (by rw [Hl0.out]; exact own_lo (B := W.heap.size) Hown6.out (by have := HzW.out; omega)), Below.grown (L5.below.trans (Hb3.out.mono L5.size)) Hg6.out (by have := Hz3.out; have := L5.size; omega) (fun k hk => ?_)⟩
  have := (Ho5.out.lt k hk).1
  have := HzW.out
  omega
/-- Put, whatever there is. -/
theorem put_some (S : Nat → Prop) (l m : List Bf) (v : Value) (b : Bf) (f : FuncId) (first caps : Array Value) (held : Int → Bool) (w : World) (h : BufsAt S w v l) (hr : Rises l) (hin : InB l) (hh : HeldBy w f first caps held) (hn : l.length ≤ 65536) (hp : putB l b held = some m) :
    Calls Tryz.prog 52 #[v, bfV b, .func (.func f) first caps] w (RetPut m w) := by
  unfold putB at hp
  cases hi : isB l b.pos with
  | true =>
    rw [hi, if_pos rfl] at hp
    cases hp
    exact put_there S l v b _ w h hr hi hn
  | false =>
    rw [hi, if_neg (by simp)] at hp
    by_cases h8 : 8 ≤ l.length
    · rw [if_pos h8] at hp
      by_cases hv : leastB l false held < 0
      · rw [if_pos hv] at hp; cases hp
      · rw [if_neg hv] at hp
        cases hp
        exact put_goes S l v b f first caps held w h hr hin hh hi h8 hn hv
    · rw [if_neg h8] at hp
      cases hp
      exact put_room S l v b _ w h hr hi (by omega)
theorem put_none (S : Nat → Prop) (l : List Bf) (v : Value) (b : Bf) (f : FuncId) (first caps : Array Value) (held : Int → Bool) (w : World) (h : BufsAt S w v l) (hr : Rises l) (hin : InB l) (hh : HeldBy w f first caps held) (hn : l.length ≤ 65536) (hp : putB l b held = none) :
    Calls Tryz.prog 52 #[v, bfV b, .func (.func f) first caps] w (Ret (.tuple #[.slice none 0 0, errV 7]) w) := by
  unfold putB at hp
  cases hi : isB l b.pos with
  | true => rw [hi, if_pos rfl] at hp; cases hp
  | false =>
    rw [hi, if_neg (by simp)] at hp
    by_cases h8 : 8 ≤ l.length
    · rw [if_pos h8] at hp
      by_cases hv : leastB l false held < 0
      · exact put_no S l v b f first caps held w h hr hin hh hi h8 hn hv
      · rw [if_neg hv] at hp; cases hp
    · rw [if_neg h8] at hp; cases hp
end Go.Proofs.YtinknleckppciaaGreatDoor
