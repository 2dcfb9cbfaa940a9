
/- The law CacheSays: its walk. -/
import Derived.Test.YtdhiepcglnbkbaaBufRPut
import Derived.Test.YtdhiepcglnbkbaaBufHeld
import Derived.Test.YtdhiepcglnbkbaaSpan
import Derived.Test.YtdhiepcglnbkbaaOpenBufs
import Derived.Deep.RegionHeld3
import Derived.Outline
namespace Go.Proofs.Ytdhiepcglnbkbaa
set_option linter.unusedSimpArgs false
set_option linter.unusedVariables false
open Go.RowKit Go.Sort

def litB : Bf := ⟨3, ⟨#[120]⟩, true, 0⟩
theorem bufs_nil {S : Nat → Prop} {w : World} : BufsAt S w (.slice none 0 0) [] := BufsAt.nil
set_option maxRecDepth 100000 in
set_option maxHeartbeats 1000000 in
theorem caches_any (w : World) : Calls Try.prog 36 #[] w (Ret (.bool true) w) := by
  go_enter Try.func36, Try.ntmps36
  go_wp2_with fail
  refine (put_room (fun _ => True) [] (.slice none 0 0) litB _ _ bufs_nil (by simp [Rises]) rfl (by simp)).mono ?_
  rintro e w1 ⟨v1, rfl, hown1, hb1⟩
  rw [show insB [] litB = [litB] from rfl] at hown1
  obtain ⟨A1, c1, rfl, _, _⟩ := own_slice hown1
  have Hown1 := Lib.hid hown1
  have Hb1 := Lib.hid hb1
  clear hown1 hb1
  simp only [List.length_cons, List.length_nil, Nat.zero_add]
  have Hok : Hid (∀ x ∈ [litB], BfOk x) := fun x hx => by simp at hx; subst hx; exact ⟨by unfold i64 litB; simp only; omega, by unfold i64 litB; simp only; omega, by unfold litB maxLen; decide⟩
  go_wp2_with fail
  refine (get_any (fun _ => True) [litB] _ 3 _ (bufs_of_own (fun _ _ => trivial) Hown1.out Hok.out) (by simp [Rises]) (by simp)).mono ?_
  rintro e w2 ⟨rfl, hb2⟩
  rw [show getB [litB] 3 = (litB, true) from rfl]
  have Hb2 := Lib.hid (Hb1.out.trans (hb2.mono Hb1.out.size))
  have Ho2 := Lib.hid (own_below Hown1.out hb2)
  clear hb2
  have hz := zero_buf
  go_wp2_with fail
  have L := Lib.hid ((Lay.refl w2).alloc' w2.heap.size #[.int .i64 litB.pos, .string litB.data, .bool litB.dirty, .int .i64 litB.used] 72 rfl)
  generalize World.alloc _ _ = W3 at L ⊢
  refine (same_nil 0 _).mono ?_
  rintro e w3 ⟨rfl, rfl⟩
  obtain ⟨q0, q1, q2, q3⟩ := L.out.c4 0 rfl
  have ht : (litB.data.toList == [120]) = true := by rw [ByteArray.toList_eq]; rfl
  go_wp2_with fail
  refine (dirty_any (fun _ => True) [litB] _ _ (bufs_of_own (fun _ _ => trivial) (own_below Ho2.out L.out.below) Hok.out) (by simp)).mono ?_
  rintro e w4 ⟨rfl, hb4⟩
  rw [show dirtyB [litB] = 1 from rfl]
  clear q0 q1 q2 q3
  go_wp2_with fail
  go_ret
  exact ⟨rfl, Hb2.out.trans ((L.out.below.trans (hb4.mono L.out.size)).mono Hb2.out.size)⟩
/-- The law. -/
theorem range_of_row {w : World} {g : Nat} {cs : List Value} {T : TypeId} (h : w.heap[g]? = some (.cells cs.toArray T (0, 0))) : w.rangeAt g 0 cs := fun j v hj => by
  rw [Nat.zero_add, cell_of_row _ _ _ _ _ _ h]; simpa using hj
theorem clean_ok {l : List Bf} (h : ∀ b ∈ l, BfOk b) (p : Int) (d : ByteArray) : ∀ b ∈ cleanB l p d, BfOk b := fun b hb => by
  obtain ⟨x, hx, rfl⟩ := List.mem_map.1 hb
  split
  · exact ⟨(h x hx).pos, (h x hx).used, (h x hx).data⟩
  · exact h x hx
theorem use_ok {l : List Bf} (h : ∀ b ∈ l, BfOk b) (p n : Int) (hn : i64 n) : ∀ b ∈ useB l p n, BfOk b := fun b hb => by
  obtain ⟨x, hx, rfl⟩ := List.mem_map.1 hb
  split
  · exact ⟨(h x hx).pos, hn, (h x hx).data⟩
  · exact h x hx
theorem ins_ok {l : List Bf} (h : ∀ b ∈ l, BfOk b) {c : Bf} (hc : BfOk c) : ∀ b ∈ insB l c, BfOk b := fun b hb => by
  unfold insB at hb
  rcases List.mem_append.1 hb with hb | hb
  · exact h b (List.mem_of_mem_take hb)
  · rcases List.mem_cons.1 hb with rfl | hb
    · exact hc
    · exact h b (List.mem_of_mem_drop hb)
theorem put_ok {l m : List Bf} {b : Bf} {held : Int → Bool} (h : ∀ b ∈ l, BfOk b) (hb : BfOk b) (hp : putB l b held = some m) : ∀ b ∈ m, BfOk b := by
  unfold putB at hp
  split at hp
  · cases hp
    intro c hc
    obtain ⟨x, hx, rfl⟩ := List.mem_map.1 hc
    split
    · exact hb
    · exact h x hx
  · split at hp
    · split at hp
      · cases hp
      · cases hp; exact ins_ok (fun x hx => h x (List.mem_of_mem_eraseIdx hx)) hb
    · cases hp; exact ins_ok h hb
theorem goodB_in {l : List Bf} (h : goodB l) : InB l := fun b hb => ⟨(h.2.1 b hb).1, (h.2.1 b hb).2.1⟩
theorem rpick_arr (S : Nat → Prop) (l : List Bf) (v : Value) (hl : List Bool) (w : World) (h : BufsAt S w v l) (hin : InB l) (h32 : hl.length = 32) (hn : l.length ≤ 65536) :
    Calls Try.prog 51 #[v, .agg (List.map Value.bool hl).toArray] w (Ret (.int .i64 (pickB l (heldL hl))) w) := rpick_any S l v hl w h hin h32 hn
set_option maxRecDepth 100000 in
set_option maxHeartbeats 8000000 in
theorem cachesays_walk (l : List Bf) (b : Bf) (hl : List Bool) (now : Int) (v : Value) (w : World) (h : BufsAt Any w v l) (hb : BfOk b) (h32 : hl.length = 32) (hnow : i64 now) :
    Calls Try.prog 5 #[v, bfV b, .agg (hldV hl), .int .i64 now] w (Ret (.bool true) w) := by
  obtain ⟨A, cap, rfl, h1, h2⟩ := h.form
  unfold maxLen at h2
  have hbs := hb.data
  unfold maxLen at hbs
  have H := Lib.hid h
  have Hbok := Lib.hid hb
  have H32 := Lib.hid h32
  have Hnow := Lib.hid hnow
  have hz := zero_buf
  clear h hb h32 hnow
  go_enter Try.func5, Try.ntmps5
  go_wp2_with fail
  have L := Lib.hid (((Lay.refl w).alloc' w.heap.size #[.int .i64 b.pos, .string b.data, .bool b.dirty, .int .i64 b.used] 72 rfl).alloc' (w.heap.size + 1) (hldV hl) 73 (by simp))
  generalize World.alloc _ _ = W at L ⊢
  refine (caches_any _).mono ?_
  rintro e w1 ⟨rfl, hb1⟩
  have L1 := Lib.hid (L.out.step hb1)
  clear L hb1
  go_wp2_with fail
  refine (goodbufs_any Any l _ _ (H.out.below L1.out.below)).mono ?_
  rintro e w2 ⟨rfl, hb2⟩
  have L2 := Lib.hid (L1.out.step hb2)
  clear L1 hb2
  obtain ⟨q0, q1, q2, q3⟩ := L2.out.c4 1 rfl
  by_cases g0 : goodB l
  rotate_left
  · rw [decide_eq_false g0]
    go_wp2_with fail
    go_ret
    exact ⟨rfl, L2.out.below⟩
  rw [decide_eq_true g0]
  have hl8 := g0.1
  have HR := Lib.hid g0.2.2
  have HI := Lib.hid (goodB_in g0)
  clear g0
  by_cases g1 : b.pos < 0
  · go_wp2_with fail
    go_ret
    exact ⟨rfl, L2.out.below⟩
  have f1 : decide (b.pos < 0) = false := decide_eq_false g1
  by_cases g2 : 31 < b.pos
  · go_wp2_with fail
    go_ret
    exact ⟨rfl, L2.out.below⟩
  have f2 : decide (31 < b.pos) = false := decide_eq_false g2
  by_cases g3 : 10 < b.data.size
  · have f3 : (10 : Int) < (b.data.size : Int) := by omega
    go_wp2_with fail
    go_ret
    exact ⟨rfl, L2.out.below⟩
  have f3 : decide ((10 : Int) < (b.data.size : Int)) = false := by simp; omega
  clear g1 g2 g3
  go_wp2_with fail
  clear f1 f2 f3
  refine (get_any Any l _ b.pos _ (H.out.below L2.out.below) HR.out (by omega)).mono ?_
  rintro e w3 ⟨rfl, hb3⟩
  have L3 := Lib.hid (L2.out.step hb3)
  clear hb3 q0 q1 q2 q3 L2
  obtain ⟨⟨g1, gi⟩, hg⟩ : ∃ x, getB l b.pos = x := ⟨_, rfl⟩
  have Hg := Lib.hid hg
  rw [hg]
  clear hg
  obtain ⟨n2, hn2⟩ : ∃ n, w3.heap.size = n := ⟨_, rfl⟩
  have L3' := Lib.hid (L3.out.alloc' n2 #[.int .i64 g1.pos, .string g1.data, .bool g1.dirty, .int .i64 g1.used] 72 hn2)
  obtain ⟨q0, q1, q2, q3⟩ := L3'.out.c4 2 rfl
  go_wp2_with fail
  generalize World.alloc _ _ = w4 at L3' q0 q1 q2 q3 ⊢
  clear hn2 L3 q0 q1 q2 q3
  obtain ⟨q0, q1, q2, q3⟩ := L3'.out.c4 2 rfl
  refine (rget_any Any l _ b.pos _ (H.out.below L3'.out.below) HR.out (by omega)).mono ?_
  rintro e w5 ⟨rfl, hb5⟩
  have L5 := Lib.hid (L3'.out.step hb5)
  clear hb5 q0 q1 q2 q3 L3'
  rw [Hg.out]
  obtain ⟨n3, hn3⟩ : ∃ n, w5.heap.size = n := ⟨_, rfl⟩
  have L5' := Lib.hid (L5.out.alloc' n3 #[.int .i64 g1.pos, .string g1.data, .bool g1.dirty, .int .i64 g1.used] 72 hn3)
  go_wp2_with fail
  generalize World.alloc _ _ = w6 at L5' ⊢
  clear hn3 L5
  have hne := buf_ne g1 g1
  rw [decide_eq_true rfl] at hne
  have L6d := Lib.hid (L5'.out.drew)
  have H6 := Lib.hid (H.out.below L6d.out.below)
  have K0 : w6.drew.cell? ⟨w.heap.size, 0, none⟩ = some (.int .i64 b.pos) ∧ w6.drew.cell? ⟨w.heap.size, 1, none⟩ = some (.string b.data) ∧ w6.drew.cell? ⟨n2, 0, none⟩ = some (.int .i64 g1.pos) ∧ w6.drew.cell? ⟨n2, 1, none⟩ = some (.string g1.data) ∧ w6.drew.cell? ⟨n2, 2, none⟩ = some (.bool g1.dirty) ∧ w6.drew.cell? ⟨n2, 3, none⟩ = some (.int .i64 g1.used) ∧ w6.drew.cell? ⟨n3, 0, none⟩ = some (.int .i64 g1.pos) ∧ w6.drew.cell? ⟨n3, 1, none⟩ = some (.string g1.data) ∧ w6.drew.cell? ⟨n3, 2, none⟩ = some (.bool g1.dirty) ∧ w6.drew.cell? ⟨n3, 3, none⟩ = some (.int .i64 g1.used) := (by obtain ⟨c0, c1, c2, c3⟩ := L6d.out.c4 3 rfl; obtain ⟨d0, d1, d2, d3⟩ := L6d.out.c4 1 rfl; obtain ⟨e0, e1, e2, e3⟩ := L6d.out.c4 0 rfl; exact ⟨c0, c1, d0, d1, d2, d3, e0, e1, e2, e3⟩)
  have Huok := Lib.hid (use_ok H.out.2 b.pos now Hnow.out)
  have hdl : dirtyB l ≤ l.length := List.countP_le_length
  clear hz
  go_region_held3 (fun u => u.cell? ⟨w.heap.size, 0, none⟩ = some (.int .i64 b.pos) ∧ u.cell? ⟨w.heap.size, 1, none⟩ = some (.string b.data) ∧ u.cell? ⟨n2, 0, none⟩ = some (.int .i64 g1.pos) ∧ u.cell? ⟨n2, 1, none⟩ = some (.string g1.data) ∧ u.cell? ⟨n2, 2, none⟩ = some (.bool g1.dirty) ∧ u.cell? ⟨n2, 3, none⟩ = some (.int .i64 g1.used) ∧ u.cell? ⟨n3, 0, none⟩ = some (.int .i64 g1.pos) ∧ u.cell? ⟨n3, 1, none⟩ = some (.string g1.data) ∧ u.cell? ⟨n3, 2, none⟩ = some (.bool g1.dirty) ∧ u.cell? ⟨n3, 3, none⟩ = some (.int .i64 g1.used))
    (first | exact K5 | exact K4 | exact K3 | exact K2 | exact K1 | exact K0)
    (first
      | ((with_reducible refine (use_any Any l _ b.pos now _ H6.out HR.out (by omega)).mono ?_); rintro e u1 ⟨v1, rfl, hown1, hb1⟩; have L1 := Lib.hid (L6d.out.step hb1); have K1 : u1.cell? ⟨w.heap.size, 0, none⟩ = some (.int .i64 b.pos) ∧ u1.cell? ⟨w.heap.size, 1, none⟩ = some (.string b.data) ∧ u1.cell? ⟨n2, 0, none⟩ = some (.int .i64 g1.pos) ∧ u1.cell? ⟨n2, 1, none⟩ = some (.string g1.data) ∧ u1.cell? ⟨n2, 2, none⟩ = some (.bool g1.dirty) ∧ u1.cell? ⟨n2, 3, none⟩ = some (.int .i64 g1.used) ∧ u1.cell? ⟨n3, 0, none⟩ = some (.int .i64 g1.pos) ∧ u1.cell? ⟨n3, 1, none⟩ = some (.string g1.data) ∧ u1.cell? ⟨n3, 2, none⟩ = some (.bool g1.dirty) ∧ u1.cell? ⟨n3, 3, none⟩ = some (.int .i64 g1.used) := (by obtain ⟨c0, c1, c2, c3⟩ := L1.out.c4 3 rfl; obtain ⟨d0, d1, d2, d3⟩ := L1.out.c4 1 rfl; obtain ⟨e0, e1, e2, e3⟩ := L1.out.c4 0 rfl; exact ⟨c0, c1, d0, d1, d2, d3, e0, e1, e2, e3⟩); have H1 := Lib.hid (H6.out.below hb1); have Ho1 := Lib.hid hown1; clear hb1 hown1)
      | ((with_reducible refine (ruse_any Any l _ b.pos now _ H1.out (by omega)).mono ?_); rintro e u2 ⟨v2, rfl, hown2, hb2⟩; have L2 := Lib.hid (L1.out.step hb2); have K2 : u2.cell? ⟨w.heap.size, 0, none⟩ = some (.int .i64 b.pos) ∧ u2.cell? ⟨w.heap.size, 1, none⟩ = some (.string b.data) ∧ u2.cell? ⟨n2, 0, none⟩ = some (.int .i64 g1.pos) ∧ u2.cell? ⟨n2, 1, none⟩ = some (.string g1.data) ∧ u2.cell? ⟨n2, 2, none⟩ = some (.bool g1.dirty) ∧ u2.cell? ⟨n2, 3, none⟩ = some (.int .i64 g1.used) ∧ u2.cell? ⟨n3, 0, none⟩ = some (.int .i64 g1.pos) ∧ u2.cell? ⟨n3, 1, none⟩ = some (.string g1.data) ∧ u2.cell? ⟨n3, 2, none⟩ = some (.bool g1.dirty) ∧ u2.cell? ⟨n3, 3, none⟩ = some (.int .i64 g1.used) := (by obtain ⟨c0, c1, c2, c3⟩ := L2.out.c4 3 rfl; obtain ⟨d0, d1, d2, d3⟩ := L2.out.c4 1 rfl; obtain ⟨e0, e1, e2, e3⟩ := L2.out.c4 0 rfl; exact ⟨c0, c1, d0, d1, d2, d3, e0, e1, e2, e3⟩); have H2 := Lib.hid (H1.out.below hb2); have Ho2 := Lib.hid hown2; have Ho12 := Lib.hid (own_below Ho1.out hb2); clear hb2 hown2)
      | ((with_reducible refine (samebufs_any (fun _ => True) (useB l b.pos now) (useB l b.pos now) _ _ _ (bufs_of_own (fun _ _ => trivial) Ho12.out Huok.out) (bufs_of_own (fun _ _ => trivial) Ho2.out Huok.out)).mono ?_); rintro e u3 ⟨rfl, hb3⟩; rw [decide_eq_true rfl]; have L3 := Lib.hid (L2.out.step hb3); have K3 : u3.cell? ⟨w.heap.size, 0, none⟩ = some (.int .i64 b.pos) ∧ u3.cell? ⟨w.heap.size, 1, none⟩ = some (.string b.data) ∧ u3.cell? ⟨n2, 0, none⟩ = some (.int .i64 g1.pos) ∧ u3.cell? ⟨n2, 1, none⟩ = some (.string g1.data) ∧ u3.cell? ⟨n2, 2, none⟩ = some (.bool g1.dirty) ∧ u3.cell? ⟨n2, 3, none⟩ = some (.int .i64 g1.used) ∧ u3.cell? ⟨n3, 0, none⟩ = some (.int .i64 g1.pos) ∧ u3.cell? ⟨n3, 1, none⟩ = some (.string g1.data) ∧ u3.cell? ⟨n3, 2, none⟩ = some (.bool g1.dirty) ∧ u3.cell? ⟨n3, 3, none⟩ = some (.int .i64 g1.used) := (by obtain ⟨c0, c1, c2, c3⟩ := L3.out.c4 3 rfl; obtain ⟨d0, d1, d2, d3⟩ := L3.out.c4 1 rfl; obtain ⟨e0, e1, e2, e3⟩ := L3.out.c4 0 rfl; exact ⟨c0, c1, d0, d1, d2, d3, e0, e1, e2, e3⟩); have H3 := Lib.hid (H2.out.below hb3); clear hb3)
      | ((with_reducible refine (dirty_any Any l _ _ H3.out (by omega)).mono ?_); rintro e u4 ⟨rfl, hb4⟩; have L4 := Lib.hid (L3.out.step hb4); have K4 : u4.cell? ⟨w.heap.size, 0, none⟩ = some (.int .i64 b.pos) ∧ u4.cell? ⟨w.heap.size, 1, none⟩ = some (.string b.data) ∧ u4.cell? ⟨n2, 0, none⟩ = some (.int .i64 g1.pos) ∧ u4.cell? ⟨n2, 1, none⟩ = some (.string g1.data) ∧ u4.cell? ⟨n2, 2, none⟩ = some (.bool g1.dirty) ∧ u4.cell? ⟨n2, 3, none⟩ = some (.int .i64 g1.used) ∧ u4.cell? ⟨n3, 0, none⟩ = some (.int .i64 g1.pos) ∧ u4.cell? ⟨n3, 1, none⟩ = some (.string g1.data) ∧ u4.cell? ⟨n3, 2, none⟩ = some (.bool g1.dirty) ∧ u4.cell? ⟨n3, 3, none⟩ = some (.int .i64 g1.used) := (by obtain ⟨c0, c1, c2, c3⟩ := L4.out.c4 3 rfl; obtain ⟨d0, d1, d2, d3⟩ := L4.out.c4 1 rfl; obtain ⟨e0, e1, e2, e3⟩ := L4.out.c4 0 rfl; exact ⟨c0, c1, d0, d1, d2, d3, e0, e1, e2, e3⟩); have H4 := Lib.hid (H3.out.below hb4); clear hb4)
      | ((with_reducible refine (rdirty_any Any l _ _ H4.out (by omega)).mono ?_); rintro e u5 ⟨rfl, hb5⟩; have L5 := Lib.hid (L4.out.step hb5); have K5 : u5.cell? ⟨w.heap.size, 0, none⟩ = some (.int .i64 b.pos) ∧ u5.cell? ⟨w.heap.size, 1, none⟩ = some (.string b.data) ∧ u5.cell? ⟨n2, 0, none⟩ = some (.int .i64 g1.pos) ∧ u5.cell? ⟨n2, 1, none⟩ = some (.string g1.data) ∧ u5.cell? ⟨n2, 2, none⟩ = some (.bool g1.dirty) ∧ u5.cell? ⟨n2, 3, none⟩ = some (.int .i64 g1.used) ∧ u5.cell? ⟨n3, 0, none⟩ = some (.int .i64 g1.pos) ∧ u5.cell? ⟨n3, 1, none⟩ = some (.string g1.data) ∧ u5.cell? ⟨n3, 2, none⟩ = some (.bool g1.dirty) ∧ u5.cell? ⟨n3, 3, none⟩ = some (.int .i64 g1.used) := (by obtain ⟨c0, c1, c2, c3⟩ := L5.out.c4 3 rfl; obtain ⟨d0, d1, d2, d3⟩ := L5.out.c4 1 rfl; obtain ⟨e0, e1, e2, e3⟩ := L5.out.c4 0 rfl; exact ⟨c0, c1, d0, d1, d2, d3, e0, e1, e2, e3⟩); clear hb5)
      | fail)
  clear K0 K1 K2 K3 K4 K5 hne hdl Ho1 Ho2 Ho12 Huok H1 H2 H3 H4 H6 L1 L2 L3 L4 L6d L5' Hg
  have HHold := Lib.hid (cachesays_held hl (w.heap.size + 1) u5 H32.out (L5.out.at_ 2 rfl))
  have Hs : Hid ((Try.prog.info? 73).map (·.size) = some (hldV hl).size) := show _ = _ by rw [heldInfo]; simp [hldV, H32.out]
  have Hcok := Lib.hid (clean_ok H.out.2 b.pos b.data)
  have hu := Try.underlying73
  have hi7 : (Try.prog.info? 73).map (·.size) = some (hl.map Value.bool).length := by rw [heldInfo]; simp [H32.out]
  obtain ⟨q0, q1, q2, q3⟩ := L5.out.c4 3 rfl
  cases hp : putB l b (heldL hl) with
  | none =>
    have Hp := Lib.hid hp
    go_wp2_with fail
    refine (put_none Any l _ b _ _ _ (heldL hl) _ (H.out.below L5.out.below) HR.out HI.out HHold.out (by omega) Hp.out).mono ?_
    rintro e w8 ⟨rfl, hb8⟩
    have L8 := Lib.hid (L5.out.step hb8)
    clear hb8 q0 q1 q2 q3
    obtain ⟨q0, q1, q2, q3⟩ := L8.out.c4 3 rfl
    have Hrow := Lib.hid (L8.out.at_ 2 rfl)
    go_wp2_with (refine wpList_load_row rfl 73 (.tmp 6) rfl (w.heap.size + 1) rfl 73 (hldV hl) (0, 0) _ Hrow.out Try.underlying73 rfl Hs.out ?_)
    refine (rput_none Any l _ b hl _ (H.out.below L8.out.below) HR.out HI.out H32.out hl8 Hp.out).mono ?_
    rintro e w9 ⟨rfl, hb9⟩
    have L9 := Lib.hid (L8.out.step hb9)
    clear hb9 q0 q1 q2 q3 Hrow
    have HA9 : BufsAt (fun _ => True) w9.drew (.slice none 0 0) [] := bufs_nil
    have HB9 : BufsAt (fun _ => True) w9.drew (.slice none 0 0) [] := bufs_nil
    go_wp2_with fail
    have L9d := Lib.hid (L9.out.drew)
    have K0 : w9.drew.cell? ⟨w.heap.size, 0, none⟩ = some (.int .i64 b.pos) ∧ w9.drew.cell? ⟨w.heap.size, 1, none⟩ = some (.string b.data) ∧ w9.drew.rangeAt (w.heap.size + 1) 0 (hl.map Value.bool) := (by obtain ⟨c0, c1, c2, c3⟩ := L9d.out.c4 3 rfl; exact ⟨c0, c1, range_of_row (L9d.out.at_ 2 rfl)⟩)
    have H9 := Lib.hid (H.out.below L9d.out.below)
    have HA9 := Lib.hid HA9
    have HB9 := Lib.hid HB9
    go_region_held3 (fun u => u.cell? ⟨w.heap.size, 0, none⟩ = some (.int .i64 b.pos) ∧ u.cell? ⟨w.heap.size, 1, none⟩ = some (.string b.data) ∧ u.rangeAt (w.heap.size + 1) 0 (hl.map Value.bool))
      (first | exact K6 | exact K5 | exact K4 | exact K3 | exact K2 | exact K1 | exact K0)
      (first
        | (go_at_call 17; refine (same_any 7 7 _).mono ?_; rintro e u1 ⟨rfl, rfl⟩; rw [show (((7 : Nat) : Int) == 7) = true from rfl])
        | ((with_reducible refine (samebufs_any (fun _ => True) ([] : List Bf) ([] : List Bf) _ _ _ HA9.out HB9.out).mono ?_); rintro e u2 ⟨rfl, hb2⟩; rw [decide_eq_true rfl]; have L2 := Lib.hid (L9d.out.step hb2); have K1 : u2.cell? ⟨w.heap.size, 0, none⟩ = some (.int .i64 b.pos) ∧ u2.cell? ⟨w.heap.size, 1, none⟩ = some (.string b.data) ∧ u2.rangeAt (w.heap.size + 1) 0 (hl.map Value.bool) := (by obtain ⟨c0, c1, c2, c3⟩ := L2.out.c4 3 rfl; exact ⟨c0, c1, range_of_row (L2.out.at_ 2 rfl)⟩); have H2 := Lib.hid (H9.out.below hb2); have hB2 := hb2; clear hb2)
        | ((with_reducible refine (clean_any Any l _ b.pos b.data _ H2.out HR.out (by omega)).mono ?_); rintro e u3 ⟨v3, rfl, hown3, hb3⟩; have L3 := Lib.hid (L2.out.step hb3); have K2 : u3.cell? ⟨w.heap.size, 0, none⟩ = some (.int .i64 b.pos) ∧ u3.cell? ⟨w.heap.size, 1, none⟩ = some (.string b.data) ∧ u3.rangeAt (w.heap.size + 1) 0 (hl.map Value.bool) := (by obtain ⟨c0, c1, c2, c3⟩ := L3.out.c4 3 rfl; exact ⟨c0, c1, range_of_row (L3.out.at_ 2 rfl)⟩); have H3 := Lib.hid (H2.out.below hb3); have Ho3 := Lib.hid hown3; clear hb3 hown3)
        | ((with_reducible refine (rclean_any Any l _ b.pos b.data _ H3.out (by omega)).mono ?_); rintro e u4 ⟨v4, rfl, hown4, hb4⟩; have L4 := Lib.hid (L3.out.step hb4); have K3 : u4.cell? ⟨w.heap.size, 0, none⟩ = some (.int .i64 b.pos) ∧ u4.cell? ⟨w.heap.size, 1, none⟩ = some (.string b.data) ∧ u4.rangeAt (w.heap.size + 1) 0 (hl.map Value.bool) := (by obtain ⟨c0, c1, c2, c3⟩ := L4.out.c4 3 rfl; exact ⟨c0, c1, range_of_row (L4.out.at_ 2 rfl)⟩); have H4 := Lib.hid (H3.out.below hb4); have Ho4 := Lib.hid hown4; have Ho34 := Lib.hid (own_below Ho3.out hb4); clear hb4 hown4)
        | ((with_reducible refine (samebufs_any (fun _ => True) (cleanB l b.pos b.data) (cleanB l b.pos b.data) _ _ _ (bufs_of_own (fun _ _ => trivial) Ho34.out Hcok.out) (bufs_of_own (fun _ _ => trivial) Ho4.out Hcok.out)).mono ?_); rintro e u5 ⟨rfl, hb5⟩; rw [decide_eq_true rfl]; have L5 := Lib.hid (L4.out.step hb5); have K4 : u5.cell? ⟨w.heap.size, 0, none⟩ = some (.int .i64 b.pos) ∧ u5.cell? ⟨w.heap.size, 1, none⟩ = some (.string b.data) ∧ u5.rangeAt (w.heap.size + 1) 0 (hl.map Value.bool) := (by obtain ⟨c0, c1, c2, c3⟩ := L5.out.c4 3 rfl; exact ⟨c0, c1, range_of_row (L5.out.at_ 2 rfl)⟩); have H5 := Lib.hid (H4.out.below hb5); clear hb5)
        | ((with_reducible refine (pick_any Any l _ _ _ _ (heldL hl) _ H5.out HI.out (cachesays_held hl (w.heap.size + 1) _ H32.out (L5.out.at_ 2 rfl)) (by omega)).mono ?_); rintro e u6 ⟨rfl, hb6⟩; have L6 := Lib.hid (L5.out.step hb6); have K5 : u6.cell? ⟨w.heap.size, 0, none⟩ = some (.int .i64 b.pos) ∧ u6.cell? ⟨w.heap.size, 1, none⟩ = some (.string b.data) ∧ u6.rangeAt (w.heap.size + 1) 0 (hl.map Value.bool) := (by obtain ⟨c0, c1, c2, c3⟩ := L6.out.c4 3 rfl; exact ⟨c0, c1, range_of_row (L6.out.at_ 2 rfl)⟩); have H6 := Lib.hid (H5.out.below hb6); clear hb6)
        | ((with_reducible refine (rpick_arr Any l _ hl _ H6.out HI.out H32.out (by omega)).mono ?_); rintro e u7 ⟨rfl, hb7⟩; have L7 := Lib.hid (L6.out.step hb7); have K6 : u7.cell? ⟨w.heap.size, 0, none⟩ = some (.int .i64 b.pos) ∧ u7.cell? ⟨w.heap.size, 1, none⟩ = some (.string b.data) ∧ u7.rangeAt (w.heap.size + 1) 0 (hl.map Value.bool) := (by obtain ⟨c0, c1, c2, c3⟩ := L7.out.c4 3 rfl; exact ⟨c0, c1, range_of_row (L7.out.at_ 2 rfl)⟩); clear hb7)
        | fail)
    go_wp2_with fail
    go_ret
    exact ⟨rfl, L7.out.below⟩
  | some m =>
    have Hp := Lib.hid hp
    have Hmok := Lib.hid (put_ok H.out.2 Hbok.out hp)
    go_wp2_with fail
    refine (put_some Any l m _ b _ _ _ (heldL hl) _ (H.out.below L5.out.below) HR.out HI.out HHold.out (by omega) Hp.out).mono ?_
    rintro e w8 ⟨v8, rfl, hown8, hb8⟩
    have L8 := Lib.hid (L5.out.step hb8)
    have Ho8 := Lib.hid hown8
    clear hb8 q0 q1 q2 q3 hown8
    obtain ⟨q0, q1, q2, q3⟩ := L8.out.c4 3 rfl
    have Hrow := Lib.hid (L8.out.at_ 2 rfl)
    go_wp2_with (refine wpList_load_row rfl 73 (.tmp 6) rfl (w.heap.size + 1) rfl 73 (hldV hl) (0, 0) _ Hrow.out Try.underlying73 rfl Hs.out ?_)
    refine (rput_some Any l m _ b hl _ (H.out.below L8.out.below) HR.out HI.out H32.out hl8 Hp.out).mono ?_
    rintro e w9 ⟨v9, rfl, hown9, hb9⟩
    have L9 := Lib.hid (L8.out.step hb9)
    have HA9 := bufs_of_own (S := fun _ => True) (fun _ _ => trivial) (own_below (own_below Ho8.out hb9) (Below.refl _ _).drew) Hmok.out
    have HB9 := bufs_of_own (S := fun _ => True) (fun _ _ => trivial) (own_below hown9 (Below.refl _ _).drew) Hmok.out
    clear hb9 hown9 q0 q1 q2 q3 Hrow
    go_wp2_with fail
    have L9d := Lib.hid (L9.out.drew)
    have K0 : w9.drew.cell? ⟨w.heap.size, 0, none⟩ = some (.int .i64 b.pos) ∧ w9.drew.cell? ⟨w.heap.size, 1, none⟩ = some (.string b.data) ∧ w9.drew.rangeAt (w.heap.size + 1) 0 (hl.map Value.bool) := (by obtain ⟨c0, c1, c2, c3⟩ := L9d.out.c4 3 rfl; exact ⟨c0, c1, range_of_row (L9d.out.at_ 2 rfl)⟩)
    have H9 := Lib.hid (H.out.below L9d.out.below)
    have HA9 := Lib.hid HA9
    have HB9 := Lib.hid HB9
    go_region_held3 (fun u => u.cell? ⟨w.heap.size, 0, none⟩ = some (.int .i64 b.pos) ∧ u.cell? ⟨w.heap.size, 1, none⟩ = some (.string b.data) ∧ u.rangeAt (w.heap.size + 1) 0 (hl.map Value.bool))
      (first | exact K6 | exact K5 | exact K4 | exact K3 | exact K2 | exact K1 | exact K0)
      (first
        | (go_at_call 17; refine (same_nil 0 _).mono ?_; rintro e u1 ⟨rfl, rfl⟩; rw [beq_self_eq_true])
        | ((with_reducible refine (samebufs_any (fun _ => True) m m _ _ _ HA9.out HB9.out).mono ?_); rintro e u2 ⟨rfl, hb2⟩; rw [decide_eq_true rfl]; have L2 := Lib.hid (L9d.out.step hb2); have K1 : u2.cell? ⟨w.heap.size, 0, none⟩ = some (.int .i64 b.pos) ∧ u2.cell? ⟨w.heap.size, 1, none⟩ = some (.string b.data) ∧ u2.rangeAt (w.heap.size + 1) 0 (hl.map Value.bool) := (by obtain ⟨c0, c1, c2, c3⟩ := L2.out.c4 3 rfl; exact ⟨c0, c1, range_of_row (L2.out.at_ 2 rfl)⟩); have H2 := Lib.hid (H9.out.below hb2); have hB2 := hb2; clear hb2)
        | ((with_reducible refine (clean_any Any l _ b.pos b.data _ H2.out HR.out (by omega)).mono ?_); rintro e u3 ⟨v3, rfl, hown3, hb3⟩; have L3 := Lib.hid (L2.out.step hb3); have K2 : u3.cell? ⟨w.heap.size, 0, none⟩ = some (.int .i64 b.pos) ∧ u3.cell? ⟨w.heap.size, 1, none⟩ = some (.string b.data) ∧ u3.rangeAt (w.heap.size + 1) 0 (hl.map Value.bool) := (by obtain ⟨c0, c1, c2, c3⟩ := L3.out.c4 3 rfl; exact ⟨c0, c1, range_of_row (L3.out.at_ 2 rfl)⟩); have H3 := Lib.hid (H2.out.below hb3); have Ho3 := Lib.hid hown3; clear hb3 hown3)
        | ((with_reducible refine (rclean_any Any l _ b.pos b.data _ H3.out (by omega)).mono ?_); rintro e u4 ⟨v4, rfl, hown4, hb4⟩; have L4 := Lib.hid (L3.out.step hb4); have K3 : u4.cell? ⟨w.heap.size, 0, none⟩ = some (.int .i64 b.pos) ∧ u4.cell? ⟨w.heap.size, 1, none⟩ = some (.string b.data) ∧ u4.rangeAt (w.heap.size + 1) 0 (hl.map Value.bool) := (by obtain ⟨c0, c1, c2, c3⟩ := L4.out.c4 3 rfl; exact ⟨c0, c1, range_of_row (L4.out.at_ 2 rfl)⟩); have H4 := Lib.hid (H3.out.below hb4); have Ho4 := Lib.hid hown4; have Ho34 := Lib.hid (own_below Ho3.out hb4); clear hb4 hown4)
        | ((with_reducible refine (samebufs_any (fun _ => True) (cleanB l b.pos b.data) (cleanB l b.pos b.data) _ _ _ (bufs_of_own (fun _ _ => trivial) Ho34.out Hcok.out) (bufs_of_own (fun _ _ => trivial) Ho4.out Hcok.out)).mono ?_); rintro e u5 ⟨rfl, hb5⟩; rw [decide_eq_true rfl]; have L5 := Lib.hid (L4.out.step hb5); have K4 : u5.cell? ⟨w.heap.size, 0, none⟩ = some (.int .i64 b.pos) ∧ u5.cell? ⟨w.heap.size, 1, none⟩ = some (.string b.data) ∧ u5.rangeAt (w.heap.size + 1) 0 (hl.map Value.bool) := (by obtain ⟨c0, c1, c2, c3⟩ := L5.out.c4 3 rfl; exact ⟨c0, c1, range_of_row (L5.out.at_ 2 rfl)⟩); have H5 := Lib.hid (H4.out.below hb5); clear hb5)
        | ((with_reducible refine (pick_any Any l _ _ _ _ (heldL hl) _ H5.out HI.out (cachesays_held hl (w.heap.size + 1) _ H32.out (L5.out.at_ 2 rfl)) (by omega)).mono ?_); rintro e u6 ⟨rfl, hb6⟩; have L6 := Lib.hid (L5.out.step hb6); have K5 : u6.cell? ⟨w.heap.size, 0, none⟩ = some (.int .i64 b.pos) ∧ u6.cell? ⟨w.heap.size, 1, none⟩ = some (.string b.data) ∧ u6.rangeAt (w.heap.size + 1) 0 (hl.map Value.bool) := (by obtain ⟨c0, c1, c2, c3⟩ := L6.out.c4 3 rfl; exact ⟨c0, c1, range_of_row (L6.out.at_ 2 rfl)⟩); have H6 := Lib.hid (H5.out.below hb6); clear hb6)
        | ((with_reducible refine (rpick_arr Any l _ hl _ H6.out HI.out H32.out (by omega)).mono ?_); rintro e u7 ⟨rfl, hb7⟩; have L7 := Lib.hid (L6.out.step hb7); have K6 : u7.cell? ⟨w.heap.size, 0, none⟩ = some (.int .i64 b.pos) ∧ u7.cell? ⟨w.heap.size, 1, none⟩ = some (.string b.data) ∧ u7.rangeAt (w.heap.size + 1) 0 (hl.map Value.bool) := (by obtain ⟨c0, c1, c2, c3⟩ := L7.out.c4 3 rfl; exact ⟨c0, c1, range_of_row (L7.out.at_ 2 rfl)⟩); clear hb7)
        | fail)
    go_wp2_with fail
    go_ret
    exact ⟨rfl, L7.out.below⟩
end Go.Proofs.Ytdhiepcglnbkbaa
