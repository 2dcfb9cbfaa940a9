/- The reference's Merged: two requests that are next to each other, put together. -/
import Derived.Test.YtfklcfpkbnddfaaMergedB
namespace Go.Proofs.Ytfklcfpkbnddfaa
set_option linter.unusedSimpArgs false
set_option linter.unusedVariables false
open Go.RowKit Go.Sort

set_option maxRecDepth 100000 in
set_option maxHeartbeats 8000000 in
theorem rmerge_go (S : Nat → Prop) (x y : Rq) (vx vy : Value) (args : Array Value) (w : World) (hx : ReqAt S w vx x) (hy : ReqAt S w vy y) (okx : ReqOk x) (oky : ReqOk y) (hk : joinOk x y)
    (hargs : (args = #[vx, vy] ∧ y.lo + y.many ≠ x.lo) ∨ (args = #[vy, vx] ∧ x.lo + x.many = y.lo)) :
    Calls Try.prog 42 args w (RetMergeO (joinedM x y) w) := by
  obtain ⟨Ad, cd, At, ct, rfl, had, hat, adl, atl, _, _, _⟩ := hx.opened
  obtain ⟨Bd, dd, Bt, dt, rfl, hbd, hbt, bdl, btl, _, _, _⟩ := hy.opened
  have Had := Lib.hid had
  have Hat := Lib.hid hat
  have Hbd := Lib.hid hbd
  have Hbt := Lib.hid hbt
  have Hokx := Lib.hid okx
  have Hoky := Lib.hid oky
  obtain ⟨a1, a2, a3, a4, a5⟩ := okx.span
  obtain ⟨b1, b2, b3, b4, b5⟩ := oky.span
  have hsx : IntKind.i64.wrap (x.lo + x.many) = x.lo + x.many := IntWalk.i64_in _ (by omega)
  have hsy : IntKind.i64.wrap (y.lo + y.many) = y.lo + y.many := IntWalk.i64_in _ (by omega)
  have hsum : IntKind.i64.wrap (x.many + y.many) = x.many + y.many := IntWalk.i64_in _ (by omega)
  clear hx hy had hat hbd hbt okx oky
  obtain ⟨t1, t2⟩ := Hokx.out.tags
  obtain ⟨t3, t4⟩ := Hoky.out.tags
  have hl1 : x.data.length ≤ 30000 := by have := Hokx.out.shape; unfold shapeOk at this; split at this <;> omega
  have hl2 : y.data.length ≤ 30000 := by have := Hoky.out.shape; unfold shapeOk at this; split at this <;> omega
  have htg : IntKind.i64.wrap ((x.tags.length : Int) + (y.tags.length : Int)) = (x.tags.length : Int) + (y.tags.length : Int) := IntWalk.i64_in _ (by omega)
  have hj : joinedM x y = some (joinM x y) := by unfold joinedM; rw [if_pos hk]
  have Hj := Lib.hid hj
  clear hj
  obtain ⟨h1', h2', h3', h4'⟩ := hk
  have h1 : (x.lo + x.many != y.lo) = false := by simpa using h1'
  have h2 : y.write = x.write := h2'.symm
  have h3 : decide (4 < x.many + y.many) = false := by simp; omega
  have h4 : decide (4 < (x.tags.length : Int) + (y.tags.length : Int)) = false := by simp; omega
  obtain ⟨mb, hmb⟩ : ∃ m, m = min x.born y.born := ⟨_, rfl⟩
  have hmin : (if y.born < x.born then y.born else x.born) = mb := by rw [hmb, Int.min_def]; split <;> split <;> omega
  have Hmb := Lib.hid hmb
  clear hmb
  clear h1' h2' h3' h4'
  obtain ⟨i0, hi0, hz0, hz1, hz2⟩ := info_parts stringInfo
  obtain ⟨i1, hi1, hy0, hy1, hy2⟩ := info_parts intInfo
  rcases hargs with ⟨rfl, hs⟩ | ⟨rfl, hs⟩
  have hs1 : (y.lo + y.many == x.lo) = false := by simpa using hs
  rotate_left
  have hs1 : (x.lo + x.many == y.lo) = true := by simpa using hs
  rotate_left
  all_goals
    clear hs
    go_enter Try.func42, Try.ntmps42
    go_wp2_with fail
    have L := ((((Lay.refl w).alloc' w.heap.size #[Value.bool x.write, Value.int IntKind.i64 x.lo, Value.int IntKind.i64 x.many, Value.slice Ad x.data.length cd, Value.slice At x.tags.length ct, Value.int IntKind.i64 x.born] 45 rfl).alloc' (w.heap.size + 1) #[Value.bool x.write, Value.int IntKind.i64 y.lo, Value.int IntKind.i64 y.many, Value.slice Bd y.data.length dd, Value.slice Bt y.tags.length dt, Value.int IntKind.i64 y.born] 45 (by simp)).alloc' (w.heap.size + 1 + 1) #[Value.bool false, Value.int IntKind.i64 0, Value.int IntKind.i64 0, Value.slice none 0 0, Value.slice none 0 0, Value.int IntKind.i64 0] 45 (by simp)).alloc' (w.heap.size + 1 + 1 + 1) #[Value.bool x.write, Value.int IntKind.i64 x.lo, Value.int IntKind.i64 (x.many + y.many), Value.slice none 0 0, Value.slice none 0 0, Value.int IntKind.i64 mb] 45 (by simp)
    generalize World.alloc _ _ = W at L ⊢
    clear hs1 h1 h3 h4 hmin hsx hsy hsum htg
    have HadW := Lib.hid ((Had.out.below L.below).1.below (w' := W.drew) (Below.refl _ _).drew)
    have HbdW := Lib.hid ((Hbd.out.below L.below).1.below (w' := W.drew) (Below.refl _ _).drew)
    have H1x := Lib.hid (strs_one x.data)
    have H1y := Lib.hid (strs_one y.data)
    have Hbd0 := Lib.hid (Hbd.out.below L.below).1
    have hLs := L.size
    obtain ⟨_, _, _, c3, _, _⟩ := L.c6 3 rfl
    obtain ⟨_, _, _, d3, _, _⟩ := L.c6 2 rfl
    go_region_law (first
      | (refine step_append_rd (S := S) _ rfl (.const (.slice none 0 0)) (.tmp 79) 42 rfl W.heap.size 9 i0 _ 1 16 Try.underlying42 hi0 hz0 hz1 hz2 rfl (by omega) (.slice none 0 0) 0 [] rfl (World.ownsRow_nil _ _ _ _) (.slice Ad x.data.length cd) x.data.length (x.data.map .string) rfl HadW.out H1x.out (by simp only [maxLen]; omega) (by omega) (by simp) ?_; intro v1 w1 hown1 hg1 hat1; clear hat1; have hb1 := (Below.refl W.heap.size W).drew.grown hg1 (by simp) (fun k hk => by simp [Value.ownBlock] at hk); have e3 := cell_below' hb1 d3; have e4 := hb1.size)
      | (refine step_append_rd (S := S) _ rfl (.tmp 80) (.tmp 82) 42 rfl W.heap.size 9 i0 _ 1 16 Try.underlying42 hi0 hz0 hz1 hz2 rfl (by omega) _ _ _ rfl hown1 (.slice Bd y.data.length dd) y.data.length (y.data.map .string) rfl (Hbd0.out.below hb1) H1y.out (by simp only [maxLen]; omega) (by omega) e4 ?_; intro v2 w2 hown2 hg2 hat2; clear hat2; have hb2 := hb1.grown hg2 e4 (fun k hk => (hown1.lt k hk).1); simp only [Nat.zero_add, List.nil_append] at hown2; obtain ⟨A2, c2, rfl⟩ := own_slice hown2; have L2 := L.step hb2; have z2 := (L2.c6 0 rfl).2.2.2.1; have f2 := L2.frozen 0 rfl 3))
    all_goals
      have L3 := L2.set 0 rfl 3 (.slice A2 (x.data.length + y.data.length) c2)
      have hB6 : w.heap.size + 1 + 1 + 1 < W.heap.size := L.lt (x := (w.heap.size + 1 + 1 + 1, _, _)) (List.mem_cons_self)
      have hown3 := ownsRow_setCell_below hown2 (a := ⟨w.heap.size + 1 + 1 + 1, 3, none⟩) hB6 (.slice A2 (x.data.length + y.data.length) c2)
      have hW3 : W.heap.size ≤ (w2.setCell ⟨w.heap.size + 1 + 1 + 1, 3, none⟩ (.slice A2 (x.data.length + y.data.length) c2)).heap.size := by have := hb2.size; simpa using this
      generalize World.setCell _ _ _ = W3 at L3 hown3 hW3 ⊢
      clear L2 hown2 hown1 hg1 hg2 hb1 hb2 e3 e4 z2 f2 c3 d3 HadW HbdW Hbd0 H1x H1y
      have HatW := Lib.hid ((Hat.out.below L3.below).1.below (w' := W3.drew) (Below.refl _ _).drew)
      have Hbt0 := Lib.hid (Hbt.out.below L3.below).1
      have H1s := Lib.hid (ints_one x.tags)
      have H1t := Lib.hid (ints_one y.tags)
      obtain ⟨_, _, _, _, c4, _⟩ := L3.c6 3 rfl
      obtain ⟨_, _, _, _, d4, _⟩ := L3.c6 2 rfl
      have Hown3 := Lib.hid hown3
      clear hown3
      go_wp2_with fail
      go_region_law (first
        | (refine step_append_rd (S := S) _ rfl (.const (.slice none 0 0)) (.tmp 86) 43 rfl W3.heap.size 3 i1 _ 1 8 Try.underlying43 hi1 hy0 hy1 hy2 rfl (by omega) (.slice none 0 0) 0 [] rfl (World.ownsRow_nil _ _ _ _) (.slice At x.tags.length ct) x.tags.length (x.tags.map (.int .i64)) rfl HatW.out H1s.out (by simp only [maxLen]; omega) (by omega) (by simp) ?_; intro v3 w4 hown4 hg4 hat4; clear hat4; have hb4 := (Below.refl W3.heap.size W3).drew.grown hg4 (by simp) (fun k hk => by simp [Value.ownBlock] at hk); have e5 := cell_below' hb4 d4; have e6 := hb4.size)
        | (refine step_append_rd (S := S) _ rfl (.tmp 87) (.tmp 89) 43 rfl W3.heap.size 3 i1 _ 1 8 Try.underlying43 hi1 hy0 hy1 hy2 rfl (by omega) _ _ _ rfl hown4 (.slice Bt y.tags.length dt) y.tags.length (y.tags.map (.int .i64)) rfl (Hbt0.out.below hb4) H1t.out (by simp only [maxLen]; omega) (by omega) e6 ?_; intro v5 w5 hown5 hg5 hat5; clear hat5; have hb5 := hb4.grown hg5 e6 (fun k hk => (hown4.lt k hk).1); simp only [Nat.zero_add, List.nil_append] at hown5; obtain ⟨A3, c3, rfl⟩ := own_slice hown5; have L5 := L3.step hb5; have z5 := (L5.c6 0 rfl).2.2.2.2.1; have f5 := L5.frozen 0 rfl 4))
      all_goals
        have L6 := L5.set 0 rfl 4 (.slice A3 (x.tags.length + y.tags.length) c3)
        have hownp := ownsRow_setCell_below (own_keepL Hown3.out (fun g _ hg => hb5.block g hg)) (a := ⟨w.heap.size + 1 + 1 + 1, 4, none⟩) hB6 (.slice A3 (x.tags.length + y.tags.length) c3)
        have hownq := ownsRow_setCell_below (own_mono hown5 hW3) (a := ⟨w.heap.size + 1 + 1 + 1, 4, none⟩) hB6 (.slice A3 (x.tags.length + y.tags.length) c3)
        generalize World.setCell _ _ _ = W6 at L6 hownp hownq ⊢
        clear L5 hown5 hown4 hg4 hg5 hb4 hb5 e5 e6 z5 f5 c4 d4 HatW Hbt0 H1s H1t Hown3
        obtain ⟨k0, k1, k2, k3, k4, k5⟩ := L6.c6 0 rfl
        obtain ⟨z0, z1, z2, z3, z4, z5⟩ := L6.c6 1 rfl
        have fz := fun j => L6.frozen 1 rfl j
        go_wp2_with fail
        clear k0 k1 k2 k3 k4 k5 z0 z1 z2 z3 z4 z5 fz
        have L7 := L6.put6 1 rfl (.bool x.write) (.int .i64 x.lo) (.int .i64 (x.many + y.many)) (.slice A2 (x.data.length + y.data.length) c2) (.slice A3 (x.tags.length + y.tags.length) c3) (.int .i64 mb)
        have hko := put6_keep W6 (w.heap.size + 1 + 1) (.bool x.write) (.int .i64 x.lo) (.int .i64 (x.many + y.many)) (.slice A2 (x.data.length + y.data.length) c2) (.slice A3 (x.tags.length + y.tags.length) c3) (.int .i64 mb)
        generalize World.setCell _ _ _ = W7 at L7 hko ⊢
        obtain ⟨z0, z1, z2, z3, z4, z5⟩ := L7.c6 1 rfl
        have hmb := Hmb.out
        subst hmb
        rw [Hj.out]
        refine bodyPost_ret ?_ rfl (reto_joined hLs Hokx.out Hoky.out (fun s hs => Had.out.2 s hs) (fun s hs => Hbd.out.2 s hs) (fun s hs => Hat.out.2 s hs) (fun s hs => Hbt.out.2 s hs) (own_keepL hownp (fun g hg _ => hko g (by omega))) (own_keepL hownq (fun g hg _ => hko g (by omega))) L7.below)
        simp [results, Try.results42, go_sem, z0, z1, z2, z3, z4, z5]

theorem rmerge_own (S : Nat → Prop) (a b : Rq) (va vb : Value) (w : World) (ha : ReqAt S w va a) (hb : ReqAt S w vb b) (oka : ReqOk a) (okb : ReqOk b) :
    Calls Try.prog 42 #[va, vb] w (RetMergeO (mergeM a b) w) := by
  have key : ∀ (x y : Rq) (vx vy : Value), ReqAt S w vx x → ReqAt S w vy y → ReqOk x → ReqOk y → ((#[va, vb] = #[vx, vy] ∧ y.lo + y.many ≠ x.lo) ∨ (#[va, vb] = #[vy, vx] ∧ x.lo + x.many = y.lo)) → Calls Try.prog 42 #[va, vb] w (RetMergeO (joinedM x y) w) := by
    intro x y vx vy hx hy okx oky hargs
    by_cases hk : joinOk x y
    · exact rmerge_go S x y vx vy _ w hx hy okx oky hk hargs
    · exact rmerge_bad S x y vx vy _ w hx hy okx oky hk hargs
  unfold mergeM swapM
  by_cases hs : b.lo + b.many = a.lo
  · rw [if_pos hs]; exact key b a vb va hb ha okb oka (.inr ⟨rfl, hs⟩)
  · rw [if_neg hs]; exact key a b va vb ha hb oka okb (.inl ⟨rfl, hs⟩)
theorem rmerge_any (S : Nat → Prop) (a b : Rq) (va vb : Value) (w : World) (hS : ∀ b, w.heap.size ≤ b → S b) (ha : ReqAt S w va a) (hb : ReqAt S w vb b) (oka : ReqOk a) (okb : ReqOk b) :
    Calls Try.prog 42 #[va, vb] w (RetMerge S (mergeM a b) w) :=
  (rmerge_own S a b va vb w ha hb oka okb).mono fun _ _ ⟨v, he, hc, hb⟩ => ⟨v, he, hc.req hS, hb⟩
end Go.Proofs.Ytfklcfpkbnddfaa
