
/- request.Check. -/
import Derived.Test.YtdhiepcglnbkbaaCheck
namespace Go.Proofs.Ytdhiepcglnbkbaa
open Go.RowKit
set_option maxRecDepth 100000 in
set_option maxHeartbeats 4000000 in
theorem reqcheck_any (S : Nat → Prop) (r : Rq) (v : Value) (w : World) (h : ReqAt S w v r) :
    Calls Try.prog 53 #[v] w (Ret (errV (reqF r)) w) := by
  obtain ⟨Ad, cd, At, ct, rfl, hd, ht, dm, tm, _, _, _⟩ := h.opened
  have Hd := Lib.hid hd
  clear hd ht h
  by_cases hs : SpanOk r.lo r.many 4
  · have fs := spanF_pos hs
    have Hs := Lib.hid hs
    have hm1 : 1 ≤ r.many := hs.2.2.1
    clear hs
    by_cases hsh : shapeOk r
    · have Hsh := Lib.hid hsh
      have q : (r.write = true ∧ ((r.data.length : Int) == r.many) = true ∧ 0 < (r.data.length : Int)) ∨ (r.write = false ∧ (¬ 0 < (r.data.length : Int)) ∧ decide (0 < r.data.length) = false) := by
        unfold shapeOk at hsh
        cases hw : r.write with
        | true => rw [hw] at hsh; simp at hsh; left; exact ⟨rfl, by simpa using hsh, by omega⟩
        | false => rw [hw] at hsh; simp at hsh; right; exact ⟨rfl, by rw [hsh]; simp, by rw [hsh]; simp⟩
      clear hsh
      by_cases htg : tagsOk r
      · have Htg := Lib.hid htg
        have t1 : (1 : Int) ≤ (r.tags.length : Int) := by have := htg.1; omega
        have t2 : (r.tags.length : Int) ≤ 4 := by have := htg.2; omega
        have t0 : ((r.tags.length : Int) == 0) = false := by simp; intro h; rw [h] at t1; simp at t1
        clear htg
        by_cases hbn : bornOk r
        · have Hbn := Lib.hid hbn
          have b1 : 0 ≤ r.born := hbn.1
          have b2 : r.born ≤ 1000000000 := hbn.2
          clear hbn
          rcases q with ⟨hw, hq, hq2⟩ | ⟨hw, hq, hqd⟩
          · have hq3 : ((r.data.length : Int) != r.many) = false := by rw [bne, hq]; rfl
            cases hall : r.data.all (fun s => decide (s.size ≤ 4)) with
            | true =>
              rw [reqF_ok ⟨Hs.out, Hsh.out, Htg.out, Hbn.out, hall⟩]
              go_enter Try.func53, Try.ntmps53
              go_wp2_with (first | (go_at_call 75; refine (check_any _ _ _ _ (by omega)).mono ?_; rintro e w1 ⟨rfl, hb1⟩; obtain ⟨hc1, hf1⟩ := bcell hb1; have hz1 := hb1.size; simp only [World.size_alloc] at hz1) | (go_at_call 76; refine (contains1_any S r.data _ _ (Hd.out.below (((Below.refl _ _).alloc (Nat.le_refl _) _).trans (hb1.mono (by simp))))).mono ?_; rintro e w2 ⟨rfl, rfl⟩))
              go_ret
              exact ⟨rfl, ((Below.refl _ _).alloc (Nat.le_refl _) _).trans (hb1.mono (by simp))⟩
            | false =>
              rw [reqF_data Hs.out Hsh.out Htg.out Hbn.out hall]
              go_enter Try.func53, Try.ntmps53
              go_wp2_with (first | (go_at_call 75; refine (check_any _ _ _ _ (by omega)).mono ?_; rintro e w1 ⟨rfl, hb1⟩; obtain ⟨hc1, hf1⟩ := bcell hb1; have hz1 := hb1.size; simp only [World.size_alloc] at hz1) | (go_at_call 76; refine (contains1_any S r.data _ _ (Hd.out.below (((Below.refl _ _).alloc (Nat.le_refl _) _).trans (hb1.mono (by simp))))).mono ?_; rintro e w2 ⟨rfl, rfl⟩))
              go_ret
              exact ⟨rfl, ((Below.refl _ _).alloc (Nat.le_refl _) _).trans (hb1.mono (by simp))⟩
          · skip
            cases hall : r.data.all (fun s => decide (s.size ≤ 4)) with
            | true =>
              rw [reqF_ok ⟨Hs.out, Hsh.out, Htg.out, Hbn.out, hall⟩]
              go_enter Try.func53, Try.ntmps53
              go_wp2_with (first | (go_at_call 75; refine (check_any _ _ _ _ (by omega)).mono ?_; rintro e w1 ⟨rfl, hb1⟩; obtain ⟨hc1, hf1⟩ := bcell hb1; have hz1 := hb1.size; simp only [World.size_alloc] at hz1) | (go_at_call 76; refine (contains1_any S r.data _ _ (Hd.out.below (((Below.refl _ _).alloc (Nat.le_refl _) _).trans (hb1.mono (by simp))))).mono ?_; rintro e w2 ⟨rfl, rfl⟩))
              go_ret
              exact ⟨rfl, ((Below.refl _ _).alloc (Nat.le_refl _) _).trans (hb1.mono (by simp))⟩
            | false =>
              rw [reqF_data Hs.out Hsh.out Htg.out Hbn.out hall]
              go_enter Try.func53, Try.ntmps53
              go_wp2_with (first | (go_at_call 75; refine (check_any _ _ _ _ (by omega)).mono ?_; rintro e w1 ⟨rfl, hb1⟩; obtain ⟨hc1, hf1⟩ := bcell hb1; have hz1 := hb1.size; simp only [World.size_alloc] at hz1) | (go_at_call 76; refine (contains1_any S r.data _ _ (Hd.out.below (((Below.refl _ _).alloc (Nat.le_refl _) _).trans (hb1.mono (by simp))))).mono ?_; rintro e w2 ⟨rfl, rfl⟩))
              go_ret
              exact ⟨rfl, ((Below.refl _ _).alloc (Nat.le_refl _) _).trans (hb1.mono (by simp))⟩
        · have e := reqF_born Hs.out Hsh.out Htg.out hbn
          have bb : r.born < 0 ∨ 1000000000 < r.born := by unfold bornOk at hbn; omega
          rw [e]
          clear e hbn
          rcases q with ⟨hw, hq, hq2⟩ | ⟨hw, hq, hqd⟩
          · have hq3 : ((r.data.length : Int) != r.many) = false := by rw [bne, hq]; rfl
            rcases bb with bb | bb
            · skip
              go_enter Try.func53, Try.ntmps53
              go_wp2_with (go_at_call 75; refine (check_any _ _ _ _ (by omega)).mono ?_; rintro e w1 ⟨rfl, hb1⟩; obtain ⟨hc1, hf1⟩ := bcell hb1; have hz1 := hb1.size; simp only [World.size_alloc] at hz1)
              go_ret
              exact ⟨rfl, ((Below.refl _ _).alloc (Nat.le_refl _) _).trans (hb1.mono (by simp))⟩
            · skip
              go_enter Try.func53, Try.ntmps53
              go_wp2_with (go_at_call 75; refine (check_any _ _ _ _ (by omega)).mono ?_; rintro e w1 ⟨rfl, hb1⟩; obtain ⟨hc1, hf1⟩ := bcell hb1; have hz1 := hb1.size; simp only [World.size_alloc] at hz1)
              go_ret
              exact ⟨rfl, ((Below.refl _ _).alloc (Nat.le_refl _) _).trans (hb1.mono (by simp))⟩
          · rcases bb with bb | bb
            · skip
              go_enter Try.func53, Try.ntmps53
              go_wp2_with (go_at_call 75; refine (check_any _ _ _ _ (by omega)).mono ?_; rintro e w1 ⟨rfl, hb1⟩; obtain ⟨hc1, hf1⟩ := bcell hb1; have hz1 := hb1.size; simp only [World.size_alloc] at hz1)
              go_ret
              exact ⟨rfl, ((Below.refl _ _).alloc (Nat.le_refl _) _).trans (hb1.mono (by simp))⟩
            · skip
              go_enter Try.func53, Try.ntmps53
              go_wp2_with (go_at_call 75; refine (check_any _ _ _ _ (by omega)).mono ?_; rintro e w1 ⟨rfl, hb1⟩; obtain ⟨hc1, hf1⟩ := bcell hb1; have hz1 := hb1.size; simp only [World.size_alloc] at hz1)
              go_ret
              exact ⟨rfl, ((Below.refl _ _).alloc (Nat.le_refl _) _).trans (hb1.mono (by simp))⟩
      · have e := reqF_tags Hs.out Hsh.out htg
        have bb : r.tags.length = 0 ∨ 4 < (r.tags.length : Int) := by unfold tagsOk at htg; omega
        rw [e]
        clear e htg
        rcases q with ⟨hw, hq, hq2⟩ | ⟨hw, hq, hqd⟩
        · have hq3 : ((r.data.length : Int) != r.many) = false := by rw [bne, hq]; rfl
          rcases bb with bb | bb
          · skip
            go_enter Try.func53, Try.ntmps53
            go_wp2_with (go_at_call 75; refine (check_any _ _ _ _ (by omega)).mono ?_; rintro e w1 ⟨rfl, hb1⟩; obtain ⟨hc1, hf1⟩ := bcell hb1; have hz1 := hb1.size; simp only [World.size_alloc] at hz1)
            go_ret
            exact ⟨rfl, ((Below.refl _ _).alloc (Nat.le_refl _) _).trans (hb1.mono (by simp))⟩
          · have t0 : ((r.tags.length : Int) == 0) = false := by simp; intro h; rw [h] at bb; simp at bb
            go_enter Try.func53, Try.ntmps53
            go_wp2_with (go_at_call 75; refine (check_any _ _ _ _ (by omega)).mono ?_; rintro e w1 ⟨rfl, hb1⟩; obtain ⟨hc1, hf1⟩ := bcell hb1; have hz1 := hb1.size; simp only [World.size_alloc] at hz1)
            go_ret
            exact ⟨rfl, ((Below.refl _ _).alloc (Nat.le_refl _) _).trans (hb1.mono (by simp))⟩
        · rcases bb with bb | bb
          · skip
            go_enter Try.func53, Try.ntmps53
            go_wp2_with (go_at_call 75; refine (check_any _ _ _ _ (by omega)).mono ?_; rintro e w1 ⟨rfl, hb1⟩; obtain ⟨hc1, hf1⟩ := bcell hb1; have hz1 := hb1.size; simp only [World.size_alloc] at hz1)
            go_ret
            exact ⟨rfl, ((Below.refl _ _).alloc (Nat.le_refl _) _).trans (hb1.mono (by simp))⟩
          · have t0 : ((r.tags.length : Int) == 0) = false := by simp; intro h; rw [h] at bb; simp at bb
            go_enter Try.func53, Try.ntmps53
            go_wp2_with (go_at_call 75; refine (check_any _ _ _ _ (by omega)).mono ?_; rintro e w1 ⟨rfl, hb1⟩; obtain ⟨hc1, hf1⟩ := bcell hb1; have hz1 := hb1.size; simp only [World.size_alloc] at hz1)
            go_ret
            exact ⟨rfl, ((Below.refl _ _).alloc (Nat.le_refl _) _).trans (hb1.mono (by simp))⟩
    · have e := reqF_shape Hs.out hsh
      rw [e]
      clear e
      cases hw : r.write with
      | true =>
        have q1 : ((r.data.length : Int) == r.many) = false := by unfold shapeOk at hsh; rw [hw] at hsh; simpa using hsh
        have q2 : ((r.data.length : Int) != r.many) = true := by rw [bne, q1]; rfl
        clear hsh
        by_cases hl : 0 < (r.data.length : Int)
        · skip
          go_enter Try.func53, Try.ntmps53
          go_wp2_with (go_at_call 75; refine (check_any _ _ _ _ (by omega)).mono ?_; rintro e w1 ⟨rfl, hb1⟩; obtain ⟨hc1, hf1⟩ := bcell hb1; have hz1 := hb1.size; simp only [World.size_alloc] at hz1)
          go_ret
          exact ⟨rfl, ((Below.refl _ _).alloc (Nat.le_refl _) _).trans (hb1.mono (by simp))⟩
        · skip
          go_enter Try.func53, Try.ntmps53
          go_wp2_with (go_at_call 75; refine (check_any _ _ _ _ (by omega)).mono ?_; rintro e w1 ⟨rfl, hb1⟩; obtain ⟨hc1, hf1⟩ := bcell hb1; have hz1 := hb1.size; simp only [World.size_alloc] at hz1)
          go_ret
          exact ⟨rfl, ((Below.refl _ _).alloc (Nat.le_refl _) _).trans (hb1.mono (by simp))⟩
      | false =>
        have hl : 0 < (r.data.length : Int) := by unfold shapeOk at hsh; rw [hw] at hsh; simp at hsh; have := List.length_pos_iff.2 hsh; omega
        have hln : decide (0 < r.data.length) = true := decide_eq_true (by omega)
        clear hsh hl
        go_enter Try.func53, Try.ntmps53
        go_wp2_with (go_at_call 75; refine (check_any _ _ _ _ (by omega)).mono ?_; rintro e w1 ⟨rfl, hb1⟩; obtain ⟨hc1, hf1⟩ := bcell hb1; have hz1 := hb1.size; simp only [World.size_alloc] at hz1)
        go_ret
        exact ⟨rfl, ((Below.refl _ _).alloc (Nat.le_refl _) _).trans (hb1.mono (by simp))⟩
  · have fs := spanF_neg hs
    rw [reqF_span hs]
    clear hs
    go_enter Try.func53, Try.ntmps53
    go_wp2_with (go_at_call 75; refine (check_any _ _ _ _ (by omega)).mono ?_; rintro e w1 ⟨rfl, hb1⟩; obtain ⟨hc1, hf1⟩ := bcell hb1; have hz1 := hb1.size; simp only [World.size_alloc] at hz1)
    go_ret
    exact ⟨rfl, ((Below.refl _ _).alloc (Nat.le_refl _) _).trans (hb1.mono (by simp))⟩
end Go.Proofs.Ytdhiepcglnbkbaa
