
/- The reference's StepFault: which steps may be. gen_rfault.py prints this text. -/
import Derived.Test.YtecnpdkoodfemaaDoorCheckS
import Derived.Test.YtecnpdkoodfemaaDoorLay
namespace Go.Proofs.YtecnpdkoodfemaaDoor
set_option linter.unusedSimpArgs false
set_option linter.unusedVariables false
open Go.RowKit

theorem checkM_some {z : Stp} {k : Nat} (hk : formK z.word = some k) (h1 : partsB k z = false) (h2 : boundB z = false) : checkM z = if blankB z.data || z.data.toList == [45] then 3 else 0 := by
  unfold checkM
  rw [hk]
  simp only [h1, h2]
  simp
theorem con2 (x : UInt8) : ([32, 10] : List UInt8).contains x = (x == 32 || x == 10) := by
  rw [List.contains_cons, List.contains_cons, List.contains_nil, Bool.or_false]
theorem blank_hit {s : ByteArray} {i : Nat} {x : UInt8} (h : Lib.NoAny s.data.toList [32, 10] i) (hx : s.data.toList[i]? = some x) (hc : ([32, 10] : List UInt8).contains x = true) : blankB s = true := by
  unfold blankB Lib.containsAny
  rw [Lib.indexAny_hit h hx hc]
  simp
theorem blank_none {s : ByteArray} (h : Lib.NoAny s.data.toList [32, 10] s.size) : blankB s = false := by
  unfold blankB Lib.containsAny
  rw [Lib.indexAny_none (by rw [← Lib.size_eq]; exact h)]
  rfl
set_option maxRecDepth 100000 in
set_option maxHeartbeats 8000000 in
theorem rfault_any (z : Stp) (w : World) (hs : z.word.size ≤ maxLen) (hds : z.data.size ≤ maxLen) : Calls Tryd.prog 15 #[stpV z] w (Ret (.int .i64 (checkM z)) w) := by
  unfold maxLen at hds
  cases hk : formK z.word with
  | none =>
    have hT := formT_none hk
    have hm : checkM z = 3 := by unfold checkM; rw [hk]
    rw [hm]
    clear hm
    go_enter Tryd.func15, Tryd.ntmps15
    go_wp2_with fail
    have B := StpBox.new 33 z w
    generalize World.alloc _ _ = W at B ⊢
    generalize w.heap.size = bb at B ⊢
    obtain ⟨c0, c1, c2, c3⟩ := B.c
    have HB := Lib.hid B
    clear B
    refine (rform_any z.word W).mono ?_
    rintro e w1 ⟨rfl, rfl⟩
    rw [hT]
    go_wp2
    go_ret
    exact ⟨rfl, HB.out.bel⟩
  | some k =>
    have hT := formT_some hk
    have h3 := formK_le hk
    match k, h3, hk, hT with
    | 0, _, hk, hT =>
      change formT z.word = .tuple #[.string ⟨#[]⟩, .bool true] at hT
      rcases Bool.eq_false_or_eq_true (z.a != 0) with ha | ha
      · skip
        have hm : checkM z = 3 := by unfold checkM; rw [hk]; simp [partsB, boundB, ha]
        rw [hm]
        clear hm
        go_enter Tryd.func15, Tryd.ntmps15
        go_wp2_with fail
        have B := StpBox.new 33 z w
        generalize World.alloc _ _ = W at B ⊢
        generalize w.heap.size = bb at B ⊢
        obtain ⟨c0, c1, c2, c3⟩ := B.c
        have HB := Lib.hid B
        clear B
        refine (rform_any z.word W).mono ?_
        rintro e w1 ⟨rfl, rfl⟩
        rw [hT]
        go_wp2
        go_ret
        exact ⟨rfl, HB.out.bel⟩
      rcases Bool.eq_false_or_eq_true (z.b != 0) with hb0 | hb0
      · skip
        have hm : checkM z = 3 := by unfold checkM; rw [hk]; simp [partsB, boundB, ha, hb0]
        rw [hm]
        clear hm
        go_enter Tryd.func15, Tryd.ntmps15
        go_wp2_with fail
        have B := StpBox.new 33 z w
        generalize World.alloc _ _ = W at B ⊢
        generalize w.heap.size = bb at B ⊢
        obtain ⟨c0, c1, c2, c3⟩ := B.c
        have HB := Lib.hid B
        clear B
        refine (rform_any z.word W).mono ?_
        rintro e w1 ⟨rfl, rfl⟩
        rw [hT]
        go_wp2
        go_ret
        exact ⟨rfl, HB.out.bel⟩
      rcases Bool.eq_false_or_eq_true z.data.toList.isEmpty with hd | hd
      rotate_left
      · skip
        have hm : checkM z = 3 := by unfold checkM; rw [hk]; simp [partsB, boundB, ha, hb0, hd]
        rw [hm]
        clear hm
        go_enter Tryd.func15, Tryd.ntmps15
        go_wp2_with fail
        have B := StpBox.new 33 z w
        generalize World.alloc _ _ = W at B ⊢
        generalize w.heap.size = bb at B ⊢
        obtain ⟨c0, c1, c2, c3⟩ := B.c
        have HB := Lib.hid B
        clear B
        refine (rform_any z.word W).mono ?_
        rintro e w1 ⟨rfl, rfl⟩
        rw [hT]
        go_wp2
        go_ret
        exact ⟨rfl, HB.out.bel⟩
      have e5 : decide (9 < (z.data.size : Int)) = false := by rw [empty_of hd]; rfl
      have hb9 : z.b = 0 := by simpa using hb0
      have e3 : decide (z.b < 0) = false := by rw [hb9]; rfl
      have e4 : decide (999 < z.b) = false := by rw [hb9]; rfl
      clear hb9
      have ha9 : z.a = 0 := by simpa using ha
      have e1 : decide (z.a < 0) = false := by rw [ha9]; rfl
      have e2 : decide (999 < z.a) = false := by rw [ha9]; rfl
      clear ha9
      have hpb : partsB 0 z = false := by simp [partsB, ha, hb0, hd]
      have hbb : boundB z = false := by unfold boundB; rw [e1, e2, e3, e4, e5]; rfl
      have HC := Lib.hid (checkM_some hk hpb hbb)
      clear hpb hbb
      go_enter Tryd.func15, Tryd.ntmps15
      go_wp2_with fail
      have B := StpBox.new 33 z w
      generalize World.alloc _ _ = W at B ⊢
      generalize w.heap.size = bb at B ⊢
      obtain ⟨c0, c1, c2, c3⟩ := B.c
      have HB := Lib.hid B
      clear B
      refine (rform_any z.word W).mono ?_
      rintro e w1 ⟨rfl, rfl⟩
      rw [hT]
      go_wp2
      clear c0 c1 c2 c3
      go_loopw [5] (fun i wr => ∃ p : Nat, p ≤ z.data.size ∧ i = .int .i64 p ∧ wr = W ∧ Hid (Lib.NoAny z.data.data.toList [32, 10] p)) (fun i _ => z.data.size - (intOf i).toNat)
      case atStart => exact ⟨0, by omega, rfl, rfl, Lib.NoAny.zero _ _⟩
      case round =>
        obtain ⟨p, hp, rfl, rfl, hno⟩ := hrel
        obtain ⟨c0, c1, c2, c3⟩ := HB.out.c
        by_cases hlt : p < z.data.size
        · obtain ⟨x, hx⟩ : ∃ x : UInt8, z.data[p]'hlt = x := ⟨_, rfl⟩
          have Hx := Lib.hid (show z.data.data.toList[p]? = some x by rw [← hx]; exact Lib.data_getElem? z.data p hlt)
          have hp1 : (p : Int) < (z.data.size : Int) := by omega
          have h32 : ((x.toNat : Int) == 32) = (x == 32) := by
            rw [Bool.eq_iff_iff, beq_iff_eq, beq_iff_eq, ← UInt8.toNat_inj]
            show _ ↔ x.toNat = 32
            omega
          have h10 : ((x.toNat : Int) == 10) = (x == 10) := by
            rw [Bool.eq_iff_iff, beq_iff_eq, beq_iff_eq, ← UInt8.toNat_inj]
            show _ ↔ x.toNat = 10
            omega
          have Hc : Hid (([32, 10] : List UInt8).contains x = (x == 32 || x == 10)) := con2 x
          rcases Bool.eq_false_or_eq_true (x == 32) with e | e
          · rw [e] at h32
            have hbt := blank_hit hno.out Hx.out (by rw [Hc.out, e]; rfl)
            have hm : checkM z = 3 := by rw [HC.out, hbt]; rfl
            have HM := Lib.hid hm
            clear hbt hm
            go_wp2
            go_ret
            exact ⟨by rw [HM.out]; rfl, HB.out.bel⟩
          · rw [e] at h32
            rcases Bool.eq_false_or_eq_true (x == 10) with e2 | e2
            · rw [e2] at h10
              have hbt := blank_hit hno.out Hx.out (by rw [Hc.out, e2, Bool.or_true])
              have hm : checkM z = 3 := by rw [HC.out, hbt]; rfl
              have HM := Lib.hid hm
              clear hbt hm
              go_wp2
              go_ret
              exact ⟨by rw [HM.out]; rfl, HB.out.bel⟩
            · rw [e2] at h10
              have hn2 := Lib.hid (hno.out.succ Hx.out (by rw [Hc.out, e, e2]; rfl))
              go_wp2
              go_round
              case measure => simp [intOf]; omega
              case rel => exact ⟨p + 1, by omega, by first | rfl | simp, by trivial, hn2⟩
        · obtain rfl : p = z.data.size := by omega
          have hp1 : ¬ ((z.data.size : Int) < (z.data.size : Int)) := by omega
          have hbf := blank_none hno.out
          rcases Bool.eq_false_or_eq_true (z.data.toList == [45]) with hq | hq
          · have HM := Lib.hid (show checkM z = 3 by rw [HC.out, hbf, hq]; rfl)
            clear hbf
            go_wp2
            go_ret
            exact ⟨by rw [HM.out]; rfl, HB.out.bel⟩
          · have HM := Lib.hid (show checkM z = 0 by rw [HC.out, hbf, hq]; rfl)
            clear hbf
            go_wp2
            go_ret
            exact ⟨by rw [HM.out]; rfl, HB.out.bel⟩
    | 1, _, hk, hT =>
      change formT z.word = .tuple #[.string ⟨#[97]⟩, .bool true] at hT
      rcases Bool.eq_false_or_eq_true (z.b != 0) with hb0 | hb0
      · skip
        have hm : checkM z = 3 := by unfold checkM; rw [hk]; simp [partsB, boundB, hb0]
        rw [hm]
        clear hm
        go_enter Tryd.func15, Tryd.ntmps15
        go_wp2_with fail
        have B := StpBox.new 33 z w
        generalize World.alloc _ _ = W at B ⊢
        generalize w.heap.size = bb at B ⊢
        obtain ⟨c0, c1, c2, c3⟩ := B.c
        have HB := Lib.hid B
        clear B
        refine (rform_any z.word W).mono ?_
        rintro e w1 ⟨rfl, rfl⟩
        rw [hT]
        go_wp2
        go_ret
        exact ⟨rfl, HB.out.bel⟩
      rcases Bool.eq_false_or_eq_true z.data.toList.isEmpty with hd | hd
      rotate_left
      · skip
        have hm : checkM z = 3 := by unfold checkM; rw [hk]; simp [partsB, boundB, hb0, hd]
        rw [hm]
        clear hm
        go_enter Tryd.func15, Tryd.ntmps15
        go_wp2_with fail
        have B := StpBox.new 33 z w
        generalize World.alloc _ _ = W at B ⊢
        generalize w.heap.size = bb at B ⊢
        obtain ⟨c0, c1, c2, c3⟩ := B.c
        have HB := Lib.hid B
        clear B
        refine (rform_any z.word W).mono ?_
        rintro e w1 ⟨rfl, rfl⟩
        rw [hT]
        go_wp2
        go_ret
        exact ⟨rfl, HB.out.bel⟩
      have e5 : decide (9 < (z.data.size : Int)) = false := by rw [empty_of hd]; rfl
      have hb9 : z.b = 0 := by simpa using hb0
      have e3 : decide (z.b < 0) = false := by rw [hb9]; rfl
      have e4 : decide (999 < z.b) = false := by rw [hb9]; rfl
      clear hb9
      have hpb : partsB 1 z = false := by simp [partsB, hb0, hd]
      rcases Bool.eq_false_or_eq_true (decide (z.a < 0)) with e1 | e1
      · skip
        have hm : checkM z = 1 := by unfold checkM; rw [hk]; simp only [hpb]; simp [boundB, e1]
        rw [hm]
        clear hm
        go_enter Tryd.func15, Tryd.ntmps15
        go_wp2_with fail
        have B := StpBox.new 33 z w
        generalize World.alloc _ _ = W at B ⊢
        generalize w.heap.size = bb at B ⊢
        obtain ⟨c0, c1, c2, c3⟩ := B.c
        have HB := Lib.hid B
        clear B
        refine (rform_any z.word W).mono ?_
        rintro e w1 ⟨rfl, rfl⟩
        rw [hT]
        go_wp2
        go_ret
        exact ⟨rfl, HB.out.bel⟩
      rcases Bool.eq_false_or_eq_true (decide (999 < z.a)) with e2 | e2
      · skip
        have hm : checkM z = 1 := by unfold checkM; rw [hk]; simp only [hpb]; simp [boundB, e1, e2]
        rw [hm]
        clear hm
        go_enter Tryd.func15, Tryd.ntmps15
        go_wp2_with fail
        have B := StpBox.new 33 z w
        generalize World.alloc _ _ = W at B ⊢
        generalize w.heap.size = bb at B ⊢
        obtain ⟨c0, c1, c2, c3⟩ := B.c
        have HB := Lib.hid B
        clear B
        refine (rform_any z.word W).mono ?_
        rintro e w1 ⟨rfl, rfl⟩
        rw [hT]
        go_wp2
        go_ret
        exact ⟨rfl, HB.out.bel⟩
      have hbb : boundB z = false := by unfold boundB; rw [e1, e2, e3, e4, e5]; rfl
      have HC := Lib.hid (checkM_some hk hpb hbb)
      clear hpb hbb
      go_enter Tryd.func15, Tryd.ntmps15
      go_wp2_with fail
      have B := StpBox.new 33 z w
      generalize World.alloc _ _ = W at B ⊢
      generalize w.heap.size = bb at B ⊢
      obtain ⟨c0, c1, c2, c3⟩ := B.c
      have HB := Lib.hid B
      clear B
      refine (rform_any z.word W).mono ?_
      rintro e w1 ⟨rfl, rfl⟩
      rw [hT]
      go_wp2
      clear c0 c1 c2 c3
      go_loopw [5] (fun i wr => ∃ p : Nat, p ≤ z.data.size ∧ i = .int .i64 p ∧ wr = W ∧ Hid (Lib.NoAny z.data.data.toList [32, 10] p)) (fun i _ => z.data.size - (intOf i).toNat)
      case atStart => exact ⟨0, by omega, rfl, rfl, Lib.NoAny.zero _ _⟩
      case round =>
        obtain ⟨p, hp, rfl, rfl, hno⟩ := hrel
        obtain ⟨c0, c1, c2, c3⟩ := HB.out.c
        by_cases hlt : p < z.data.size
        · obtain ⟨x, hx⟩ : ∃ x : UInt8, z.data[p]'hlt = x := ⟨_, rfl⟩
          have Hx := Lib.hid (show z.data.data.toList[p]? = some x by rw [← hx]; exact Lib.data_getElem? z.data p hlt)
          have hp1 : (p : Int) < (z.data.size : Int) := by omega
          have h32 : ((x.toNat : Int) == 32) = (x == 32) := by
            rw [Bool.eq_iff_iff, beq_iff_eq, beq_iff_eq, ← UInt8.toNat_inj]
            show _ ↔ x.toNat = 32
            omega
          have h10 : ((x.toNat : Int) == 10) = (x == 10) := by
            rw [Bool.eq_iff_iff, beq_iff_eq, beq_iff_eq, ← UInt8.toNat_inj]
            show _ ↔ x.toNat = 10
            omega
          have Hc : Hid (([32, 10] : List UInt8).contains x = (x == 32 || x == 10)) := con2 x
          rcases Bool.eq_false_or_eq_true (x == 32) with e | e
          · rw [e] at h32
            have hbt := blank_hit hno.out Hx.out (by rw [Hc.out, e]; rfl)
            have hm : checkM z = 3 := by rw [HC.out, hbt]; rfl
            have HM := Lib.hid hm
            clear hbt hm
            go_wp2
            go_ret
            exact ⟨by rw [HM.out]; rfl, HB.out.bel⟩
          · rw [e] at h32
            rcases Bool.eq_false_or_eq_true (x == 10) with e2 | e2
            · rw [e2] at h10
              have hbt := blank_hit hno.out Hx.out (by rw [Hc.out, e2, Bool.or_true])
              have hm : checkM z = 3 := by rw [HC.out, hbt]; rfl
              have HM := Lib.hid hm
              clear hbt hm
              go_wp2
              go_ret
              exact ⟨by rw [HM.out]; rfl, HB.out.bel⟩
            · rw [e2] at h10
              have hn2 := Lib.hid (hno.out.succ Hx.out (by rw [Hc.out, e, e2]; rfl))
              go_wp2
              go_round
              case measure => simp [intOf]; omega
              case rel => exact ⟨p + 1, by omega, by first | rfl | simp, by trivial, hn2⟩
        · obtain rfl : p = z.data.size := by omega
          have hp1 : ¬ ((z.data.size : Int) < (z.data.size : Int)) := by omega
          have hbf := blank_none hno.out
          rcases Bool.eq_false_or_eq_true (z.data.toList == [45]) with hq | hq
          · have HM := Lib.hid (show checkM z = 3 by rw [HC.out, hbf, hq]; rfl)
            clear hbf
            go_wp2
            go_ret
            exact ⟨by rw [HM.out]; rfl, HB.out.bel⟩
          · have HM := Lib.hid (show checkM z = 0 by rw [HC.out, hbf, hq]; rfl)
            clear hbf
            go_wp2
            go_ret
            exact ⟨by rw [HM.out]; rfl, HB.out.bel⟩
    | 2, _, hk, hT =>
      change formT z.word = .tuple #[.string ⟨#[97, 98]⟩, .bool true] at hT
      rcases Bool.eq_false_or_eq_true z.data.toList.isEmpty with hd | hd
      rotate_left
      · skip
        have hm : checkM z = 3 := by unfold checkM; rw [hk]; simp [partsB, boundB, hd]
        rw [hm]
        clear hm
        go_enter Tryd.func15, Tryd.ntmps15
        go_wp2_with fail
        have B := StpBox.new 33 z w
        generalize World.alloc _ _ = W at B ⊢
        generalize w.heap.size = bb at B ⊢
        obtain ⟨c0, c1, c2, c3⟩ := B.c
        have HB := Lib.hid B
        clear B
        refine (rform_any z.word W).mono ?_
        rintro e w1 ⟨rfl, rfl⟩
        rw [hT]
        go_wp2
        go_ret
        exact ⟨rfl, HB.out.bel⟩
      have e5 : decide (9 < (z.data.size : Int)) = false := by rw [empty_of hd]; rfl
      have hpb : partsB 2 z = false := by simp [partsB, hd]
      rcases Bool.eq_false_or_eq_true (decide (z.a < 0)) with e1 | e1
      · skip
        have hm : checkM z = 1 := by unfold checkM; rw [hk]; simp only [hpb]; simp [boundB, e1]
        rw [hm]
        clear hm
        go_enter Tryd.func15, Tryd.ntmps15
        go_wp2_with fail
        have B := StpBox.new 33 z w
        generalize World.alloc _ _ = W at B ⊢
        generalize w.heap.size = bb at B ⊢
        obtain ⟨c0, c1, c2, c3⟩ := B.c
        have HB := Lib.hid B
        clear B
        refine (rform_any z.word W).mono ?_
        rintro e w1 ⟨rfl, rfl⟩
        rw [hT]
        go_wp2
        go_ret
        exact ⟨rfl, HB.out.bel⟩
      rcases Bool.eq_false_or_eq_true (decide (999 < z.a)) with e2 | e2
      · skip
        have hm : checkM z = 1 := by unfold checkM; rw [hk]; simp only [hpb]; simp [boundB, e1, e2]
        rw [hm]
        clear hm
        go_enter Tryd.func15, Tryd.ntmps15
        go_wp2_with fail
        have B := StpBox.new 33 z w
        generalize World.alloc _ _ = W at B ⊢
        generalize w.heap.size = bb at B ⊢
        obtain ⟨c0, c1, c2, c3⟩ := B.c
        have HB := Lib.hid B
        clear B
        refine (rform_any z.word W).mono ?_
        rintro e w1 ⟨rfl, rfl⟩
        rw [hT]
        go_wp2
        go_ret
        exact ⟨rfl, HB.out.bel⟩
      rcases Bool.eq_false_or_eq_true (decide (z.b < 0)) with e3 | e3
      · skip
        have hm : checkM z = 1 := by unfold checkM; rw [hk]; simp only [hpb]; simp [boundB, e1, e2, e3]
        rw [hm]
        clear hm
        go_enter Tryd.func15, Tryd.ntmps15
        go_wp2_with fail
        have B := StpBox.new 33 z w
        generalize World.alloc _ _ = W at B ⊢
        generalize w.heap.size = bb at B ⊢
        obtain ⟨c0, c1, c2, c3⟩ := B.c
        have HB := Lib.hid B
        clear B
        refine (rform_any z.word W).mono ?_
        rintro e w1 ⟨rfl, rfl⟩
        rw [hT]
        go_wp2
        go_ret
        exact ⟨rfl, HB.out.bel⟩
      rcases Bool.eq_false_or_eq_true (decide (999 < z.b)) with e4 | e4
      · skip
        have hm : checkM z = 1 := by unfold checkM; rw [hk]; simp only [hpb]; simp [boundB, e1, e2, e3, e4]
        rw [hm]
        clear hm
        go_enter Tryd.func15, Tryd.ntmps15
        go_wp2_with fail
        have B := StpBox.new 33 z w
        generalize World.alloc _ _ = W at B ⊢
        generalize w.heap.size = bb at B ⊢
        obtain ⟨c0, c1, c2, c3⟩ := B.c
        have HB := Lib.hid B
        clear B
        refine (rform_any z.word W).mono ?_
        rintro e w1 ⟨rfl, rfl⟩
        rw [hT]
        go_wp2
        go_ret
        exact ⟨rfl, HB.out.bel⟩
      have hbb : boundB z = false := by unfold boundB; rw [e1, e2, e3, e4, e5]; rfl
      have HC := Lib.hid (checkM_some hk hpb hbb)
      clear hpb hbb
      go_enter Tryd.func15, Tryd.ntmps15
      go_wp2_with fail
      have B := StpBox.new 33 z w
      generalize World.alloc _ _ = W at B ⊢
      generalize w.heap.size = bb at B ⊢
      obtain ⟨c0, c1, c2, c3⟩ := B.c
      have HB := Lib.hid B
      clear B
      refine (rform_any z.word W).mono ?_
      rintro e w1 ⟨rfl, rfl⟩
      rw [hT]
      go_wp2
      clear c0 c1 c2 c3
      go_loopw [5] (fun i wr => ∃ p : Nat, p ≤ z.data.size ∧ i = .int .i64 p ∧ wr = W ∧ Hid (Lib.NoAny z.data.data.toList [32, 10] p)) (fun i _ => z.data.size - (intOf i).toNat)
      case atStart => exact ⟨0, by omega, rfl, rfl, Lib.NoAny.zero _ _⟩
      case round =>
        obtain ⟨p, hp, rfl, rfl, hno⟩ := hrel
        obtain ⟨c0, c1, c2, c3⟩ := HB.out.c
        by_cases hlt : p < z.data.size
        · obtain ⟨x, hx⟩ : ∃ x : UInt8, z.data[p]'hlt = x := ⟨_, rfl⟩
          have Hx := Lib.hid (show z.data.data.toList[p]? = some x by rw [← hx]; exact Lib.data_getElem? z.data p hlt)
          have hp1 : (p : Int) < (z.data.size : Int) := by omega
          have h32 : ((x.toNat : Int) == 32) = (x == 32) := by
            rw [Bool.eq_iff_iff, beq_iff_eq, beq_iff_eq, ← UInt8.toNat_inj]
            show _ ↔ x.toNat = 32
            omega
          have h10 : ((x.toNat : Int) == 10) = (x == 10) := by
            rw [Bool.eq_iff_iff, beq_iff_eq, beq_iff_eq, ← UInt8.toNat_inj]
            show _ ↔ x.toNat = 10
            omega
          have Hc : Hid (([32, 10] : List UInt8).contains x = (x == 32 || x == 10)) := con2 x
          rcases Bool.eq_false_or_eq_true (x == 32) with e | e
          · rw [e] at h32
            have hbt := blank_hit hno.out Hx.out (by rw [Hc.out, e]; rfl)
            have hm : checkM z = 3 := by rw [HC.out, hbt]; rfl
            have HM := Lib.hid hm
            clear hbt hm
            go_wp2
            go_ret
            exact ⟨by rw [HM.out]; rfl, HB.out.bel⟩
          · rw [e] at h32
            rcases Bool.eq_false_or_eq_true (x == 10) with e2 | e2
            · rw [e2] at h10
              have hbt := blank_hit hno.out Hx.out (by rw [Hc.out, e2, Bool.or_true])
              have hm : checkM z = 3 := by rw [HC.out, hbt]; rfl
              have HM := Lib.hid hm
              clear hbt hm
              go_wp2
              go_ret
              exact ⟨by rw [HM.out]; rfl, HB.out.bel⟩
            · rw [e2] at h10
              have hn2 := Lib.hid (hno.out.succ Hx.out (by rw [Hc.out, e, e2]; rfl))
              go_wp2
              go_round
              case measure => simp [intOf]; omega
              case rel => exact ⟨p + 1, by omega, by first | rfl | simp, by trivial, hn2⟩
        · obtain rfl : p = z.data.size := by omega
          have hp1 : ¬ ((z.data.size : Int) < (z.data.size : Int)) := by omega
          have hbf := blank_none hno.out
          rcases Bool.eq_false_or_eq_true (z.data.toList == [45]) with hq | hq
          · have HM := Lib.hid (show checkM z = 3 by rw [HC.out, hbf, hq]; rfl)
            clear hbf
            go_wp2
            go_ret
            exact ⟨by rw [HM.out]; rfl, HB.out.bel⟩
          · have HM := Lib.hid (show checkM z = 0 by rw [HC.out, hbf, hq]; rfl)
            clear hbf
            go_wp2
            go_ret
            exact ⟨by rw [HM.out]; rfl, HB.out.bel⟩
    | 3, _, hk, hT =>
      change formT z.word = .tuple #[.string ⟨#[97, 98, 100]⟩, .bool true] at hT
      have hpb : partsB 3 z = false := by simp [partsB]
      rcases Bool.eq_false_or_eq_true (decide (z.a < 0)) with e1 | e1
      · skip
        have hm : checkM z = 1 := by unfold checkM; rw [hk]; simp only [hpb]; simp [boundB, e1]
        rw [hm]
        clear hm
        go_enter Tryd.func15, Tryd.ntmps15
        go_wp2_with fail
        have B := StpBox.new 33 z w
        generalize World.alloc _ _ = W at B ⊢
        generalize w.heap.size = bb at B ⊢
        obtain ⟨c0, c1, c2, c3⟩ := B.c
        have HB := Lib.hid B
        clear B
        refine (rform_any z.word W).mono ?_
        rintro e w1 ⟨rfl, rfl⟩
        rw [hT]
        go_wp2
        go_ret
        exact ⟨rfl, HB.out.bel⟩
      rcases Bool.eq_false_or_eq_true (decide (999 < z.a)) with e2 | e2
      · skip
        have hm : checkM z = 1 := by unfold checkM; rw [hk]; simp only [hpb]; simp [boundB, e1, e2]
        rw [hm]
        clear hm
        go_enter Tryd.func15, Tryd.ntmps15
        go_wp2_with fail
        have B := StpBox.new 33 z w
        generalize World.alloc _ _ = W at B ⊢
        generalize w.heap.size = bb at B ⊢
        obtain ⟨c0, c1, c2, c3⟩ := B.c
        have HB := Lib.hid B
        clear B
        refine (rform_any z.word W).mono ?_
        rintro e w1 ⟨rfl, rfl⟩
        rw [hT]
        go_wp2
        go_ret
        exact ⟨rfl, HB.out.bel⟩
      rcases Bool.eq_false_or_eq_true (decide (z.b < 0)) with e3 | e3
      · skip
        have hm : checkM z = 1 := by unfold checkM; rw [hk]; simp only [hpb]; simp [boundB, e1, e2, e3]
        rw [hm]
        clear hm
        go_enter Tryd.func15, Tryd.ntmps15
        go_wp2_with fail
        have B := StpBox.new 33 z w
        generalize World.alloc _ _ = W at B ⊢
        generalize w.heap.size = bb at B ⊢
        obtain ⟨c0, c1, c2, c3⟩ := B.c
        have HB := Lib.hid B
        clear B
        refine (rform_any z.word W).mono ?_
        rintro e w1 ⟨rfl, rfl⟩
        rw [hT]
        go_wp2
        go_ret
        exact ⟨rfl, HB.out.bel⟩
      rcases Bool.eq_false_or_eq_true (decide (999 < z.b)) with e4 | e4
      · skip
        have hm : checkM z = 1 := by unfold checkM; rw [hk]; simp only [hpb]; simp [boundB, e1, e2, e3, e4]
        rw [hm]
        clear hm
        go_enter Tryd.func15, Tryd.ntmps15
        go_wp2_with fail
        have B := StpBox.new 33 z w
        generalize World.alloc _ _ = W at B ⊢
        generalize w.heap.size = bb at B ⊢
        obtain ⟨c0, c1, c2, c3⟩ := B.c
        have HB := Lib.hid B
        clear B
        refine (rform_any z.word W).mono ?_
        rintro e w1 ⟨rfl, rfl⟩
        rw [hT]
        go_wp2
        go_ret
        exact ⟨rfl, HB.out.bel⟩
      rcases Bool.eq_false_or_eq_true (decide (9 < (z.data.size : Int))) with e5 | e5
      · skip
        have hm : checkM z = 1 := by unfold checkM; rw [hk]; simp only [hpb]; simp [boundB, e1, e2, e3, e4, e5]
        rw [hm]
        clear hm
        go_enter Tryd.func15, Tryd.ntmps15
        go_wp2_with fail
        have B := StpBox.new 33 z w
        generalize World.alloc _ _ = W at B ⊢
        generalize w.heap.size = bb at B ⊢
        obtain ⟨c0, c1, c2, c3⟩ := B.c
        have HB := Lib.hid B
        clear B
        refine (rform_any z.word W).mono ?_
        rintro e w1 ⟨rfl, rfl⟩
        rw [hT]
        go_wp2
        go_ret
        exact ⟨rfl, HB.out.bel⟩
      have hbb : boundB z = false := by unfold boundB; rw [e1, e2, e3, e4, e5]; rfl
      have HC := Lib.hid (checkM_some hk hpb hbb)
      clear hpb hbb
      go_enter Tryd.func15, Tryd.ntmps15
      go_wp2_with fail
      have B := StpBox.new 33 z w
      generalize World.alloc _ _ = W at B ⊢
      generalize w.heap.size = bb at B ⊢
      obtain ⟨c0, c1, c2, c3⟩ := B.c
      have HB := Lib.hid B
      clear B
      refine (rform_any z.word W).mono ?_
      rintro e w1 ⟨rfl, rfl⟩
      rw [hT]
      go_wp2
      clear c0 c1 c2 c3
      go_loopw [5] (fun i wr => ∃ p : Nat, p ≤ z.data.size ∧ i = .int .i64 p ∧ wr = W ∧ Hid (Lib.NoAny z.data.data.toList [32, 10] p)) (fun i _ => z.data.size - (intOf i).toNat)
      case atStart => exact ⟨0, by omega, rfl, rfl, Lib.NoAny.zero _ _⟩
      case round =>
        obtain ⟨p, hp, rfl, rfl, hno⟩ := hrel
        obtain ⟨c0, c1, c2, c3⟩ := HB.out.c
        by_cases hlt : p < z.data.size
        · obtain ⟨x, hx⟩ : ∃ x : UInt8, z.data[p]'hlt = x := ⟨_, rfl⟩
          have Hx := Lib.hid (show z.data.data.toList[p]? = some x by rw [← hx]; exact Lib.data_getElem? z.data p hlt)
          have hp1 : (p : Int) < (z.data.size : Int) := by omega
          have h32 : ((x.toNat : Int) == 32) = (x == 32) := by
            rw [Bool.eq_iff_iff, beq_iff_eq, beq_iff_eq, ← UInt8.toNat_inj]
            show _ ↔ x.toNat = 32
            omega
          have h10 : ((x.toNat : Int) == 10) = (x == 10) := by
            rw [Bool.eq_iff_iff, beq_iff_eq, beq_iff_eq, ← UInt8.toNat_inj]
            show _ ↔ x.toNat = 10
            omega
          have Hc : Hid (([32, 10] : List UInt8).contains x = (x == 32 || x == 10)) := con2 x
          rcases Bool.eq_false_or_eq_true (x == 32) with e | e
          · rw [e] at h32
            have hbt := blank_hit hno.out Hx.out (by rw [Hc.out, e]; rfl)
            have hm : checkM z = 3 := by rw [HC.out, hbt]; rfl
            have HM := Lib.hid hm
            clear hbt hm
            go_wp2
            go_ret
            exact ⟨by rw [HM.out]; rfl, HB.out.bel⟩
          · rw [e] at h32
            rcases Bool.eq_false_or_eq_true (x == 10) with e2 | e2
            · rw [e2] at h10
              have hbt := blank_hit hno.out Hx.out (by rw [Hc.out, e2, Bool.or_true])
              have hm : checkM z = 3 := by rw [HC.out, hbt]; rfl
              have HM := Lib.hid hm
              clear hbt hm
              go_wp2
              go_ret
              exact ⟨by rw [HM.out]; rfl, HB.out.bel⟩
            · rw [e2] at h10
              have hn2 := Lib.hid (hno.out.succ Hx.out (by rw [Hc.out, e, e2]; rfl))
              go_wp2
              go_round
              case measure => simp [intOf]; omega
              case rel => exact ⟨p + 1, by omega, by first | rfl | simp, by trivial, hn2⟩
        · obtain rfl : p = z.data.size := by omega
          have hp1 : ¬ ((z.data.size : Int) < (z.data.size : Int)) := by omega
          have hbf := blank_none hno.out
          rcases Bool.eq_false_or_eq_true (z.data.toList == [45]) with hq | hq
          · have HM := Lib.hid (show checkM z = 3 by rw [HC.out, hbf, hq]; rfl)
            clear hbf
            go_wp2
            go_ret
            exact ⟨by rw [HM.out]; rfl, HB.out.bel⟩
          · have HM := Lib.hid (show checkM z = 0 by rw [HC.out, hbf, hq]; rfl)
            clear hbf
            go_wp2
            go_ret
            exact ⟨by rw [HM.out]; rfl, HB.out.bel⟩
end Go.Proofs.YtecnpdkoodfemaaDoor
