/- script.Check: which steps may be. gen_check.py prints this text. What Go's library reads of its own variables (the player's seat: the tables alone); strconv.Itoa at every argument. -/
import Derived.Test.YtinknleckppciaaGreatDoorR1
import Derived.Test.YtinknleckppciaaGreatDoorR3
import Derived.Test.YtinknleckppciaaGreatDoorR2
import Derived.Lib.AppendIntMem
namespace Go.Proofs.YtinknleckppciaaGreatDoor
set_option linter.unusedSimpArgs false
set_option linter.unusedVariables false
open Go.RowKit

structure Stp where
  word : ByteArray
  a : Int
  b : Int
  data : ByteArray
abbrev stpV (z : Stp) : Value := .agg #[.string z.word, .int .i64 z.a, .int .i64 z.b, .string z.data]
def hyphen : ByteArray := ⟨#[45]⟩
/-- Are the parts that the word has not nothing? -/
def partsB (k : Nat) (z : Stp) : Bool := (k < 1 && z.a != 0) || (k < 2 && z.b != 0) || (k < 3 && !z.data.toList.isEmpty)
def boundB (z : Stp) : Bool := decide (z.a < 0) || decide (999 < z.a) || decide (z.b < 0) || decide (999 < z.b) || decide (9 < (z.data.size : Int))
def checkM (z : Stp) : Nat := match formK z.word with
  | none => 3
  | some k => if partsB k z then 3 else if boundB z then 1 else if blankB z.data || z.data.toList == [45] then 3 else 0

/-- A step's box. -/
structure StpBox (T : TypeId) (b : Nat) (z : Stp) (w W : World) : Prop where
  bel : Below w.heap.size w W
  lo : w.heap.size ≤ b
  hi : b < W.heap.size
  row : W.heap[b]? = some (.cells #[.string z.word, .int .i64 z.a, .int .i64 z.b, .string z.data] T (0, 0))
theorem StpBox.new (T : TypeId) (z : Stp) (w : World) : StpBox T w.heap.size z w (w.alloc (.cells #[.string z.word, .int .i64 z.a, .int .i64 z.b, .string z.data] T)) :=
  ⟨(Below.refl _ _).alloc (Nat.le_refl _) _, Nat.le_refl _, by simp, heap_alloc_new w _⟩
theorem StpBox.step {T : TypeId} {b : Nat} {z : Stp} {w W W' : World} (h : StpBox T b z w W) (hb : Below W.heap.size W W') : StpBox T b z w W' :=
  ⟨h.bel.trans (hb.mono h.bel.size), h.lo, Nat.lt_of_lt_of_le h.hi hb.size, (hb.block _ h.hi).trans h.row⟩
theorem StpBox.c {T : TypeId} {b : Nat} {z : Stp} {w W : World} (h : StpBox T b z w W) : W.cell? ⟨b, 0, none⟩ = some (.string z.word) ∧ W.cell? ⟨b, 1, none⟩ = some (.int .i64 z.a) ∧ W.cell? ⟨b, 2, none⟩ = some (.int .i64 z.b) ∧ W.cell? ⟨b, 3, none⟩ = some (.string z.data) :=
  ⟨cell_of_row _ _ 0 _ _ _ h.row, cell_of_row _ _ 1 _ _ _ h.row, cell_of_row _ _ 2 _ _ _ h.row, cell_of_row _ _ 3 _ _ _ h.row⟩
theorem contains1 (s : ByteArray) (c : UInt8) (r : Bool) (h : decide (0 ≤ Lib.indexByte s.data.toList c) = r) (w : World) : Calls Tryz.prog 34 #[.string s, .string ⟨#[c]⟩] w (RetSame (.bool r) w) :=
  (Tryz.strings_Contains_one s c w).mono fun e w' ⟨h1, h2⟩ => ⟨by rw [h1, h], h2.symm⟩
theorem formT_none {s : ByteArray} (h : formK s = none) : formT s = .tuple #[.string ⟨#[]⟩, .bool false] := by unfold formT; rw [h]
theorem formT_some {s : ByteArray} {k : Nat} (h : formK s = some k) : formT s = .tuple #[.string ⟨(formS k).toArray⟩, .bool true] := by unfold formT; rw [h]
theorem empty_of {s : ByteArray} (h : s.toList.isEmpty = true) : s = ⟨#[]⟩ := by
  rw [ByteArray.toList_eq] at h
  obtain ⟨⟨l⟩⟩ := s
  cases l with
  | nil => rfl
  | cons _ _ => simp at h

set_option maxRecDepth 100000 in
set_option maxHeartbeats 4000000 in
theorem checks_any (z : Stp) (w : World) (hs : z.word.size ≤ maxLen) : Calls Tryz.prog 8 #[stpV z] w (Ret (errV (checkM z)) w) := by
  cases hk : formK z.word with
  | none =>
    have hT := formT_none hk
    have hm : checkM z = 3 := by unfold checkM; rw [hk]
    rw [hm]
    clear hm
    go_enter Tryz.func8, Tryz.ntmps8
    go_wp2_with fail
    have B := StpBox.new 27 z w
    generalize World.alloc _ _ = W at B ⊢
    generalize w.heap.size = bb at B ⊢
    refine (form_any z.word W hs).mono ?_
    rintro e w1 ⟨rfl, hb1⟩
    rw [hT]
    have B1 := B.step hb1
    obtain ⟨c0, c1, c2, c3⟩ := B1.c
    have HB := Lib.hid B1
    clear B B1 hb1
    go_wp2_with (first | (go_at_call 34; (first | (refine (contains1 _ _ true (by decide) _).mono ?_) | (refine (contains1 _ _ false (by decide) _).mono ?_)); rintro e w2 ⟨rfl, rfl⟩))
    go_ret
    exact ⟨rfl, HB.out.bel⟩
  | some k =>
    have hT := formT_some hk
    have h3 := formK_le hk
    match k, h3, hk, hT with
    | 0, _, hk, hT =>
      change formT z.word = .tuple #[.string ⟨#[]⟩, .bool true] at hT
      rcases Bool.eq_false_or_eq_true (z.a != 0) with ha | ha
      · skip
        have hm : checkM z = 3 := by unfold checkM; rw [hk]; simp [partsB, boundB, ha]
        rw [hm]
        clear hm
        go_enter Tryz.func8, Tryz.ntmps8
        go_wp2_with fail
        have B := StpBox.new 27 z w
        generalize World.alloc _ _ = W at B ⊢
        generalize w.heap.size = bb at B ⊢
        refine (form_any z.word W hs).mono ?_
        rintro e w1 ⟨rfl, hb1⟩
        rw [hT]
        have B1 := B.step hb1
        obtain ⟨c0, c1, c2, c3⟩ := B1.c
        have HB := Lib.hid B1
        clear B B1 hb1
        go_wp2_with (first | (go_at_call 34; (first | (refine (contains1 _ _ true (by decide) _).mono ?_) | (refine (contains1 _ _ false (by decide) _).mono ?_)); rintro e w2 ⟨rfl, rfl⟩))
        go_ret
        exact ⟨rfl, HB.out.bel⟩
      rcases Bool.eq_false_or_eq_true (z.b != 0) with hb0 | hb0
      · skip
        have hm : checkM z = 3 := by unfold checkM; rw [hk]; simp [partsB, boundB, ha, hb0]
        rw [hm]
        clear hm
        go_enter Tryz.func8, Tryz.ntmps8
        go_wp2_with fail
        have B := StpBox.new 27 z w
        generalize World.alloc _ _ = W at B ⊢
        generalize w.heap.size = bb at B ⊢
        refine (form_any z.word W hs).mono ?_
        rintro e w1 ⟨rfl, hb1⟩
        rw [hT]
        have B1 := B.step hb1
        obtain ⟨c0, c1, c2, c3⟩ := B1.c
        have HB := Lib.hid B1
        clear B B1 hb1
        go_wp2_with (first | (go_at_call 34; (first | (refine (contains1 _ _ true (by decide) _).mono ?_) | (refine (contains1 _ _ false (by decide) _).mono ?_)); rintro e w2 ⟨rfl, rfl⟩))
        go_ret
        exact ⟨rfl, HB.out.bel⟩
      rcases Bool.eq_false_or_eq_true z.data.toList.isEmpty with hd | hd
      rotate_left
      · skip
        have hm : checkM z = 3 := by unfold checkM; rw [hk]; simp [partsB, boundB, ha, hb0, hd]
        rw [hm]
        clear hm
        go_enter Tryz.func8, Tryz.ntmps8
        go_wp2_with fail
        have B := StpBox.new 27 z w
        generalize World.alloc _ _ = W at B ⊢
        generalize w.heap.size = bb at B ⊢
        refine (form_any z.word W hs).mono ?_
        rintro e w1 ⟨rfl, hb1⟩
        rw [hT]
        have B1 := B.step hb1
        obtain ⟨c0, c1, c2, c3⟩ := B1.c
        have HB := Lib.hid B1
        clear B B1 hb1
        go_wp2_with (first | (go_at_call 34; (first | (refine (contains1 _ _ true (by decide) _).mono ?_) | (refine (contains1 _ _ false (by decide) _).mono ?_)); rintro e w2 ⟨rfl, rfl⟩))
        go_ret
        exact ⟨rfl, HB.out.bel⟩
      have hz : z.data.size ≤ 9 := by rw [empty_of hd]; decide
      have hB : blankB z.data = false := by rw [empty_of hd]; rfl
      have hq : (z.data.toList == [45]) = false := by rw [empty_of hd, ByteArray.toList_eq]; rfl
      have e5 : decide (9 < (z.data.size : Int)) = false := by rw [empty_of hd]; rfl
      have hb9 : z.b = 0 := by simpa using hb0
      have e3 : decide (z.b < 0) = false := by rw [hb9]; rfl
      have e4 : decide (999 < z.b) = false := by rw [hb9]; rfl
      clear hb9
      have ha9 : z.a = 0 := by simpa using ha
      have e1 : decide (z.a < 0) = false := by rw [ha9]; rfl
      have e2 : decide (999 < z.a) = false := by rw [ha9]; rfl
      clear ha9
      have hm : checkM z = 0 := by unfold checkM; rw [hk]; simp [partsB, boundB, ha, hb0, hd, e5, e3, e4, e1, e2, hB, hq]
      rw [hm]
      clear hm
      go_enter Tryz.func8, Tryz.ntmps8
      go_wp2_with fail
      have B := StpBox.new 27 z w
      generalize World.alloc _ _ = W at B ⊢
      generalize w.heap.size = bb at B ⊢
      refine (form_any z.word W hs).mono ?_
      rintro e w1 ⟨rfl, hb1⟩
      rw [hT]
      have B1 := B.step hb1
      obtain ⟨c0, c1, c2, c3⟩ := B1.c
      have HB := Lib.hid B1
      clear B B1 hb1
      go_wp2_with (first | (go_at_call 34; (first | (refine (contains1 _ _ true (by decide) _).mono ?_) | (refine (contains1 _ _ false (by decide) _).mono ?_)); rintro e w2 ⟨rfl, rfl⟩))
      refine (cany_any z.data w1 hz).mono ?_
      rintro e w2 ⟨rfl, hb2⟩
      have B2 := HB.out.step hb2
      obtain ⟨d0, d1, d2, d3⟩ := B2.c
      have HB2 := Lib.hid B2
      clear B2 hb2 c0 c1 c2 c3
      rw [hB]
      go_wp2
      go_ret
      exact ⟨rfl, HB2.out.bel⟩
    | 1, _, hk, hT =>
      change formT z.word = .tuple #[.string ⟨#[97]⟩, .bool true] at hT
      rcases Bool.eq_false_or_eq_true (z.b != 0) with hb0 | hb0
      · skip
        have hm : checkM z = 3 := by unfold checkM; rw [hk]; simp [partsB, boundB, hb0]
        rw [hm]
        clear hm
        go_enter Tryz.func8, Tryz.ntmps8
        go_wp2_with fail
        have B := StpBox.new 27 z w
        generalize World.alloc _ _ = W at B ⊢
        generalize w.heap.size = bb at B ⊢
        refine (form_any z.word W hs).mono ?_
        rintro e w1 ⟨rfl, hb1⟩
        rw [hT]
        have B1 := B.step hb1
        obtain ⟨c0, c1, c2, c3⟩ := B1.c
        have HB := Lib.hid B1
        clear B B1 hb1
        go_wp2_with (first | (go_at_call 34; (first | (refine (contains1 _ _ true (by decide) _).mono ?_) | (refine (contains1 _ _ false (by decide) _).mono ?_)); rintro e w2 ⟨rfl, rfl⟩))
        go_ret
        exact ⟨rfl, HB.out.bel⟩
      rcases Bool.eq_false_or_eq_true z.data.toList.isEmpty with hd | hd
      rotate_left
      · skip
        have hm : checkM z = 3 := by unfold checkM; rw [hk]; simp [partsB, boundB, hb0, hd]
        rw [hm]
        clear hm
        go_enter Tryz.func8, Tryz.ntmps8
        go_wp2_with fail
        have B := StpBox.new 27 z w
        generalize World.alloc _ _ = W at B ⊢
        generalize w.heap.size = bb at B ⊢
        refine (form_any z.word W hs).mono ?_
        rintro e w1 ⟨rfl, hb1⟩
        rw [hT]
        have B1 := B.step hb1
        obtain ⟨c0, c1, c2, c3⟩ := B1.c
        have HB := Lib.hid B1
        clear B B1 hb1
        go_wp2_with (first | (go_at_call 34; (first | (refine (contains1 _ _ true (by decide) _).mono ?_) | (refine (contains1 _ _ false (by decide) _).mono ?_)); rintro e w2 ⟨rfl, rfl⟩))
        go_ret
        exact ⟨rfl, HB.out.bel⟩
      have hz : z.data.size ≤ 9 := by rw [empty_of hd]; decide
      have hB : blankB z.data = false := by rw [empty_of hd]; rfl
      have hq : (z.data.toList == [45]) = false := by rw [empty_of hd, ByteArray.toList_eq]; rfl
      have e5 : decide (9 < (z.data.size : Int)) = false := by rw [empty_of hd]; rfl
      have hb9 : z.b = 0 := by simpa using hb0
      have e3 : decide (z.b < 0) = false := by rw [hb9]; rfl
      have e4 : decide (999 < z.b) = false := by rw [hb9]; rfl
      clear hb9
      rcases Bool.eq_false_or_eq_true (decide (z.a < 0)) with e1 | e1
      · skip
        have hm : checkM z = 1 := by unfold checkM; rw [hk]; simp [partsB, boundB, hb0, hd, e5, e3, e4, e1]
        rw [hm]
        clear hm
        go_enter Tryz.func8, Tryz.ntmps8
        go_wp2_with fail
        have B := StpBox.new 27 z w
        generalize World.alloc _ _ = W at B ⊢
        generalize w.heap.size = bb at B ⊢
        refine (form_any z.word W hs).mono ?_
        rintro e w1 ⟨rfl, hb1⟩
        rw [hT]
        have B1 := B.step hb1
        obtain ⟨c0, c1, c2, c3⟩ := B1.c
        have HB := Lib.hid B1
        clear B B1 hb1
        go_wp2_with (first | (go_at_call 34; (first | (refine (contains1 _ _ true (by decide) _).mono ?_) | (refine (contains1 _ _ false (by decide) _).mono ?_)); rintro e w2 ⟨rfl, rfl⟩))
        go_ret
        exact ⟨rfl, HB.out.bel⟩
      rcases Bool.eq_false_or_eq_true (decide (999 < z.a)) with e2 | e2
      · skip
        have hm : checkM z = 1 := by unfold checkM; rw [hk]; simp [partsB, boundB, hb0, hd, e5, e3, e4, e1, e2]
        rw [hm]
        clear hm
        go_enter Tryz.func8, Tryz.ntmps8
        go_wp2_with fail
        have B := StpBox.new 27 z w
        generalize World.alloc _ _ = W at B ⊢
        generalize w.heap.size = bb at B ⊢
        refine (form_any z.word W hs).mono ?_
        rintro e w1 ⟨rfl, hb1⟩
        rw [hT]
        have B1 := B.step hb1
        obtain ⟨c0, c1, c2, c3⟩ := B1.c
        have HB := Lib.hid B1
        clear B B1 hb1
        go_wp2_with (first | (go_at_call 34; (first | (refine (contains1 _ _ true (by decide) _).mono ?_) | (refine (contains1 _ _ false (by decide) _).mono ?_)); rintro e w2 ⟨rfl, rfl⟩))
        go_ret
        exact ⟨rfl, HB.out.bel⟩
      have hm : checkM z = 0 := by unfold checkM; rw [hk]; simp [partsB, boundB, hb0, hd, e5, e3, e4, e1, e2, hB, hq]
      rw [hm]
      clear hm
      go_enter Tryz.func8, Tryz.ntmps8
      go_wp2_with fail
      have B := StpBox.new 27 z w
      generalize World.alloc _ _ = W at B ⊢
      generalize w.heap.size = bb at B ⊢
      refine (form_any z.word W hs).mono ?_
      rintro e w1 ⟨rfl, hb1⟩
      rw [hT]
      have B1 := B.step hb1
      obtain ⟨c0, c1, c2, c3⟩ := B1.c
      have HB := Lib.hid B1
      clear B B1 hb1
      go_wp2_with (first | (go_at_call 34; (first | (refine (contains1 _ _ true (by decide) _).mono ?_) | (refine (contains1 _ _ false (by decide) _).mono ?_)); rintro e w2 ⟨rfl, rfl⟩))
      refine (cany_any z.data w1 hz).mono ?_
      rintro e w2 ⟨rfl, hb2⟩
      have B2 := HB.out.step hb2
      obtain ⟨d0, d1, d2, d3⟩ := B2.c
      have HB2 := Lib.hid B2
      clear B2 hb2 c0 c1 c2 c3
      rw [hB]
      go_wp2
      go_ret
      exact ⟨rfl, HB2.out.bel⟩
    | 2, _, hk, hT =>
      change formT z.word = .tuple #[.string ⟨#[97, 98]⟩, .bool true] at hT
      rcases Bool.eq_false_or_eq_true z.data.toList.isEmpty with hd | hd
      rotate_left
      · skip
        have hm : checkM z = 3 := by unfold checkM; rw [hk]; simp [partsB, boundB, hd]
        rw [hm]
        clear hm
        go_enter Tryz.func8, Tryz.ntmps8
        go_wp2_with fail
        have B := StpBox.new 27 z w
        generalize World.alloc _ _ = W at B ⊢
        generalize w.heap.size = bb at B ⊢
        refine (form_any z.word W hs).mono ?_
        rintro e w1 ⟨rfl, hb1⟩
        rw [hT]
        have B1 := B.step hb1
        obtain ⟨c0, c1, c2, c3⟩ := B1.c
        have HB := Lib.hid B1
        clear B B1 hb1
        go_wp2_with (first | (go_at_call 34; (first | (refine (contains1 _ _ true (by decide) _).mono ?_) | (refine (contains1 _ _ false (by decide) _).mono ?_)); rintro e w2 ⟨rfl, rfl⟩))
        go_ret
        exact ⟨rfl, HB.out.bel⟩
      have hz : z.data.size ≤ 9 := by rw [empty_of hd]; decide
      have hB : blankB z.data = false := by rw [empty_of hd]; rfl
      have hq : (z.data.toList == [45]) = false := by rw [empty_of hd, ByteArray.toList_eq]; rfl
      have e5 : decide (9 < (z.data.size : Int)) = false := by rw [empty_of hd]; rfl
      rcases Bool.eq_false_or_eq_true (decide (z.a < 0)) with e1 | e1
      · skip
        have hm : checkM z = 1 := by unfold checkM; rw [hk]; simp [partsB, boundB, hd, e5, e1]
        rw [hm]
        clear hm
        go_enter Tryz.func8, Tryz.ntmps8
        go_wp2_with fail
        have B := StpBox.new 27 z w
        generalize World.alloc _ _ = W at B ⊢
        generalize w.heap.size = bb at B ⊢
        refine (form_any z.word W hs).mono ?_
        rintro e w1 ⟨rfl, hb1⟩
        rw [hT]
        have B1 := B.step hb1
        obtain ⟨c0, c1, c2, c3⟩ := B1.c
        have HB := Lib.hid B1
        clear B B1 hb1
        go_wp2_with (first | (go_at_call 34; (first | (refine (contains1 _ _ true (by decide) _).mono ?_) | (refine (contains1 _ _ false (by decide) _).mono ?_)); rintro e w2 ⟨rfl, rfl⟩))
        go_ret
        exact ⟨rfl, HB.out.bel⟩
      rcases Bool.eq_false_or_eq_true (decide (999 < z.a)) with e2 | e2
      · skip
        have hm : checkM z = 1 := by unfold checkM; rw [hk]; simp [partsB, boundB, hd, e5, e1, e2]
        rw [hm]
        clear hm
        go_enter Tryz.func8, Tryz.ntmps8
        go_wp2_with fail
        have B := StpBox.new 27 z w
        generalize World.alloc _ _ = W at B ⊢
        generalize w.heap.size = bb at B ⊢
        refine (form_any z.word W hs).mono ?_
        rintro e w1 ⟨rfl, hb1⟩
        rw [hT]
        have B1 := B.step hb1
        obtain ⟨c0, c1, c2, c3⟩ := B1.c
        have HB := Lib.hid B1
        clear B B1 hb1
        go_wp2_with (first | (go_at_call 34; (first | (refine (contains1 _ _ true (by decide) _).mono ?_) | (refine (contains1 _ _ false (by decide) _).mono ?_)); rintro e w2 ⟨rfl, rfl⟩))
        go_ret
        exact ⟨rfl, HB.out.bel⟩
      rcases Bool.eq_false_or_eq_true (decide (z.b < 0)) with e3 | e3
      · skip
        have hm : checkM z = 1 := by unfold checkM; rw [hk]; simp [partsB, boundB, hd, e5, e1, e2, e3]
        rw [hm]
        clear hm
        go_enter Tryz.func8, Tryz.ntmps8
        go_wp2_with fail
        have B := StpBox.new 27 z w
        generalize World.alloc _ _ = W at B ⊢
        generalize w.heap.size = bb at B ⊢
        refine (form_any z.word W hs).mono ?_
        rintro e w1 ⟨rfl, hb1⟩
        rw [hT]
        have B1 := B.step hb1
        obtain ⟨c0, c1, c2, c3⟩ := B1.c
        have HB := Lib.hid B1
        clear B B1 hb1
        go_wp2_with (first | (go_at_call 34; (first | (refine (contains1 _ _ true (by decide) _).mono ?_) | (refine (contains1 _ _ false (by decide) _).mono ?_)); rintro e w2 ⟨rfl, rfl⟩))
        go_ret
        exact ⟨rfl, HB.out.bel⟩
      rcases Bool.eq_false_or_eq_true (decide (999 < z.b)) with e4 | e4
      · skip
        have hm : checkM z = 1 := by unfold checkM; rw [hk]; simp [partsB, boundB, hd, e5, e1, e2, e3, e4]
        rw [hm]
        clear hm
        go_enter Tryz.func8, Tryz.ntmps8
        go_wp2_with fail
        have B := StpBox.new 27 z w
        generalize World.alloc _ _ = W at B ⊢
        generalize w.heap.size = bb at B ⊢
        refine (form_any z.word W hs).mono ?_
        rintro e w1 ⟨rfl, hb1⟩
        rw [hT]
        have B1 := B.step hb1
        obtain ⟨c0, c1, c2, c3⟩ := B1.c
        have HB := Lib.hid B1
        clear B B1 hb1
        go_wp2_with (first | (go_at_call 34; (first | (refine (contains1 _ _ true (by decide) _).mono ?_) | (refine (contains1 _ _ false (by decide) _).mono ?_)); rintro e w2 ⟨rfl, rfl⟩))
        go_ret
        exact ⟨rfl, HB.out.bel⟩
      have hm : checkM z = 0 := by unfold checkM; rw [hk]; simp [partsB, boundB, hd, e5, e1, e2, e3, e4, hB, hq]
      rw [hm]
      clear hm
      go_enter Tryz.func8, Tryz.ntmps8
      go_wp2_with fail
      have B := StpBox.new 27 z w
      generalize World.alloc _ _ = W at B ⊢
      generalize w.heap.size = bb at B ⊢
      refine (form_any z.word W hs).mono ?_
      rintro e w1 ⟨rfl, hb1⟩
      rw [hT]
      have B1 := B.step hb1
      obtain ⟨c0, c1, c2, c3⟩ := B1.c
      have HB := Lib.hid B1
      clear B B1 hb1
      go_wp2_with (first | (go_at_call 34; (first | (refine (contains1 _ _ true (by decide) _).mono ?_) | (refine (contains1 _ _ false (by decide) _).mono ?_)); rintro e w2 ⟨rfl, rfl⟩))
      refine (cany_any z.data w1 hz).mono ?_
      rintro e w2 ⟨rfl, hb2⟩
      have B2 := HB.out.step hb2
      obtain ⟨d0, d1, d2, d3⟩ := B2.c
      have HB2 := Lib.hid B2
      clear B2 hb2 c0 c1 c2 c3
      rw [hB]
      go_wp2
      go_ret
      exact ⟨rfl, HB2.out.bel⟩
    | 3, _, hk, hT =>
      change formT z.word = .tuple #[.string ⟨#[97, 98, 100]⟩, .bool true] at hT
      rcases Bool.eq_false_or_eq_true (decide (z.a < 0)) with e1 | e1
      · skip
        have hm : checkM z = 1 := by unfold checkM; rw [hk]; simp [partsB, boundB, e1]
        rw [hm]
        clear hm
        go_enter Tryz.func8, Tryz.ntmps8
        go_wp2_with fail
        have B := StpBox.new 27 z w
        generalize World.alloc _ _ = W at B ⊢
        generalize w.heap.size = bb at B ⊢
        refine (form_any z.word W hs).mono ?_
        rintro e w1 ⟨rfl, hb1⟩
        rw [hT]
        have B1 := B.step hb1
        obtain ⟨c0, c1, c2, c3⟩ := B1.c
        have HB := Lib.hid B1
        clear B B1 hb1
        go_wp2_with (first | (go_at_call 34; (first | (refine (contains1 _ _ true (by decide) _).mono ?_) | (refine (contains1 _ _ false (by decide) _).mono ?_)); rintro e w2 ⟨rfl, rfl⟩))
        go_ret
        exact ⟨rfl, HB.out.bel⟩
      rcases Bool.eq_false_or_eq_true (decide (999 < z.a)) with e2 | e2
      · skip
        have hm : checkM z = 1 := by unfold checkM; rw [hk]; simp [partsB, boundB, e1, e2]
        rw [hm]
        clear hm
        go_enter Tryz.func8, Tryz.ntmps8
        go_wp2_with fail
        have B := StpBox.new 27 z w
        generalize World.alloc _ _ = W at B ⊢
        generalize w.heap.size = bb at B ⊢
        refine (form_any z.word W hs).mono ?_
        rintro e w1 ⟨rfl, hb1⟩
        rw [hT]
        have B1 := B.step hb1
        obtain ⟨c0, c1, c2, c3⟩ := B1.c
        have HB := Lib.hid B1
        clear B B1 hb1
        go_wp2_with (first | (go_at_call 34; (first | (refine (contains1 _ _ true (by decide) _).mono ?_) | (refine (contains1 _ _ false (by decide) _).mono ?_)); rintro e w2 ⟨rfl, rfl⟩))
        go_ret
        exact ⟨rfl, HB.out.bel⟩
      rcases Bool.eq_false_or_eq_true (decide (z.b < 0)) with e3 | e3
      · skip
        have hm : checkM z = 1 := by unfold checkM; rw [hk]; simp [partsB, boundB, e1, e2, e3]
        rw [hm]
        clear hm
        go_enter Tryz.func8, Tryz.ntmps8
        go_wp2_with fail
        have B := StpBox.new 27 z w
        generalize World.alloc _ _ = W at B ⊢
        generalize w.heap.size = bb at B ⊢
        refine (form_any z.word W hs).mono ?_
        rintro e w1 ⟨rfl, hb1⟩
        rw [hT]
        have B1 := B.step hb1
        obtain ⟨c0, c1, c2, c3⟩ := B1.c
        have HB := Lib.hid B1
        clear B B1 hb1
        go_wp2_with (first | (go_at_call 34; (first | (refine (contains1 _ _ true (by decide) _).mono ?_) | (refine (contains1 _ _ false (by decide) _).mono ?_)); rintro e w2 ⟨rfl, rfl⟩))
        go_ret
        exact ⟨rfl, HB.out.bel⟩
      rcases Bool.eq_false_or_eq_true (decide (999 < z.b)) with e4 | e4
      · skip
        have hm : checkM z = 1 := by unfold checkM; rw [hk]; simp [partsB, boundB, e1, e2, e3, e4]
        rw [hm]
        clear hm
        go_enter Tryz.func8, Tryz.ntmps8
        go_wp2_with fail
        have B := StpBox.new 27 z w
        generalize World.alloc _ _ = W at B ⊢
        generalize w.heap.size = bb at B ⊢
        refine (form_any z.word W hs).mono ?_
        rintro e w1 ⟨rfl, hb1⟩
        rw [hT]
        have B1 := B.step hb1
        obtain ⟨c0, c1, c2, c3⟩ := B1.c
        have HB := Lib.hid B1
        clear B B1 hb1
        go_wp2_with (first | (go_at_call 34; (first | (refine (contains1 _ _ true (by decide) _).mono ?_) | (refine (contains1 _ _ false (by decide) _).mono ?_)); rintro e w2 ⟨rfl, rfl⟩))
        go_ret
        exact ⟨rfl, HB.out.bel⟩
      rcases Bool.eq_false_or_eq_true (decide (9 < (z.data.size : Int))) with e5 | e5
      · skip
        have hm : checkM z = 1 := by unfold checkM; rw [hk]; simp [partsB, boundB, e1, e2, e3, e4, e5]
        rw [hm]
        clear hm
        go_enter Tryz.func8, Tryz.ntmps8
        go_wp2_with fail
        have B := StpBox.new 27 z w
        generalize World.alloc _ _ = W at B ⊢
        generalize w.heap.size = bb at B ⊢
        refine (form_any z.word W hs).mono ?_
        rintro e w1 ⟨rfl, hb1⟩
        rw [hT]
        have B1 := B.step hb1
        obtain ⟨c0, c1, c2, c3⟩ := B1.c
        have HB := Lib.hid B1
        clear B B1 hb1
        go_wp2_with (first | (go_at_call 34; (first | (refine (contains1 _ _ true (by decide) _).mono ?_) | (refine (contains1 _ _ false (by decide) _).mono ?_)); rintro e w2 ⟨rfl, rfl⟩))
        go_ret
        exact ⟨rfl, HB.out.bel⟩
      have hz : z.data.size ≤ 9 := by have := of_decide_eq_false e5; omega
      cases hB : blankB z.data
      · rcases Bool.eq_false_or_eq_true (z.data.toList == [45]) with hq | hq
        · skip
          have hm : checkM z = 3 := by unfold checkM; rw [hk]; simp [partsB, boundB, e1, e2, e3, e4, e5, hB, hq]
          rw [hm]
          clear hm
          go_enter Tryz.func8, Tryz.ntmps8
          go_wp2_with fail
          have B := StpBox.new 27 z w
          generalize World.alloc _ _ = W at B ⊢
          generalize w.heap.size = bb at B ⊢
          refine (form_any z.word W hs).mono ?_
          rintro e w1 ⟨rfl, hb1⟩
          rw [hT]
          have B1 := B.step hb1
          obtain ⟨c0, c1, c2, c3⟩ := B1.c
          have HB := Lib.hid B1
          clear B B1 hb1
          go_wp2_with (first | (go_at_call 34; (first | (refine (contains1 _ _ true (by decide) _).mono ?_) | (refine (contains1 _ _ false (by decide) _).mono ?_)); rintro e w2 ⟨rfl, rfl⟩))
          refine (cany_any z.data w1 hz).mono ?_
          rintro e w2 ⟨rfl, hb2⟩
          have B2 := HB.out.step hb2
          obtain ⟨d0, d1, d2, d3⟩ := B2.c
          have HB2 := Lib.hid B2
          clear B2 hb2 c0 c1 c2 c3
          rw [hB]
          go_wp2
          go_ret
          exact ⟨rfl, HB2.out.bel⟩
        · skip
          have hm : checkM z = 0 := by unfold checkM; rw [hk]; simp [partsB, boundB, e1, e2, e3, e4, e5, hB, hq]
          rw [hm]
          clear hm
          go_enter Tryz.func8, Tryz.ntmps8
          go_wp2_with fail
          have B := StpBox.new 27 z w
          generalize World.alloc _ _ = W at B ⊢
          generalize w.heap.size = bb at B ⊢
          refine (form_any z.word W hs).mono ?_
          rintro e w1 ⟨rfl, hb1⟩
          rw [hT]
          have B1 := B.step hb1
          obtain ⟨c0, c1, c2, c3⟩ := B1.c
          have HB := Lib.hid B1
          clear B B1 hb1
          go_wp2_with (first | (go_at_call 34; (first | (refine (contains1 _ _ true (by decide) _).mono ?_) | (refine (contains1 _ _ false (by decide) _).mono ?_)); rintro e w2 ⟨rfl, rfl⟩))
          refine (cany_any z.data w1 hz).mono ?_
          rintro e w2 ⟨rfl, hb2⟩
          have B2 := HB.out.step hb2
          obtain ⟨d0, d1, d2, d3⟩ := B2.c
          have HB2 := Lib.hid B2
          clear B2 hb2 c0 c1 c2 c3
          rw [hB]
          go_wp2
          go_ret
          exact ⟨rfl, HB2.out.bel⟩
      · skip
        have hm : checkM z = 3 := by unfold checkM; rw [hk]; simp [partsB, boundB, e1, e2, e3, e4, e5, hB]
        rw [hm]
        clear hm
        go_enter Tryz.func8, Tryz.ntmps8
        go_wp2_with fail
        have B := StpBox.new 27 z w
        generalize World.alloc _ _ = W at B ⊢
        generalize w.heap.size = bb at B ⊢
        refine (form_any z.word W hs).mono ?_
        rintro e w1 ⟨rfl, hb1⟩
        rw [hT]
        have B1 := B.step hb1
        obtain ⟨c0, c1, c2, c3⟩ := B1.c
        have HB := Lib.hid B1
        clear B B1 hb1
        go_wp2_with (first | (go_at_call 34; (first | (refine (contains1 _ _ true (by decide) _).mono ?_) | (refine (contains1 _ _ false (by decide) _).mono ?_)); rintro e w2 ⟨rfl, rfl⟩))
        refine (cany_any z.data w1 hz).mono ?_
        rintro e w2 ⟨rfl, hb2⟩
        have B2 := HB.out.step hb2
        obtain ⟨d0, d1, d2, d3⟩ := B2.c
        have HB2 := Lib.hid B2
        clear B2 hb2 c0 c1 c2 c3
        rw [hB]
        go_wp2
        go_ret
        exact ⟨rfl, HB2.out.bel⟩
end Go.Proofs.YtinknleckppciaaGreatDoor
namespace Go.Proofs.YtinknleckppciaaGreatDoor
set_option linter.unusedSimpArgs false
set_option linter.unusedVariables false
open Go.RowKit

structure Env (w : World) : Prop where
  tab : Lib.TabIs Tryz.prog w "internal/strconv.uint64pow10" .u64 Lib.pow10Tab
theorem var_below {P : Program} {w w' : World} {n : String} {cs : Array Value} (h : w.var? P n = some cs) (hb : Below w.heap.size w w') : w'.var? P n = some cs := by
  unfold World.var? at *
  cases hg : P.globalNamed n with
  | none => simp [hg] at h
  | some g =>
    simp only [hg, Option.bind_some] at h ⊢
    have hlt : g < w.heap.size := by
      rcases Nat.lt_or_ge g w.heap.size with h' | h'
      · exact h'
      · simp [Array.getElem?_eq_none h'] at h
    rw [hb.block _ hlt]
    exact h
theorem Env.below {w w' : World} (h : Env w) (hb : Below w.heap.size w w') : Env w' := ⟨var_below h.tab hb⟩
def itoaB (n : Int) : ByteArray := ⟨(Lib.itoa n).toArray⟩
theorem itoa_any (n : Int) (w : World) (h0 : -9223372036854775808 ≤ n) (h1 : n ≤ 9223372036854775807) (hE : Env w) :
    Calls Tryz.prog 28 #[.int .i64 n] w (Ret (.string (itoaB n)) w) :=
  (Tryz.strconv_Itoa n h0 h1 w hE.tab).mono fun e w' ⟨he, k, os, hw⟩ => ⟨he, by rw [hw]; exact Lib.below_grow _ _ (Nat.le_refl _) _ _⟩
end Go.Proofs.YtinknleckppciaaGreatDoor
