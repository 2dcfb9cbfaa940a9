/- slices.Concat of two lists of texts, or numbers: a row of the call's own. -/
import Derived.Test.YtfklcfpkbnddfaaTake
import Derived.Lib.AppendZerosOnto
import Derived.Lib.AppendZeros
namespace Go.Proofs.Ytfklcfpkbnddfaa
set_option linter.unusedSimpArgs false
set_option linter.unusedVariables false
open Go.RowKit

theorem rd_block {S : Nat → Prop} {w : World} {b k size n : Nat} {T : TypeId} {cs : Array Value} {v : Value} {xs : List Value} (h : w.heap[b]? = some (.cells cs T (0, 0))) (hv : cs[k]? = some v) : w.cell? ⟨b, k, none⟩ = some v := by
  rw [cell_of_row _ _ k _ _ _ h]; exact hv

theorem stringInfo : (Try.prog.info? 9).map (fun i => (i.zero, i.size, i.bytes)) = some (some (.string ByteArray.empty), 1, 16) := by kernel_rfl
set_option maxRecDepth 100000 in
theorem grow_string (n : Nat) (w : World) (hn : n ≤ 65536) : Calls Try.prog 63 #[.slice none 0 0, .int .i64 n] w (RetOwn 9 1 0 [] w) := by
  obtain ⟨i0, hi0, hz0, hz1, hz2⟩ := info_parts stringInfo
  by_cases h0 : n = 0
  · subst h0
    go_enter Try.func63, Try.ntmps63
    go_wp2
    go_ret
    exact ⟨_, rfl, World.ownsRow_nil _ _ _ _, Below.refl _ _⟩
  · have hgr : ∀ ty, (Builtin.append_ #[42, 3] ty #[.slice none 0 0, .int .i64 n]).run Try.prog w = .ok (.slice (some ⟨w.heap.size, 0, none⟩) n (grownCap w n 0 9))
        (w.drew.alloc (.cells (#[] ++ Builtin.zeroCells (Value.cells (.string ByteArray.empty)) n ++ Builtin.zeroCells (Value.cells (.string ByteArray.empty)) (grownCap w n 0 9 - n)) 9)) := fun ty => by
      have h := Lib.run_append_grow_zeros w 42 3 ty 9 i0 _ .i64 .i64 Try.underlying42 Try.underlying3 hi0 hz0 none 0 0 [] (by rw [hz1]; exact run_firstCells_none w.drew 1 0 0 0) n (by omega) (by omega) (by omega) (by omega) (by rw [hz2]; omega)
        (by rw [hz2]; exact growslice_fits (by omega) (by omega))
      simpa using h
    have hG := grownCap_ge w n 0 9
    have hG63 : grownCap w n 0 9 ≤ 9223372036854775807 := by
      have := grownCap_le_maxLen w n 0 9 (by unfold maxLen; omega)
      unfold maxLen at this; omega
    generalize grownCap w n 0 9 = G at hgr hG hG63
    obtain ⟨C, hC, hCs⟩ : ∃ C : Array Value, (#[] ++ Builtin.zeroCells (Value.cells (.string ByteArray.empty)) n ++ Builtin.zeroCells (Value.cells (.string ByteArray.empty)) (G - n)) = C ∧ C.size = G := ⟨_, rfl, by simp [size_zeroCells, Value.cells]; omega⟩
    rw [hC] at hgr
    have hn0 : decide (0 < n) = true := by simp; omega
    have hw1 : ¬ ((n : Int) < 0) := by omega
    have HC := Lib.hid hCs
    clear hC hCs
    go_enter Try.func63, Try.ntmps63
    go_wp2_with (at_builtin; refine Lib.wpList_append_run _ rfl _ _ _ _ rfl _ _ rfl rfl _ _ (hgr _) ?_)
    go_ret
    exact ⟨_, rfl, ⟨rfl, .inr ⟨w.heap.size, G, C, rfl, Nat.le_refl _, heap_alloc_new w (.cells C 9), by omega, by unfold maxLen; omega, by rw [HC.out]; omega, by simp⟩⟩, ((Below.refl _ _).alloc (Nat.le_refl _) _).drew⟩

set_option maxRecDepth 100000 in
set_option maxHeartbeats 1000000 in
theorem concat_string (S : Nat → Prop) (g n m : Nat) (va vb : Value) (xs ys : List Value) (T : TypeId) (w : World) (hg : w.heap[g]? = some (.cells #[va, vb] T (0, 0))) (ha : Rd S w 1 va n xs) (hb : Rd S w 1 vb m ys)
    (h1 : ∀ u ∈ xs, u.oneCell' = true) (h2 : ∀ u ∈ ys, u.oneCell' = true) (hn : n ≤ 30000) (hm : m ≤ 30000) :
    Calls Try.prog 57 #[.slice (some ⟨g, 0, none⟩) 2 2] w (RetOwn 9 1 (n + m) (xs ++ ys) w) := by
  obtain ⟨i0, hi0, hz0, hz1, hz2⟩ := info_parts stringInfo
  have Ha := Lib.hid ha
  have Hb := Lib.hid hb
  obtain ⟨Aa, ca, rfl, _, ha2⟩ := ha.form
  obtain ⟨Ab, cb, rfl, _, hb2⟩ := hb.form
  unfold maxLen at ha2 hb2
  have hgl : g < w.heap.size := by
    rcases Nat.lt_or_ge g w.heap.size with h | h
    · exact h
    · rw [Array.getElem?_eq_none h] at hg; cases hg
  have Hg := Lib.hid hg
  have H1 := Lib.hid h1
  have H2 := Lib.hid h2
  have c0 : w.cell? ⟨g, 0, none⟩ = some (.slice Aa n ca) := cell_of_row _ _ 0 _ _ _ hg
  have c1 : w.cell? ⟨g, 1, none⟩ = some (.slice Ab m cb) := cell_of_row _ _ 1 _ _ _ hg
  clear ha hb hg h1 h2
  go_enter Try.func57, Try.ntmps57
  go_wp2_with fail
  go_loop [3, 5, 11] (fun s _ i => (i = .int .i64 0 ∧ s = .int .i64 0) ∨ (i = .int .i64 1 ∧ s = .int .i64 n) ∨ (i = .int .i64 2 ∧ s = .int .i64 ((n : Int) + (m : Int)))) (fun _ _ i => (2 - intOf i).toNat)
  case atStart => exact .inl ⟨rfl, rfl⟩
  case round =>
    rcases hrel with ⟨rfl, rfl⟩ | ⟨rfl, rfl⟩ | ⟨rfl, rfl⟩
    · go_wp2
      go_round
      case rel => exact .inr (.inl ⟨rfl, rfl⟩)
      case measure => simp [intOf]
    · go_wp2
      go_round
      case rel => exact .inr (.inr ⟨rfl, rfl⟩)
      case measure => simp [intOf]
    · go_wp2_with fail
      have hnm : ((n : Int) + (m : Int)) = ((n + m : Nat) : Int) := by omega
      rw [hnm]
      clear hnm
      refine (grow_string (n + m) _ (by omega)).mono ?_
      rintro e w1 ⟨v1, rfl, hown1, hb1⟩
      have Ho1 := Lib.hid hown1
      have c0' : w1.cell? ⟨g, 0, none⟩ = some (.slice Aa n ca) := (hb1.cell (p := ⟨g, 0, none⟩) hgl).trans c0
      have c1' : w1.cell? ⟨g, 1, none⟩ = some (.slice Ab m cb) := (hb1.cell (p := ⟨g, 1, none⟩) hgl).trans c1
      have Hb1 := Lib.hid hb1
      clear hown1 c0 c1 hb1
      go_wp2_with fail
      obtain ⟨wo, rfl⟩ : ∃ wo : World, wo = w1 := ⟨_, rfl⟩
      go_loopw [6, 8, 27] (fun v _ i wr => Hid (Below w.heap.size w wr) ∧ ((i = .int .i64 0 ∧ Hid (wr.ownsRow w.heap.size 9 1 v 0 [])) ∨ (i = .int .i64 1 ∧ Hid (wr.ownsRow w.heap.size 9 1 v (0 + n) ([] ++ xs))) ∨ (i = .int .i64 2 ∧ Hid (wr.ownsRow w.heap.size 9 1 v (0 + n + m) ([] ++ xs ++ ys))))) (fun _ _ i _ => (2 - intOf i).toNat)
      case atStart => exact ⟨Hb1, .inl ⟨rfl, Ho1⟩⟩
      case round =>
        obtain ⟨HB, hrel⟩ := hrel
        have d0 : wr.cell? ⟨g, 0, none⟩ = some (.slice Aa n ca) := (HB.out.cell (p := ⟨g, 0, none⟩) hgl).trans (cell_of_row _ _ 0 _ _ _ Hg.out)
        have d1 : wr.cell? ⟨g, 1, none⟩ = some (.slice Ab m cb) := (HB.out.cell (p := ⟨g, 1, none⟩) hgl).trans (cell_of_row _ _ 1 _ _ _ Hg.out)
        clear c0' c1'
        rcases hrel with ⟨rfl, HO⟩ | ⟨rfl, HO⟩ | ⟨rfl, HO⟩
        · go_wp2_with (at_builtin; refine wpList_append_rd (S := S) _ rfl (.tmp 31) (.tmp 32) _ rfl w.heap.size 9 i0 _ 1 16 Try.underlying42 hi0 hz0 hz1 hz2 rfl (by omega) _ 0 [] rfl HO.out (.slice Aa n ca) n xs rfl (Ha.out.below HB.out) H1.out (by simp only [maxLen]; omega) (by omega) HB.out.size ?_; intro v2 w2 hown2 hg2 hat2)
          have HB2 := Lib.hid (HB.out.grown hg2 HB.out.size (fun k hk => (HO.out.lt k hk).1))
          have HO2 := Lib.hid hown2
          clear hown2 hg2 hat2
          go_roundw
          case rel => exact ⟨HB2, .inr (.inl ⟨rfl, HO2⟩)⟩
          case measure => simp [intOf]
        · go_wp2_with (at_builtin; refine wpList_append_rd (S := S) _ rfl (.tmp 31) (.tmp 32) _ rfl w.heap.size 9 i0 _ 1 16 Try.underlying42 hi0 hz0 hz1 hz2 rfl (by omega) _ (0 + n) ([] ++ xs) rfl HO.out (.slice Ab m cb) m ys rfl (Hb.out.below HB.out) H2.out (by simp only [maxLen]; omega) (by omega) HB.out.size ?_; intro v2 w2 hown2 hg2 hat2)
          have HB2 := Lib.hid (HB.out.grown hg2 HB.out.size (fun k hk => (HO.out.lt k hk).1))
          have HO2 := Lib.hid hown2
          clear hown2 hg2 hat2
          go_roundw
          case rel => exact ⟨HB2, .inr (.inr ⟨rfl, HO2⟩)⟩
          case measure => simp [intOf]
        · go_wp2_with fail
          go_ret
          exact ⟨_, rfl, by simpa using HO.out, HB.out⟩

theorem intInfo : (Try.prog.info? 3).map (fun i => (i.zero, i.size, i.bytes)) = some (some (.int .i64 0), 1, 8) := by kernel_rfl
set_option maxRecDepth 100000 in
theorem grow_int (n : Nat) (w : World) (hn : n ≤ 65536) : Calls Try.prog 64 #[.slice none 0 0, .int .i64 n] w (RetOwn 3 1 0 [] w) := by
  obtain ⟨i0, hi0, hz0, hz1, hz2⟩ := info_parts intInfo
  by_cases h0 : n = 0
  · subst h0
    go_enter Try.func64, Try.ntmps64
    go_wp2
    go_ret
    exact ⟨_, rfl, World.ownsRow_nil _ _ _ _, Below.refl _ _⟩
  · have hgr : ∀ ty, (Builtin.append_ #[43, 3] ty #[.slice none 0 0, .int .i64 n]).run Try.prog w = .ok (.slice (some ⟨w.heap.size, 0, none⟩) n (grownCap w n 0 3))
        (w.drew.alloc (.cells (#[] ++ Builtin.zeroCells (Value.cells (.int .i64 0)) n ++ Builtin.zeroCells (Value.cells (.int .i64 0)) (grownCap w n 0 3 - n)) 3)) := fun ty => by
      have h := Lib.run_append_grow_zeros w 43 3 ty 3 i0 _ .i64 .i64 Try.underlying43 Try.underlying3 hi0 hz0 none 0 0 [] (by rw [hz1]; exact run_firstCells_none w.drew 1 0 0 0) n (by omega) (by omega) (by omega) (by omega) (by rw [hz2]; omega)
        (by rw [hz2]; exact growslice_fits (by omega) (by omega))
      simpa using h
    have hG := grownCap_ge w n 0 3
    have hG63 : grownCap w n 0 3 ≤ 9223372036854775807 := by
      have := grownCap_le_maxLen w n 0 3 (by unfold maxLen; omega)
      unfold maxLen at this; omega
    generalize grownCap w n 0 3 = G at hgr hG hG63
    obtain ⟨C, hC, hCs⟩ : ∃ C : Array Value, (#[] ++ Builtin.zeroCells (Value.cells (.int .i64 0)) n ++ Builtin.zeroCells (Value.cells (.int .i64 0)) (G - n)) = C ∧ C.size = G := ⟨_, rfl, by simp [size_zeroCells, Value.cells]; omega⟩
    rw [hC] at hgr
    have hn0 : decide (0 < n) = true := by simp; omega
    have hw1 : ¬ ((n : Int) < 0) := by omega
    have HC := Lib.hid hCs
    clear hC hCs
    go_enter Try.func64, Try.ntmps64
    go_wp2_with (at_builtin; refine Lib.wpList_append_run _ rfl _ _ _ _ rfl _ _ rfl rfl _ _ (hgr _) ?_)
    go_ret
    exact ⟨_, rfl, ⟨rfl, .inr ⟨w.heap.size, G, C, rfl, Nat.le_refl _, heap_alloc_new w (.cells C 3), by omega, by unfold maxLen; omega, by rw [HC.out]; omega, by simp⟩⟩, ((Below.refl _ _).alloc (Nat.le_refl _) _).drew⟩

set_option maxRecDepth 100000 in
set_option maxHeartbeats 1000000 in
theorem concat_int (S : Nat → Prop) (g n m : Nat) (va vb : Value) (xs ys : List Value) (T : TypeId) (w : World) (hg : w.heap[g]? = some (.cells #[va, vb] T (0, 0))) (ha : Rd S w 1 va n xs) (hb : Rd S w 1 vb m ys)
    (h1 : ∀ u ∈ xs, u.oneCell' = true) (h2 : ∀ u ∈ ys, u.oneCell' = true) (hn : n ≤ 30000) (hm : m ≤ 30000) :
    Calls Try.prog 58 #[.slice (some ⟨g, 0, none⟩) 2 2] w (RetOwn 3 1 (n + m) (xs ++ ys) w) := by
  obtain ⟨i0, hi0, hz0, hz1, hz2⟩ := info_parts intInfo
  have Ha := Lib.hid ha
  have Hb := Lib.hid hb
  obtain ⟨Aa, ca, rfl, _, ha2⟩ := ha.form
  obtain ⟨Ab, cb, rfl, _, hb2⟩ := hb.form
  unfold maxLen at ha2 hb2
  have hgl : g < w.heap.size := by
    rcases Nat.lt_or_ge g w.heap.size with h | h
    · exact h
    · rw [Array.getElem?_eq_none h] at hg; cases hg
  have Hg := Lib.hid hg
  have H1 := Lib.hid h1
  have H2 := Lib.hid h2
  have c0 : w.cell? ⟨g, 0, none⟩ = some (.slice Aa n ca) := cell_of_row _ _ 0 _ _ _ hg
  have c1 : w.cell? ⟨g, 1, none⟩ = some (.slice Ab m cb) := cell_of_row _ _ 1 _ _ _ hg
  clear ha hb hg h1 h2
  go_enter Try.func58, Try.ntmps58
  go_wp2_with fail
  go_loop [3, 5, 11] (fun s _ i => (i = .int .i64 0 ∧ s = .int .i64 0) ∨ (i = .int .i64 1 ∧ s = .int .i64 n) ∨ (i = .int .i64 2 ∧ s = .int .i64 ((n : Int) + (m : Int)))) (fun _ _ i => (2 - intOf i).toNat)
  case atStart => exact .inl ⟨rfl, rfl⟩
  case round =>
    rcases hrel with ⟨rfl, rfl⟩ | ⟨rfl, rfl⟩ | ⟨rfl, rfl⟩
    · go_wp2
      go_round
      case rel => exact .inr (.inl ⟨rfl, rfl⟩)
      case measure => simp [intOf]
    · go_wp2
      go_round
      case rel => exact .inr (.inr ⟨rfl, rfl⟩)
      case measure => simp [intOf]
    · go_wp2_with fail
      have hnm : ((n : Int) + (m : Int)) = ((n + m : Nat) : Int) := by omega
      rw [hnm]
      clear hnm
      refine (grow_int (n + m) _ (by omega)).mono ?_
      rintro e w1 ⟨v1, rfl, hown1, hb1⟩
      have Ho1 := Lib.hid hown1
      have c0' : w1.cell? ⟨g, 0, none⟩ = some (.slice Aa n ca) := (hb1.cell (p := ⟨g, 0, none⟩) hgl).trans c0
      have c1' : w1.cell? ⟨g, 1, none⟩ = some (.slice Ab m cb) := (hb1.cell (p := ⟨g, 1, none⟩) hgl).trans c1
      have Hb1 := Lib.hid hb1
      clear hown1 c0 c1 hb1
      go_wp2_with fail
      obtain ⟨wo, rfl⟩ : ∃ wo : World, wo = w1 := ⟨_, rfl⟩
      go_loopw [6, 8, 27] (fun v _ i wr => Hid (Below w.heap.size w wr) ∧ ((i = .int .i64 0 ∧ Hid (wr.ownsRow w.heap.size 3 1 v 0 [])) ∨ (i = .int .i64 1 ∧ Hid (wr.ownsRow w.heap.size 3 1 v (0 + n) ([] ++ xs))) ∨ (i = .int .i64 2 ∧ Hid (wr.ownsRow w.heap.size 3 1 v (0 + n + m) ([] ++ xs ++ ys))))) (fun _ _ i _ => (2 - intOf i).toNat)
      case atStart => exact ⟨Hb1, .inl ⟨rfl, Ho1⟩⟩
      case round =>
        obtain ⟨HB, hrel⟩ := hrel
        have d0 : wr.cell? ⟨g, 0, none⟩ = some (.slice Aa n ca) := (HB.out.cell (p := ⟨g, 0, none⟩) hgl).trans (cell_of_row _ _ 0 _ _ _ Hg.out)
        have d1 : wr.cell? ⟨g, 1, none⟩ = some (.slice Ab m cb) := (HB.out.cell (p := ⟨g, 1, none⟩) hgl).trans (cell_of_row _ _ 1 _ _ _ Hg.out)
        clear c0' c1'
        rcases hrel with ⟨rfl, HO⟩ | ⟨rfl, HO⟩ | ⟨rfl, HO⟩
        · go_wp2_with (at_builtin; refine wpList_append_rd (S := S) _ rfl (.tmp 31) (.tmp 32) _ rfl w.heap.size 3 i0 _ 1 8 Try.underlying43 hi0 hz0 hz1 hz2 rfl (by omega) _ 0 [] rfl HO.out (.slice Aa n ca) n xs rfl (Ha.out.below HB.out) H1.out (by simp only [maxLen]; omega) (by omega) HB.out.size ?_; intro v2 w2 hown2 hg2 hat2)
          have HB2 := Lib.hid (HB.out.grown hg2 HB.out.size (fun k hk => (HO.out.lt k hk).1))
          have HO2 := Lib.hid hown2
          clear hown2 hg2 hat2
          go_roundw
          case rel => exact ⟨HB2, .inr (.inl ⟨rfl, HO2⟩)⟩
          case measure => simp [intOf]
        · go_wp2_with (at_builtin; refine wpList_append_rd (S := S) _ rfl (.tmp 31) (.tmp 32) _ rfl w.heap.size 3 i0 _ 1 8 Try.underlying43 hi0 hz0 hz1 hz2 rfl (by omega) _ (0 + n) ([] ++ xs) rfl HO.out (.slice Ab m cb) m ys rfl (Hb.out.below HB.out) H2.out (by simp only [maxLen]; omega) (by omega) HB.out.size ?_; intro v2 w2 hown2 hg2 hat2)
          have HB2 := Lib.hid (HB.out.grown hg2 HB.out.size (fun k hk => (HO.out.lt k hk).1))
          have HO2 := Lib.hid hown2
          clear hown2 hg2 hat2
          go_roundw
          case rel => exact ⟨HB2, .inr (.inr ⟨rfl, HO2⟩)⟩
          case measure => simp [intOf]
        · go_wp2_with fail
          go_ret
          exact ⟨_, rfl, by simpa using HO.out, HB.out⟩
end Go.Proofs.Ytfklcfpkbnddfaa
