
/- The law Names: its walk. -/
import Derived.Test.YtecnpdkoodfemaaDoorSame
import Derived.Test.YtecnpdkoodfemaaDoorLib1
namespace Go.Proofs.YtecnpdkoodfemaaDoor
set_option linter.unusedSimpArgs false
set_option linter.unusedVariables false
open Go.RowKit Go.Sort

def errText9 : ByteArray := ⟨#[119, 101, 105, 103, 104, 98, 114, 105, 100, 103, 101, 58, 32, 101, 114, 114, 111, 114, 32, 57]⟩
theorem dec9 : (⟨(Lib.decDigits 9).toArray⟩ : ByteArray) = ⟨#[57]⟩ := by simp [Lib.decDigits]
theorem error9 (w : World) : Calls Tryd.prog 8 #[.int .i64 9] w (RetSame (.string errText9) w) := by
  go_enter Tryd.func8, Tryd.ntmps8
  go_wp2_with (go_at_call 17; refine (Tryd.strconv_Itoa_small 9 (by omega) _).mono ?_; rintro e w1 ⟨rfl, rfl⟩; rw [dec9])
  go_ret
  exact ⟨rfl, rfl⟩

def numbersL : List Int := [32, 4, 4, 6, 2, 8, 3, 6, 4, 8, 3, 2, 3, 3, 1000000000, 90, 40, 1, 2, 3]
def errsL : List Value := [errV 1, errV 2, errV 3, errV 4, errV 5, errV 6, errV 7, errV 8, errV 9]
theorem errsL_at {k : Nat} (h : k < 9) : errsL[k]? = some (errV (k + 1)) := by
  match k, h with
  | 0, _ | 1, _ | 2, _ | 3, _ | 4, _ | 5, _ | 6, _ | 7, _ | 8, _ => rfl
theorem ints_at {w : World} {b : Nat} {T : TypeId} {r : Nat × Nat} (l : List Int) (h : w.heap[b]? = some (.cells (l.map (.int .i64)).toArray T r)) (hb : b < w.heap.size) (hl : l.length ≤ maxLen) (hi : ∀ x ∈ l, -9223372036854775808 ≤ x ∧ x ≤ 9223372036854775807) :
    IntsAt (fun _ => True) w (.slice (some ⟨b, 0, none⟩) l.length l.length) l :=
  ⟨⟨_, l.length, rfl, Nat.le_refl _, hl, by simp, fun _ => ⟨b, 0, rfl, trivial, fun j v hv => by
    rw [Nat.zero_add, cell_of_row _ _ j _ _ _ h]
    simpa using hv⟩⟩, hi⟩
set_option maxRecDepth 100000 in
theorem names_walk (w : World) : Calls Tryd.prog 3 #[] w (Ret (.bool true) w) := by
  obtain ⟨W, hW⟩ : ∃ W, ((w.alloc (.cells (numbersL.map (.int .i64)).toArray 3)).alloc (.cells (numbersL.map (.int .i64)).toArray 3)).alloc (.cells errsL.toArray 27) = W := ⟨_, rfl⟩
  have hb : Below w.heap.size w W := by
    rw [← hW]
    exact (((Below.refl _ _).alloc (Nat.le_refl _) _).alloc (by simp) _).alloc (by simp; omega) _
  have z0 : W.heap.size = w.heap.size + 1 + 1 + 1 := by rw [← hW]; simp
  have h0 : W.heap[w.heap.size]? = some (.cells (numbersL.map (.int .i64)).toArray 3 (0, 0)) := by
    rw [← hW, heap_alloc_old _ _ (by simp; omega), heap_alloc_old _ _ (by simp), heap_alloc_new]
  have h1 : W.heap[w.heap.size + 1]? = some (.cells (numbersL.map (.int .i64)).toArray 3 (0, 0)) := by
    rw [← hW, heap_alloc_old _ _ (by simp)]
    have := heap_alloc_new (w.alloc (.cells (numbersL.map (.int .i64)).toArray 3)) (.cells (numbersL.map (.int .i64)).toArray 3)
    simpa using this
  have h2 : W.heap[w.heap.size + 1 + 1]? = some (.cells errsL.toArray 27 (0, 0)) := by
    rw [← hW]
    have := heap_alloc_new ((w.alloc (.cells (numbersL.map (.int .i64)).toArray 3)).alloc (.cells (numbersL.map (.int .i64)).toArray 3)) (.cells errsL.toArray 27)
    simpa using this
  have hi : ∀ x ∈ numbersL, -9223372036854775808 ≤ x ∧ x ≤ 9223372036854775807 := by decide
  have I0 := ints_at numbersL h0 (by omega) (by decide) hi
  have I1 := ints_at numbersL h1 (by omega) (by decide) hi
  have HC := Lib.hid (fun k (hk : k < 9) => (cell_of_row W _ k _ _ _ h2).trans (by simpa using errsL_at hk))
  have HB := Lib.hid hb
  have HI0 := Lib.hid I0
  have HI1 := Lib.hid I1
  clear h0 h1 h2 hi I0 I1 hb z0
  have HW := Lib.hid hW
  clear hW
  go_enter Tryd.func3, Tryd.ntmps3
  go_wp2
  generalize hE : World.alloc (World.alloc (World.alloc _ _) _) _ = W'
  obtain rfl : W' = W := hE.symm.trans HW.out
  clear hE HW
  generalize w.heap.size = b at HC HI0 HI1 ⊢
  go_loopw [4] (fun i wr => ∃ k : Nat, k ≤ 9 ∧ i = .int .i64 k ∧ wr = W') (fun i _ => 9 - (intOf i).toNat)
  case atStart => exact ⟨0, by omega, rfl, rfl⟩
  case round =>
    obtain ⟨k, hk, rfl, rfl⟩ := hrel
    by_cases hlt : k < 9
    · have hc := HC.out k hlt
      have hk1 : (k : Int) < 9 := by omega
      have hs : (((k + 1 : Nat) : Int) == (k : Int) + 1) = true := by simp
      go_wp2_with (go_at_call 6; refine (same_any _ _ _).mono ?_; rintro e w1 ⟨rfl, rfl⟩)
      go_round
      case measure => simp [intOf]; omega
      case rel => exact ⟨k + 1, by omega, by first | rfl | simp, by trivial⟩
    · obtain rfl : k = 9 := by omega
      clear HC
      go_wp2_with fail
      refine (samenumbers_any _ numbersL numbersL _ _ _ HI0.out HI1.out).mono ?_
      rintro e w1 ⟨rfl, hb1⟩
      rw [eqB_true rfl]
      have HB1 := Lib.hid (HB.out.trans (hb1.mono HB.out.size))
      clear hb1 HB HI0 HI1
      go_wp2_with (go_at_call 8; refine (error9 _).mono ?_; rintro e w2 ⟨rfl, rfl⟩; unfold errText9)
      go_ret
      exact ⟨rfl, HB1.out⟩
end Go.Proofs.YtecnpdkoodfemaaDoor
