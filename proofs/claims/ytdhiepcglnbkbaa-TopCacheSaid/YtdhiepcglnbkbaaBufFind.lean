
/- find: where a sector is among those at hand (slices.BinarySearchFunc). -/
import Derived.Test.YtdhiepcglnbkbaaBufMem
import Derived.Deep.LoopGhost
namespace Go.Proofs.Ytdhiepcglnbkbaa
set_option linter.unusedSimpArgs false
set_option linter.unusedVariables false
open Go.RowKit

theorem isnan_any (x : Int) (w : World) : Calls Try.prog 85 #[.int .i64 x] w (RetSame (.bool false) w) := by
  go_enter Try.func85, Try.ntmps85
  go_wp2
  go_ret
  exact ⟨by simp, rfl⟩
def cmpI (a b : Int) : Int := if a < b then -1 else if b < a then 1 else 0
theorem compare_any (a b : Int) (w : World) : Calls Try.prog 81 #[.int .i64 a, .int .i64 b] w (RetSame (.int .i64 (cmpI a b)) w) := by
  by_cases h1 : a < b
  · have e : cmpI a b = -1 := if_pos h1
    rw [e]
    clear e
    go_enter Try.func81, Try.ntmps81
    go_wp2_with (go_at_call 85; refine (isnan_any _ _).mono ?_; rintro e w1 ⟨rfl, rfl⟩)
    go_ret
    exact ⟨rfl, rfl⟩
  · by_cases h2 : b < a
    · have e : cmpI a b = 1 := by unfold cmpI; rw [if_neg h1, if_pos h2]
      rw [e]
      clear e
      go_enter Try.func81, Try.ntmps81
      go_wp2_with (go_at_call 85; refine (isnan_any _ _).mono ?_; rintro e w1 ⟨rfl, rfl⟩)
      go_ret
      exact ⟨rfl, rfl⟩
    · have e : cmpI a b = 0 := by unfold cmpI; rw [if_neg h1, if_neg h2]
      rw [e]
      clear e
      go_enter Try.func81, Try.ntmps81
      go_wp2_with (go_at_call 85; refine (isnan_any _ _).mono ?_; rintro e w1 ⟨rfl, rfl⟩)
      go_ret
      exact ⟨rfl, rfl⟩
theorem find1_any (b : Bf) (p : Int) (w : World) : Calls Try.prog 80 #[bfV b, .int .i64 p] w (Ret (.int .i64 (cmpI b.pos p)) w) := by
  go_enter Try.func80, Try.ntmps80
  go_wp2_with (go_at_call 81; refine (compare_any _ _ _).mono ?_; rintro e w1 ⟨rfl, rfl⟩)
  go_ret
  exact ⟨rfl, (Below.refl _ _).alloc (Nat.le_refl _) _⟩

set_option maxRecDepth 100000 in
set_option maxHeartbeats 2000000 in
theorem bsearch_any (S : Nat → Prop) (l : List Bf) (v : Value) (p : Int) (w : World) (h : BufsAt S w v l) (hr : Rises l) (hn : l.length ≤ 65536) :
    Calls Try.prog 79 #[v, .int .i64 p, .func (.func 80) #[] #[]] w (Ret (.tuple #[.int .i64 (posB l p : Nat), .bool (isB l p)]) w) := by
  obtain ⟨A, cap, rfl, h1, h2⟩ := h.form
  unfold maxLen at h2
  have H := Lib.hid h
  have HR := Lib.hid hr
  clear h hr
  obtain ⟨P, hP⟩ : ∃ x, posB l p = x := ⟨_, rfl⟩
  obtain ⟨B, hB⟩ : ∃ x, isB l p = x := ⟨_, rfl⟩
  rw [hP, hB]
  have HP := Lib.hid hP
  have HB := Lib.hid hB
  clear hP hB
  go_enter Try.func79, Try.ntmps79
  go_wp2
  go_loopw [9, 10] (fun s9 s10 wr => ∃ lo hi : Nat, s9 = .int .i64 lo ∧ s10 = .int .i64 hi ∧ lo ≤ hi ∧ hi ≤ l.length ∧ Below w.heap.size w wr ∧ Hid ((∀ i b, i < lo → l[i]? = some b → b.pos < p) ∧ (∀ i b, hi ≤ i → l[i]? = some b → p ≤ b.pos))) (fun s9 s10 _ => (intOf s10).toNat - (intOf s9).toNat)
  case atStart => exact ⟨0, l.length, rfl, rfl, by omega, by omega, Below.refl _ _, ⟨fun i b hi => by omega, fun i b hi hb => by rw [List.getElem?_eq_none hi] at hb; cases hb⟩⟩
  case round =>
    obtain ⟨lo, hi, rfl, rfl, hlh, hhn, hb, hI⟩ := hrel
    by_cases hlt : lo < hi
    · obtain ⟨b, off, rfl, _, hbl, hc⟩ := (H.out.below hb).at_ (by omega)
      have hx : l[(lo + hi) / 2]? = some l[(lo + hi) / 2] := List.getElem?_eq_getElem (by omega)
      obtain ⟨hok, k0, k1, k2, k3⟩ := hc _ _ hx
      have Hx := Lib.hid hx
      clear hx hc
      generalize l[(lo + hi) / 2] = x at *
      have hi1 : ((lo : Int) + (hi : Int)) / 2 < (l.length : Int) := by omega
      by_cases hcx : x.pos < p
      · have hc1 : cmpI x.pos p = -1 := if_pos hcx
        go_wp2_with (go_at_call 80; refine (find1_any x p _).mono ?_; rintro e w1 ⟨rfl, hb1⟩; have hb2 := hb.trans (hb1.mono hb.size))
        go_roundw
        case rel => exact ⟨(lo + hi) / 2 + 1, hi, by go_num, rfl, by omega, hhn, hb2, ⟨fun i c hi2 hc2 => by
          rcases Nat.eq_or_lt_of_le (Nat.le_of_lt_succ hi2) with e | e
          · subst e; rw [Hx.out] at hc2; cases hc2; exact hcx
          · have := HR.out.lt e hc2 Hx.out; omega, hI.out.2⟩⟩
        case measure => simp [intOf]; omega
      · have hc1 : 0 ≤ cmpI x.pos p := by unfold cmpI; rw [if_neg hcx]; split <;> omega
        go_wp2_with (go_at_call 80; refine (find1_any x p _).mono ?_; rintro e w1 ⟨rfl, hb1⟩; have hb2 := hb.trans (hb1.mono hb.size))
        go_roundw
        case rel => exact ⟨lo, (lo + hi) / 2, rfl, by go_num, by omega, by omega, hb2, ⟨hI.out.1, fun i c hi2 hc2 => by
          rcases Nat.eq_or_lt_of_le hi2 with e | e
          · subst e; rw [Hx.out] at hc2; cases hc2; omega
          · have := HR.out.lt e Hx.out hc2; omega⟩⟩
        case measure => simp [intOf]; omega
    · obtain rfl : lo = hi := by omega
      have e : P = lo := HP.out.symm.trans (posB_eq HR.out hhn hI.out.1 hI.out.2)
      have e2 := HB.out.symm.trans (isB_pos (p := p) HR.out)
      rw [HP.out] at e2
      subst e
      by_cases hln : P < l.length
      · obtain ⟨b, off, rfl, _, hbl, hc⟩ := (H.out.below hb).at_ (by omega)
        have hx : l[P]? = some l[P] := List.getElem?_eq_getElem hln
        obtain ⟨hok, k0, k1, k2, k3⟩ := hc _ _ hx
        rw [List.getD_eq_getElem?_getD, hx] at e2
        clear hx hc
        simp only [Option.getD_some] at e2
        generalize l[P] = x at *
        have E2 := Lib.hid e2
        clear e2
        have hi1 : (P : Int) < (l.length : Int) := by omega
        go_wp2_with (go_at_call 80; refine (find1_any x p _).mono ?_; rintro e w1 ⟨rfl, hb1⟩; have hb2 := hb.trans (hb1.mono hb.size))
        go_ret2
        refine ⟨?_, hb2⟩
        rw [E2.out]
        simp [hln]
        unfold cmpI
        split
        · simp; omega
        · split
          · simp; omega
          · simp; omega
      · have E2 := Lib.hid e2
        clear e2
        have hi1 : decide ((P : Int) < (l.length : Int)) = false := by simp; omega
        go_wp2
        go_ret2
        exact ⟨by rw [E2.out]; simp [hln], hb⟩
theorem find_any (S : Nat → Prop) (l : List Bf) (v : Value) (p : Int) (w : World) (h : BufsAt S w v l) (hr : Rises l) (hn : l.length ≤ 65536) :
    Calls Try.prog 69 #[v, .int .i64 p] w (Ret (.tuple #[.int .i64 (posB l p : Nat), .bool (isB l p)]) w) := by
  obtain ⟨A, cap, rfl, h1, h2⟩ := h.form
  have H := Lib.hid h
  have HR := Lib.hid hr
  clear h hr
  go_enter Try.func69, Try.ntmps69
  go_wp2_with (go_at_call 79; refine (bsearch_any S l _ p _ H.out HR.out hn).mono ?_; rintro e w1 ⟨rfl, hb1⟩)
  go_ret2
  exact ⟨rfl, hb1⟩
end Go.Proofs.Ytdhiepcglnbkbaa
