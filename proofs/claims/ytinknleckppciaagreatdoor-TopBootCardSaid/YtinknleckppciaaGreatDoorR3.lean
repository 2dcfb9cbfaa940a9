/- strings.ContainsAny(s, " \n") at every s of at most nine bytes: is one of the bytes a blank or a line's end? -/
import Derived.Test.YtinknleckppciaaGreatDoorR1
import Derived.Test.YtinknleckppciaaGreatDoorR2
import Derived.Lib.OthersKept
import Derived.Deep.LoopGhost
import Derived.WalkMore
namespace Go.Proofs.YtinknleckppciaaGreatDoor
set_option linter.unusedSimpArgs false
set_option linter.unusedVariables false
open Go.RowKit Go.Sort

abbrev blanks : ByteArray := ⟨#[32, 10]⟩
def blankB (s : ByteArray) : Bool := Lib.containsAny s.data.toList [32, 10]
theorem below_drewN {B : Nat} {a w : World} (h : Below B a w) (n : Nat) : Below B a (w.drewN n) := h.trans ⟨rfl, rfl, rfl, Nat.le_refl _, fun _ _ => rfl⟩
set_option maxRecDepth 100000 in
theorem validrune_any (r : Int) (w : World) (h0 : 0 ≤ r) : Calls Tryz.prog 118 #[.int .i32 r] w (RetSame (.bool (Utf8.valid r)) w) := by
  have a0 : decide ((0 : Int) ≤ r) = true := decide_eq_true h0
  by_cases a : r < 55296
  · have e : Utf8.valid r = true := by unfold Utf8.valid; simp; omega
    have a1 : decide (r < 55296) = true := decide_eq_true a
    rw [e]
    clear e
    go_enter Tryz.func118, Tryz.ntmps118
    go_wp2
    go_ret
    exact ⟨rfl, rfl⟩
  have a1 : decide (r < 55296) = false := decide_eq_false a
  by_cases b : (57343 : Int) < r
  · have b1 : decide ((57343 : Int) < r) = true := decide_eq_true b
    by_cases c : r ≤ 1114111
    · have c1 : decide (r ≤ 1114111) = true := decide_eq_true c
      have e : Utf8.valid r = true := by unfold Utf8.valid; simp; omega
      rw [e]
      clear e
      go_enter Tryz.func118, Tryz.ntmps118
      go_wp2
      go_ret
      exact ⟨rfl, rfl⟩
    · have c1 : decide (r ≤ 1114111) = false := decide_eq_false c
      have e : Utf8.valid r = false := by unfold Utf8.valid; simp; omega
      rw [e]
      clear e
      go_enter Tryz.func118, Tryz.ntmps118
      go_wp2
      go_ret
      exact ⟨rfl, rfl⟩
  · have b1 : decide ((57343 : Int) < r) = false := decide_eq_false b
    have e : Utf8.valid r = false := by unfold Utf8.valid; simp; omega
    rw [e]
    clear e
    go_enter Tryz.func118, Tryz.ntmps118
    go_wp2
    go_ret
    exact ⟨rfl, rfl⟩
set_option maxRecDepth 100000 in
set_option maxHeartbeats 2000000 in
theorem irune_hi (r : Int) (w : World) (h0 : 128 ≤ r) (h1 : r ≤ 2147483647) : Calls Tryz.prog 89 #[.string blanks, .int .i32 r] w (Ret (.int .i64 (-1)) w) := by
  by_cases he : r = 65533
  · subst he
    go_enter Tryz.func89, Tryz.ntmps89
    go_wp2
    go_loopw [5, 6] (fun _ _ wr => ∃ pos : Nat, pos ≤ 2 ∧ wr = w.iter blanks pos) (fun _ _ wr => 2 - wr.iterPos w.heap.size)
    case atStart => exact ⟨0, by omega, rfl⟩
    case round =>
      obtain ⟨pos, hp, rfl⟩ := hrel
      match pos, hp with
      | 0, _ =>
        have hnx := fun ty => run_next_ascii (P := Tryz.prog) w blanks 0 ty (by decide) (by decide)
        go_wp2
        go_round
        case measure => simp
        case rel => exact ⟨1, by omega, rfl⟩
      | 1, _ =>
        have hnx := fun ty => run_next_ascii (P := Tryz.prog) w blanks 1 ty (by decide) (by decide)
        go_wp2
        go_round
        case measure => simp
        case rel => exact ⟨2, by omega, rfl⟩
      | 2, _ =>
        have hnx := fun ty => run_next_end (P := Tryz.prog) w blanks 2 ty (by decide)
        go_wp2
        go_ret
        exact ⟨rfl, (Below.refl _ _).alloc (Nat.le_refl _) _⟩
  · have a1 : decide ((0 : Int) ≤ r) = true := decide_eq_true (by omega)
    have a2 : decide (r < 128) = false := decide_eq_false (by omega)
    have a3 : (r == 65533) = false := beq_eq_false_iff_ne.2 he
    cases hv : Utf8.valid r with
    | false =>
      go_enter Tryz.func89, Tryz.ntmps89
      go_wp2_with (go_at_call 118; refine (validrune_any r _ (by omega)).mono ?_; rintro e w1 ⟨rfl, rfl⟩; rw [hv])
      go_ret
      exact ⟨rfl, Below.refl _ _⟩
    | true =>
      obtain ⟨f1, f2, f3⟩ := encode_facts r hv h0
      have hcv := fun w => run_convert_int_string (P := Tryz.prog) w 21 9 .i32 r (by rw [Tryz.underlying21]; rfl) Tryz.underlying9
      generalize Utf8.encode r = bs at f1 f2 f3 hcv
      obtain ⟨m, hm⟩ : ∃ m, bs.size = m + 1 := ⟨bs.size - 1, by omega⟩
      have hn : IntKind.i64.wrap ((bs.size : Int) - 1) = (m : Int) := by
        rw [IntWalk.i64_in _ (by omega)]; omega
      have hmb : m < bs.size := by omega
      have f4 : 128 ≤ (bs[m]'hmb).toNat := by
        have := f3 (by omega)
        simpa [hm] using this
      clear f3
      obtain ⟨x, hx⟩ : ∃ x : UInt8, bs[m]'hmb = x := ⟨_, rfl⟩
      rw [hx] at f4
      have m1 : 1 ≤ m := by omega
      have HM := Lib.hid hm
      clear hm f1 f2
      have hsx : (Tryz.prog.underlying 21).isSome = true := by rw [Tryz.underlying21]; rfl
      go_enter Tryz.func89, Tryz.ntmps89
      go_wp2_with (go_at_call 118; refine (validrune_any r _ (by omega)).mono ?_; rintro e w1 ⟨rfl, rfl⟩; rw [hv])
      go_step3
      go_wp2
      go_loopw [9, 10, 11, 12] (fun i f _ _ wr => i = .int .i64 (m : Int) ∧ f = .int .i64 0 ∧ wr = w) (fun _ _ _ _ _ => 0)
      case atStart => exact ⟨rfl, rfl, rfl⟩
      case round =>
        obtain ⟨rfl, rfl, rfl⟩ := hrel
        by_cases h3 : 2 ≤ m
        · have d : decide ((m : Int) < 2) = false := decide_eq_false (by omega)
          have d' : ¬ ((m : Int) < 2) := by omega
          go_wp2
          go_ret
          exact ⟨rfl, Below.refl _ _⟩
        · obtain rfl : m = 1 := by omega
          have hne : (((blanks[1]'(by decide)).toNat : Int) != (x.toNat : Int)) = true := by
            rw [bne_iff_ne]
            show (10 : Int) ≠ _
            omega
          go_wp2
          go_step3
          go_wp2
          go_region
          go_wp2
          have hbz : Below wr.heap.size wr wr.drew := (Below.refl _ _).drew
          generalize wr.drew = wz at hbz ⊢
          have hw2 : IntKind.i64.wrap 2 = 2 := by decide
          have hb1 : (1 : Int) < (bs.size : Int) := by omega
          go_quiet (first | (go_at_call 117; refine Calls.quiet_of_same (Tryz.strings_IndexByte _ _ _)))
          go_wp2
          go_ret
          exact ⟨rfl, below_drewN hbz _⟩

/-- Behind a high byte the rune's other bytes are high too. -/
theorem decode_span (s : ByteArray) (pos : Nat) (h : pos < s.size) (ha : 128 ≤ (s[pos]'h).toNat) (j : Nat) (h1 : pos ≤ j) (h2 : j < pos + (Utf8.decode s pos).2) : ∃ hj : j < s.size, 128 ≤ (s[j]'hj).toNat := by
  have hg : ∀ k (hk : pos + k < s.size), s.get! (pos + k) = s[pos + k]'hk := fun k hk => by
    show s.get! _ = _
    simp [ByteArray.get!, getElem!_pos, hk]
    rfl
  have h0 := hg 0 (by omega)
  have hn : ¬ (s[pos]'h).toNat < 128 := by omega
  have hc : ∀ k, (decide (pos + k < s.size) && (s.get! (pos + k)).toNat / 64 == 2) = true → ∃ hk : pos + k < s.size, 128 ≤ (s[pos + k]'hk).toNat := fun k hk => by
    rw [Bool.and_eq_true, decide_eq_true_eq, beq_iff_eq] at hk
    refine ⟨hk.1, ?_⟩
    rw [hg k hk.1] at hk
    omega
  have h00 : s.get! (pos + 0) = s[pos]'h := get_at s pos h
  simp only [Utf8.decode, h00, hn, if_false] at h2
  have fin : ∀ k, j = pos + k → (∃ hk : pos + k < s.size, 128 ≤ (s[pos + k]'hk).toNat) → ∃ hj : j < s.size, 128 ≤ (s[j]'hj).toNat := fun k e hh => by subst e; exact hh
  have f0 : ∃ hk : pos + 0 < s.size, 128 ≤ (s[pos + 0]'hk).toNat := ⟨by omega, ha⟩
  obtain ⟨k, rfl⟩ : ∃ k, j = pos + k := ⟨j - pos, by omega⟩
  match k, h2 with
  | 0, _ => exact f0
  | k + 1, h2 =>
    split at h2
    · rename_i hx
      simp only [Bool.and_eq_true] at hx
      split at h2
      · obtain rfl : k = 0 := by simp at h2; omega
        exact hc 1 (by simpa using hx.2)
      · simp at h2
    · split at h2
      · rename_i hx
        simp only [Bool.and_eq_true] at hx
        split at h2
        · have hk : k = 0 ∨ k = 1 := by simp at h2; omega
          rcases hk with rfl | rfl
          · exact hc 1 (by simpa using hx.1.2)
          · exact hc 2 (by simpa using hx.2)
        · simp at h2
      · split at h2
        · rename_i hx
          simp only [Bool.and_eq_true] at hx
          split at h2
          · have hk : k = 0 ∨ k = 1 ∨ k = 2 := by simp at h2; omega
            rcases hk with rfl | rfl | rfl
            · exact hc 1 (by simpa using hx.1.1.2)
            · exact hc 2 (by simpa using hx.1.2)
            · exact hc 3 (by simpa using hx.2)
          · simp at h2
        · simp at h2

set_option maxRecDepth 100000 in
set_option maxHeartbeats 2000000 in
theorem iany_short (s : ByteArray) (w : World) (h8 : s.size ≤ 8) :
    Calls Tryz.prog 61 #[.string s, .string blanks] w (Ret (.int .i64 (Lib.indexAny s.data.toList [32, 10])) w) := by
  have h8z : decide ((8 : Int) < (s.size : Int)) = false := decide_eq_false (by omega)
  go_enter Tryz.func61, Tryz.ntmps61
  go_wp2_with (go_at_call 90; refine (Tryz.strings_shouldUseASCIISet _ _).mono ?_; rintro e w' ⟨rfl, hw⟩; rw [hw, h8z])
  go_loopg [9, 10] s.size (fun g _ _ wr => ∃ i : Nat, i ≤ s.size ∧ s.size ≤ i + g ∧ wr.heap[w.heap.size]? = some (.stringIter s i) ∧ Below w.heap.size w wr ∧ Hid (Lib.NoAny s.data.toList [32, 10] i))
  case atStart => exact ⟨0, by omega, by omega, w.iter_heap s 0, (Below.refl _ _).alloc (Nat.le_refl _) _, Lib.NoAny.zero _ _⟩
  case round =>
    obtain ⟨i, hi, hig, hk, hb, hno⟩ := hrel
    by_cases hlt : i < s.size
    · obtain ⟨x, hx⟩ : ∃ x : UInt8, s[i]'hlt = x := ⟨_, rfl⟩
      have Hx := Lib.hid (show s.data.toList[i]? = some x by rw [← hx]; exact Lib.data_getElem? s i hlt)
      cases gk with
      | zero => omega
      | succ g =>
        by_cases hx128 : x.toNat < 128
        · have hnx := fun ty => Lib.run_next_ascii_at (P := Tryz.prog) wr w.heap.size s i ty hk hlt (by rw [hx]; exact hx128)
          rw [hx] at hnx
          have hk2 := Lib.iterAt_heap wr w.heap.size s i (i + 1) hk
          have hb2 : RowKit.Below w.heap.size w (wr.iterAt w.heap.size s (i + 1)) := Lib.below_iterAt hb (Nat.le_refl _) _ _
          clear hx
          generalize wr.iterAt w.heap.size s (i + 1) = w2 at hnx hk2 hb2
          have hcon := Lib.contains_iff_indexByte [32, 10] x
          have hback : ((x.toNat : Int)).toNat.toUInt8 = x := by simp
          have HK := Lib.hid hk2
          have HB := Lib.hid hb2
          clear hk hb hk2 hb2
          cases hin : ([32, 10] : List UInt8).contains x
          · rw [hin] at hcon
            have hge : ¬ ((0 : Int) ≤ Lib.indexByte [32, 10] x) := of_decide_eq_false hcon.symm
            clear hcon
            go_wp2_with (go_at_call 89; refine (Tryz.strings_IndexRune_ascii _ _ _ (by omega) (by omega)).mono ?_; rintro e w' ⟨rfl, hw⟩; rw [hw, hback])
            go_roundg g
            case measure => omega
            case rel => exact ⟨i + 1, by omega, by omega, HK.out, HB.out, Lib.NoAny.succ hno.out Hx.out hin⟩
          · rw [hin] at hcon
            have hge : (0 : Int) ≤ Lib.indexByte [32, 10] x := of_decide_eq_true hcon.symm
            clear hcon
            go_wp2_with (go_at_call 89; refine (Tryz.strings_IndexRune_ascii _ _ _ (by omega) (by omega)).mono ?_; rintro e w' ⟨rfl, hw⟩; rw [hw, hback])
            go_ret
            exact ⟨by rw [Lib.indexAny_hit hno.out Hx.out hin]; rfl, HB.out⟩
        · have hxx : 128 ≤ (s[i]'hlt).toNat := by rw [hx]; omega
          have hnx := fun ty => Lib.run_next_any_at (P := Tryz.prog) wr w.heap.size s i ty hk hlt
          obtain ⟨d1, d2⟩ := decode_high s i hlt hxx
          have d3 := decode_le s i
          have hsp := Lib.hid (decode_span s i hlt hxx)
          obtain ⟨hr, hrr⟩ : ∃ r, (Utf8.decode s i).1 = r := ⟨_, rfl⟩
          obtain ⟨n, hnn⟩ : ∃ n, (Utf8.decode s i).2 = n := ⟨_, rfl⟩
          rw [hrr] at hnx d1 d3
          rw [hnn] at hnx d2 hsp
          clear hrr hnn
          have hk2 := Lib.iterAt_heap wr w.heap.size s i (i + n) hk
          have hb2 : RowKit.Below w.heap.size w (wr.iterAt w.heap.size s (i + n)) := Lib.below_iterAt hb (Nat.le_refl _) _ _
          clear hx hxx
          generalize wr.iterAt w.heap.size s (i + n) = w2 at hnx hk2 hb2
          have HK := Lib.hid hk2
          have HB := Lib.hid hb2
          clear hk hb hk2 hb2
          have hl : i + n ≤ s.size := by
            obtain ⟨hj, _⟩ := hsp.out (i + n - 1) (by omega) (by omega)
            omega
          have hno2 : Hid (Lib.NoAny s.data.toList [32, 10] (i + n)) := fun j b hj hjb => by
            by_cases hji : j < i
            · exact hno.out j b hji hjb
            · obtain ⟨h1, h2⟩ := hsp.out j (by omega) hj
              have : s.data.toList[j]? = some (s[j]'h1) := Lib.data_getElem? s j h1
              rw [this] at hjb
              obtain rfl := Option.some.inj hjb
              generalize s[j]'h1 = y at h2
              have e1 : (y == 32) = false := by rw [beq_eq_false_iff_ne]; rintro rfl; revert h2; decide
              have e2 : (y == 10) = false := by rw [beq_eq_false_iff_ne]; rintro rfl; revert h2; decide
              simp only [List.contains_cons, e1, e2, List.contains_nil, Bool.or_self]
          go_wp2_with (go_at_call 89; refine (irune_hi _ _ (by omega) (by omega)).mono ?_; rintro e w3 ⟨rfl, hb3⟩)
          go_roundg g
          case measure => omega
          case rel => exact ⟨i + n, by omega, by omega, (hb3.block _ (by have := Array.getElem?_eq_some_iff.1 HK.out; exact this.1)).trans HK.out, HB.out.trans (hb3.mono HB.out.size), hno2⟩
    · obtain rfl : i = s.size := by omega
      have hnx := fun ty => Lib.run_next_end_at (P := Tryz.prog) wr w.heap.size s s.size ty hk (by omega)
      go_wp2
      go_ret
      exact ⟨by rw [Lib.indexAny_none (by rw [← Lib.size_eq]; exact hno.out)]; rfl, hb⟩

set_option maxRecDepth 100000 in
theorem cany_any (s : ByteArray) (w : World) (h9 : s.size ≤ 9) : Calls Tryz.prog 35 #[.string s, .string blanks] w (Ret (.bool (blankB s)) w) := by
  have c : Calls Tryz.prog 61 #[.string s, .string blanks] w (Ret (.int .i64 (Lib.indexAny s.data.toList [32, 10])) w) := by
    by_cases h8 : s.size ≤ 8
    · exact iany_short s w h8
    · refine (Tryz.strings_IndexAny_long (fun w => by kernel_rfl) s blanks w (by decide) (by omega) (by omega) (by decide) (fun j b h => ?_)).mono ?_
      · match j, h with
        | 0, h => cases h; decide
        | 1, h => cases h; decide
        | j + 2, h => simp at h
      rintro e w' ⟨rfl, rfl⟩
      exact ⟨rfl, ((Below.refl _ _).alloc (Nat.le_refl _) _).alloc (by simp) _⟩
  have hh : Hid (blankB s = decide (0 ≤ Lib.indexAny s.data.toList [32, 10])) := rfl
  go_enter Tryz.func35, Tryz.ntmps35
  go_wp2_with (go_at_call 61; refine c.mono ?_; rintro e w' ⟨rfl, hb⟩)
  go_ret
  exact ⟨congrArg Ending.returned (congrArg Value.bool hh.out.symm), hb⟩
theorem blankB_iff (s : ByteArray) : blankB s = s.data.toList.any fun b => b == 32 || b == 10 := by
  unfold blankB Lib.containsAny
  rw [show decide (0 ≤ Lib.indexAny s.data.toList [32, 10]) = s.data.toList.any ([32, 10] : List UInt8).contains from ?_]
  · congr 1
    funext b
    simp [List.contains_cons]
    rfl
  · induction s.data.toList with
    | nil => rfl
    | cons b l ih =>
      rw [List.any_cons, ← ih]
      have := Lib.indexAny_ge [32, 10] l
      rw [show Lib.indexAny (b :: l) [32, 10] = if ([32, 10] : List UInt8).contains b then 0 else if Lib.indexAny l [32, 10] == -1 then -1 else Lib.indexAny l [32, 10] + 1 from rfl]
      cases hc : ([32, 10] : List UInt8).contains b
      · simp only [Bool.false_eq_true, if_false, Bool.false_or]
        by_cases h1 : Lib.indexAny l [32, 10] = -1
        · rw [h1]; rfl
        · have : (Lib.indexAny l [32, 10] == -1) = false := beq_eq_false_iff_ne.2 h1
          rw [this]
          simp only [Bool.false_eq_true, if_false]
          rw [decide_eq_decide]
          omega
      · simp
end Go.Proofs.YtinknleckppciaaGreatDoor
