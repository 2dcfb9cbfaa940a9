/- Oldest, From: which of those that wait. -/
import Derived.Test.YtfklcfpkbnddfaaLight
namespace Go.Proofs.Ytfklcfpkbnddfaa
open Go.RowKit
theorem drewN_below (B : Nat) (w : World) (n : Nat) : Below B w (w.drewN n) := ⟨rfl, rfl, rfl, Nat.le_refl _, fun _ _ => rfl⟩

set_option maxRecDepth 100000 in
set_option maxHeartbeats 1600000 in
theorem oldest_any (S : Nat → Prop) (l : List Rq) (v : Value) (wb : Bool) (w : World) (h : ReqsAt S w v l) :
    Calls Try.prog 34 #[v, .bool wb] w (Ret (.int .i64 (oldest l wb)) w) := by
  obtain ⟨A, cap, rfl, h1, h2⟩ := h.form
  unfold maxLen at h2
  have Hl := Lib.hid h
  clear h
  go_enter Try.func34, Try.ntmps34
  go_wp2
  go_loopw [5, 10] (fun b i wr => ∃ k : Nat, k ≤ l.length ∧ i = .int .i64 k ∧ b = .int .i64 (bestOf (fun r : Rq => r.write == wb) (fun r : Rq => r.born) l k) ∧ Below w.heap.size w wr) (fun _ i _ => l.length - (intOf i).toNat)
  case atStart => exact ⟨0, by omega, rfl, rfl, Below.refl _ _⟩
  case round =>
    obtain ⟨k, hk, rfl, rfl, hb⟩ := hrel
    have hrange := bestOf_range (fun r : Rq => r.write == wb) (fun r : Rq => r.born) l k
    by_cases hlt : k < l.length
    · have hkl : (k : Int) < (l.length : Int) := by omega
      have Hm := Lib.hid (Hl.out.below hb)
      obtain ⟨b, off, rfl, _, hbl, hc⟩ := Hm.out.at_ (by omega)
      have hx : l[k]? = some l[k] := List.getElem?_eq_getElem hlt
      obtain ⟨Ad, cd, At, ct, _, k0, k1, k2, k3, k4, k5⟩ := hc k _ hx
      have Hx := Lib.hid hx
      clear hx
      generalize l[k] = r at k0 k1 k2 k3 k4 k5 Hx
      have Hc := Lib.hid hc
      clear hc
      cases hw : (r.write == wb) with
      | false =>
        go_wp2_with fail
        go_quiet (fail)
        go_wp2
        go_roundw
        case rel => exact ⟨k + 1, by omega, by go_num, by rw [bestOf_no Hx.out (by simp [hw])], by first | exact hb | exact ((hb.alloc hb.size _).trans (drewN_below _ _ _)) | exact (hb.alloc hb.size _)⟩
        case measure => simp [intOf]; omega
      | true =>
        by_cases hneg : bestOf (fun r : Rq => r.write == wb) (fun r : Rq => r.born) l k < 0
        · have hm1 : bestOf (fun r : Rq => r.write == wb) (fun r : Rq => r.born) l k = -1 := by omega
          have Hm1 := Lib.hid hm1
          rw [hm1]
          clear hm1 hrange hneg
          go_wp2_with fail
          go_quiet (fail)
          go_wp2
          go_roundw
          case rel => exact ⟨k + 1, by omega, by go_num, by rw [bestOf_first Hx.out (by simp [hw]) (by rw [Hm1.out]; omega)], by first | exact hb | exact ((hb.alloc hb.size _).trans (drewN_below _ _ _)) | exact (hb.alloc hb.size _)⟩
          case measure => simp [intOf]; omega
        · obtain ⟨j, hj⟩ : ∃ j : Nat, bestOf (fun r : Rq => r.write == wb) (fun r : Rq => r.born) l k = j := ⟨(bestOf (fun r : Rq => r.write == wb) (fun r : Rq => r.born) l k).toNat, by omega⟩
          have Hj := Lib.hid hj
          rw [hj]
          have hjk : j < k := by omega
          have hjl : (j : Int) < (l.length : Int) := by omega
          have hj0 : ¬ (j : Int) < 0 := by omega
          clear hj hrange hneg
          have hxj : l[j]? = some l[j] := List.getElem?_eq_getElem (by omega)
          obtain ⟨_, _, _, _, _, j0, j1, j2, _, _, j5⟩ := Hc.out j _ hxj
          have Hxj := Lib.hid hxj
          clear hxj
          generalize l[j] = r2 at j0 j1 j2 j5 Hxj
          by_cases hless : r.born < r2.born
          · skip
            go_wp2_with fail
            go_quiet (fail)
            go_wp2
            go_roundw
            case rel => exact ⟨k + 1, by omega, by go_num, by rw [bestOf_less Hx.out (by simp [hw]) Hj.out Hxj.out hless], by first | exact hb | exact ((hb.alloc hb.size _).trans (drewN_below _ _ _)) | exact (hb.alloc hb.size _)⟩
            case measure => simp [intOf]; omega
          · skip
            go_wp2_with fail
            go_quiet (fail)
            go_wp2
            go_roundw
            case rel => exact ⟨k + 1, by omega, by go_num, by rw [bestOf_more Hx.out Hj.out Hxj.out (by omega)], by first | exact hb | exact ((hb.alloc hb.size _).trans (drewN_below _ _ _)) | exact (hb.alloc hb.size _)⟩
            case measure => simp [intOf]; omega
    · obtain rfl : k = l.length := by omega
      go_wp2
      go_ret
      exact ⟨rfl, hb⟩

set_option maxRecDepth 100000 in
set_option maxHeartbeats 1600000 in
theorem roldest_any (S : Nat → Prop) (l : List Rq) (v : Value) (wb : Bool) (w : World) (h : ReqsAt S w v l) :
    Calls Try.prog 35 #[v, .bool wb] w (Ret (.int .i64 (oldest l wb)) w) := by
  obtain ⟨A, cap, rfl, h1, h2⟩ := h.form
  unfold maxLen at h2
  have Hl := Lib.hid h
  clear h
  go_enter Try.func35, Try.ntmps35
  go_wp2
  go_loopw [5, 6] (fun b i wr => ∃ k : Nat, k ≤ l.length ∧ i = .int .i64 k ∧ b = .int .i64 (bestOf (fun r : Rq => r.write == wb) (fun r : Rq => r.born) l k) ∧ Below w.heap.size w wr) (fun _ i _ => l.length - (intOf i).toNat)
  case atStart => exact ⟨0, by omega, rfl, rfl, Below.refl _ _⟩
  case round =>
    obtain ⟨k, hk, rfl, rfl, hb⟩ := hrel
    have hrange := bestOf_range (fun r : Rq => r.write == wb) (fun r : Rq => r.born) l k
    by_cases hlt : k < l.length
    · have hkl : (k : Int) < (l.length : Int) := by omega
      have Hm := Lib.hid (Hl.out.below hb)
      obtain ⟨b, off, rfl, _, hbl, hc⟩ := Hm.out.at_ (by omega)
      have hx : l[k]? = some l[k] := List.getElem?_eq_getElem hlt
      obtain ⟨Ad, cd, At, ct, _, k0, k1, k2, k3, k4, k5⟩ := hc k _ hx
      have Hx := Lib.hid hx
      clear hx
      generalize l[k] = r at k0 k1 k2 k3 k4 k5 Hx
      have Hc := Lib.hid hc
      clear hc
      cases hw : (r.write == wb) with
      | false =>
        go_wp2_with fail
        go_quiet (fail)
        go_wp2
        go_roundw
        case rel => exact ⟨k + 1, by omega, by go_num, by rw [bestOf_no Hx.out (by simp [hw])], by first | exact hb | exact (hb.trans (drewN_below _ _ _)) | exact (hb.alloc hb.size _)⟩
        case measure => simp [intOf]; omega
      | true =>
        by_cases hneg : bestOf (fun r : Rq => r.write == wb) (fun r : Rq => r.born) l k < 0
        · have hm1 : bestOf (fun r : Rq => r.write == wb) (fun r : Rq => r.born) l k = -1 := by omega
          have Hm1 := Lib.hid hm1
          rw [hm1]
          clear hm1 hrange hneg
          go_wp2_with fail
          go_quiet (fail)
          go_wp2
          go_roundw
          case rel => exact ⟨k + 1, by omega, by go_num, by rw [bestOf_first Hx.out (by simp [hw]) (by rw [Hm1.out]; omega)], by first | exact hb | exact (hb.trans (drewN_below _ _ _)) | exact (hb.alloc hb.size _)⟩
          case measure => simp [intOf]; omega
        · obtain ⟨j, hj⟩ : ∃ j : Nat, bestOf (fun r : Rq => r.write == wb) (fun r : Rq => r.born) l k = j := ⟨(bestOf (fun r : Rq => r.write == wb) (fun r : Rq => r.born) l k).toNat, by omega⟩
          have Hj := Lib.hid hj
          rw [hj]
          have hjk : j < k := by omega
          have hjl : (j : Int) < (l.length : Int) := by omega
          have hj0 : ¬ (j : Int) < 0 := by omega
          clear hj hrange hneg
          have hxj : l[j]? = some l[j] := List.getElem?_eq_getElem (by omega)
          obtain ⟨_, _, _, _, _, j0, j1, j2, _, _, j5⟩ := Hc.out j _ hxj
          have Hxj := Lib.hid hxj
          clear hxj
          generalize l[j] = r2 at j0 j1 j2 j5 Hxj
          by_cases hless : r.born < r2.born
          · skip
            go_wp2_with fail
            go_quiet (fail)
            go_wp2
            go_roundw
            case rel => exact ⟨k + 1, by omega, by go_num, by rw [bestOf_less Hx.out (by simp [hw]) Hj.out Hxj.out hless], by first | exact hb | exact (hb.trans (drewN_below _ _ _)) | exact (hb.alloc hb.size _)⟩
            case measure => simp [intOf]; omega
          · skip
            go_wp2_with fail
            go_quiet (fail)
            go_wp2
            go_roundw
            case rel => exact ⟨k + 1, by omega, by go_num, by rw [bestOf_more Hx.out Hj.out Hxj.out (by omega)], by first | exact hb | exact (hb.trans (drewN_below _ _ _)) | exact (hb.alloc hb.size _)⟩
            case measure => simp [intOf]; omega
    · obtain rfl : k = l.length := by omega
      go_wp2
      go_ret
      exact ⟨rfl, hb⟩

set_option maxRecDepth 100000 in
set_option maxHeartbeats 1600000 in
theorem from_any (S : Nat → Prop) (l : List Rq) (v : Value) (wb : Bool) (at_ : Int) (w : World) (h : ReqsAt S w v l) :
    Calls Try.prog 36 #[v, .bool wb, .int .i64 at_] w (Ret (.int .i64 (fromI l wb at_)) w) := by
  obtain ⟨A, cap, rfl, h1, h2⟩ := h.form
  unfold maxLen at h2
  have Hl := Lib.hid h
  clear h
  go_enter Try.func36, Try.ntmps36
  go_wp2
  go_loopw [7, 12] (fun b i wr => ∃ k : Nat, k ≤ l.length ∧ i = .int .i64 k ∧ b = .int .i64 (bestOf (fun r : Rq => r.write == wb && decide (at_ ≤ r.lo)) (fun r : Rq => r.lo) l k) ∧ Below w.heap.size w wr) (fun _ i _ => l.length - (intOf i).toNat)
  case atStart => exact ⟨0, by omega, rfl, rfl, Below.refl _ _⟩
  case round =>
    obtain ⟨k, hk, rfl, rfl, hb⟩ := hrel
    have hrange := bestOf_range (fun r : Rq => r.write == wb && decide (at_ ≤ r.lo)) (fun r : Rq => r.lo) l k
    by_cases hlt : k < l.length
    · have hkl : (k : Int) < (l.length : Int) := by omega
      have Hm := Lib.hid (Hl.out.below hb)
      obtain ⟨b, off, rfl, _, hbl, hc⟩ := Hm.out.at_ (by omega)
      have hx : l[k]? = some l[k] := List.getElem?_eq_getElem hlt
      obtain ⟨Ad, cd, At, ct, _, k0, k1, k2, k3, k4, k5⟩ := hc k _ hx
      have Hx := Lib.hid hx
      clear hx
      generalize l[k] = r at k0 k1 k2 k3 k4 k5 Hx
      have Hc := Lib.hid hc
      clear hc
      cases hw : (r.write == wb) with
      | false =>
        go_wp2_with fail
        go_quiet (fail)
        go_wp2
        go_roundw
        case rel => exact ⟨k + 1, by omega, by go_num, by rw [bestOf_no Hx.out (by simp [hw])], by first | exact hb | exact ((hb.alloc hb.size _).trans (drewN_below _ _ _)) | exact (hb.alloc hb.size _)⟩
        case measure => simp [intOf]; omega
      | true =>
        by_cases hat : at_ ≤ r.lo
        · skip
          by_cases hneg : bestOf (fun r : Rq => r.write == wb && decide (at_ ≤ r.lo)) (fun r : Rq => r.lo) l k < 0
          · have hm1 : bestOf (fun r : Rq => r.write == wb && decide (at_ ≤ r.lo)) (fun r : Rq => r.lo) l k = -1 := by omega
            have Hm1 := Lib.hid hm1
            rw [hm1]
            clear hm1 hrange hneg
            go_wp2_with fail
            go_quiet (fail)
            go_wp2
            go_roundw
            case rel => exact ⟨k + 1, by omega, by go_num, by rw [bestOf_first Hx.out (by simp [hw, hat]) (by rw [Hm1.out]; omega)], by first | exact hb | exact ((hb.alloc hb.size _).trans (drewN_below _ _ _)) | exact (hb.alloc hb.size _)⟩
            case measure => simp [intOf]; omega
          · obtain ⟨j, hj⟩ : ∃ j : Nat, bestOf (fun r : Rq => r.write == wb && decide (at_ ≤ r.lo)) (fun r : Rq => r.lo) l k = j := ⟨(bestOf (fun r : Rq => r.write == wb && decide (at_ ≤ r.lo)) (fun r : Rq => r.lo) l k).toNat, by omega⟩
            have Hj := Lib.hid hj
            rw [hj]
            have hjk : j < k := by omega
            have hjl : (j : Int) < (l.length : Int) := by omega
            have hj0 : ¬ (j : Int) < 0 := by omega
            clear hj hrange hneg
            have hxj : l[j]? = some l[j] := List.getElem?_eq_getElem (by omega)
            obtain ⟨_, _, _, _, _, j0, j1, j2, _, _, j5⟩ := Hc.out j _ hxj
            have Hxj := Lib.hid hxj
            clear hxj
            generalize l[j] = r2 at j0 j1 j2 j5 Hxj
            by_cases hless : r.lo < r2.lo
            · skip
              go_wp2_with fail
              go_quiet (fail)
              go_wp2
              go_roundw
              case rel => exact ⟨k + 1, by omega, by go_num, by rw [bestOf_less Hx.out (by simp [hw, hat]) Hj.out Hxj.out hless], by first | exact hb | exact ((hb.alloc hb.size _).trans (drewN_below _ _ _)) | exact (hb.alloc hb.size _)⟩
              case measure => simp [intOf]; omega
            · skip
              go_wp2_with fail
              go_quiet (fail)
              go_wp2
              go_roundw
              case rel => exact ⟨k + 1, by omega, by go_num, by rw [bestOf_more Hx.out Hj.out Hxj.out (by omega)], by first | exact hb | exact ((hb.alloc hb.size _).trans (drewN_below _ _ _)) | exact (hb.alloc hb.size _)⟩
              case measure => simp [intOf]; omega
        · have hd : decide (at_ ≤ r.lo) = false := by simp; omega
          go_wp2_with fail
          go_quiet (fail)
          go_wp2
          go_roundw
          case rel => exact ⟨k + 1, by omega, by go_num, by rw [bestOf_no Hx.out (by simp [hw]; omega)], by first | exact hb | exact ((hb.alloc hb.size _).trans (drewN_below _ _ _)) | exact (hb.alloc hb.size _)⟩
          case measure => simp [intOf]; omega
    · obtain rfl : k = l.length := by omega
      go_wp2
      go_ret
      exact ⟨rfl, hb⟩

set_option maxRecDepth 100000 in
set_option maxHeartbeats 1600000 in
theorem rfrom_any (S : Nat → Prop) (l : List Rq) (v : Value) (wb : Bool) (at_ : Int) (w : World) (h : ReqsAt S w v l) :
    Calls Try.prog 37 #[v, .bool wb, .int .i64 at_] w (Ret (.int .i64 (fromI l wb at_)) w) := by
  obtain ⟨A, cap, rfl, h1, h2⟩ := h.form
  unfold maxLen at h2
  have Hl := Lib.hid h
  clear h
  go_enter Try.func37, Try.ntmps37
  go_wp2
  go_loopw [7, 8] (fun b i wr => ∃ k : Nat, k ≤ l.length ∧ i = .int .i64 k ∧ b = .int .i64 (bestOf (fun r : Rq => r.write == wb && decide (at_ ≤ r.lo)) (fun r : Rq => r.lo) l k) ∧ Below w.heap.size w wr) (fun _ i _ => l.length - (intOf i).toNat)
  case atStart => exact ⟨0, by omega, rfl, rfl, Below.refl _ _⟩
  case round =>
    obtain ⟨k, hk, rfl, rfl, hb⟩ := hrel
    have hrange := bestOf_range (fun r : Rq => r.write == wb && decide (at_ ≤ r.lo)) (fun r : Rq => r.lo) l k
    by_cases hlt : k < l.length
    · have hkl : (k : Int) < (l.length : Int) := by omega
      have Hm := Lib.hid (Hl.out.below hb)
      obtain ⟨b, off, rfl, _, hbl, hc⟩ := Hm.out.at_ (by omega)
      have hx : l[k]? = some l[k] := List.getElem?_eq_getElem hlt
      obtain ⟨Ad, cd, At, ct, _, k0, k1, k2, k3, k4, k5⟩ := hc k _ hx
      have Hx := Lib.hid hx
      clear hx
      generalize l[k] = r at k0 k1 k2 k3 k4 k5 Hx
      have Hc := Lib.hid hc
      clear hc
      cases hw : (r.write == wb) with
      | false =>
        go_wp2
        go_roundw
        case rel => exact ⟨k + 1, by omega, by go_num, by rw [bestOf_no Hx.out (by simp [hw])], by first | exact hb | exact (hb.trans (drewN_below _ _ _)) | exact (hb.alloc hb.size _)⟩
        case measure => simp [intOf]; omega
      | true =>
        by_cases hat : at_ ≤ r.lo
        · skip
          by_cases hneg : bestOf (fun r : Rq => r.write == wb && decide (at_ ≤ r.lo)) (fun r : Rq => r.lo) l k < 0
          · have hm1 : bestOf (fun r : Rq => r.write == wb && decide (at_ ≤ r.lo)) (fun r : Rq => r.lo) l k = -1 := by omega
            have Hm1 := Lib.hid hm1
            rw [hm1]
            clear hm1 hrange hneg
            go_wp2_with fail
            go_quiet (fail)
            go_wp2
            go_roundw
            case rel => exact ⟨k + 1, by omega, by go_num, by rw [bestOf_first Hx.out (by simp [hw, hat]) (by rw [Hm1.out]; omega)], by first | exact hb | exact (hb.trans (drewN_below _ _ _)) | exact (hb.alloc hb.size _)⟩
            case measure => simp [intOf]; omega
          · obtain ⟨j, hj⟩ : ∃ j : Nat, bestOf (fun r : Rq => r.write == wb && decide (at_ ≤ r.lo)) (fun r : Rq => r.lo) l k = j := ⟨(bestOf (fun r : Rq => r.write == wb && decide (at_ ≤ r.lo)) (fun r : Rq => r.lo) l k).toNat, by omega⟩
            have Hj := Lib.hid hj
            rw [hj]
            have hjk : j < k := by omega
            have hjl : (j : Int) < (l.length : Int) := by omega
            have hj0 : ¬ (j : Int) < 0 := by omega
            clear hj hrange hneg
            have hxj : l[j]? = some l[j] := List.getElem?_eq_getElem (by omega)
            obtain ⟨_, _, _, _, _, j0, j1, j2, _, _, j5⟩ := Hc.out j _ hxj
            have Hxj := Lib.hid hxj
            clear hxj
            generalize l[j] = r2 at j0 j1 j2 j5 Hxj
            by_cases hless : r.lo < r2.lo
            · skip
              go_wp2_with fail
              go_quiet (fail)
              go_wp2
              go_roundw
              case rel => exact ⟨k + 1, by omega, by go_num, by rw [bestOf_less Hx.out (by simp [hw, hat]) Hj.out Hxj.out hless], by first | exact hb | exact (hb.trans (drewN_below _ _ _)) | exact (hb.alloc hb.size _)⟩
              case measure => simp [intOf]; omega
            · skip
              go_wp2_with fail
              go_quiet (fail)
              go_wp2
              go_roundw
              case rel => exact ⟨k + 1, by omega, by go_num, by rw [bestOf_more Hx.out Hj.out Hxj.out (by omega)], by first | exact hb | exact (hb.trans (drewN_below _ _ _)) | exact (hb.alloc hb.size _)⟩
              case measure => simp [intOf]; omega
        · have hd : decide (at_ ≤ r.lo) = false := by simp; omega
          go_wp2
          go_roundw
          case rel => exact ⟨k + 1, by omega, by go_num, by rw [bestOf_no Hx.out (by simp [hw]; omega)], by first | exact hb | exact (hb.trans (drewN_below _ _ _)) | exact (hb.alloc hb.size _)⟩
          case measure => simp [intOf]; omega
    · obtain rfl : k = l.length := by omega
      go_wp2
      go_ret
      exact ⟨rfl, hb⟩

end Go.Proofs.Ytfklcfpkbnddfaa
