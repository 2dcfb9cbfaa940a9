
/- GoodBufs, SameBufs. -/
import Derived.Test.YtdhiepcglnbkbaaBufGet2
import Derived.BigQuiet
namespace Go.Proofs.Ytdhiepcglnbkbaa
set_option linter.unusedSimpArgs false
set_option linter.unusedVariables false
open Go.RowKit

theorem belowN {B : Nat} {a w : World} (h : Below B a w) (n : Nat) : Below B a (w.drewN n) := h.trans ⟨rfl, rfl, rfl, Nat.le_refl _, fun _ _ => rfl⟩
theorem bytes_ne {s t : ByteArray} (h : ¬ s = t) : ¬ s.toList = t.toList := fun e => h (by
  rw [ByteArray.toList_eq, ByteArray.toList_eq] at e
  exact ByteArray.ext (Array.toList_inj.1 e))
theorem run_buf (a b : Bf) (w : World) : (Op.equalIn 10000 72 (bfV a) (bfV b)).run Try.prog w = .ok (decide (a = b)) w := by
  have u1 := Try.underlying3
  have u2 := Try.underlying9
  have u3 := Try.underlying4
  have hS : Try.prog.underlying 72 = some (.struct (Try.prog.fieldsOf 72)) := by kernel_rfl
  have hp : Try.prog.stoodInHeld 72 = false := by kernel_rfl
  rw [show (10000 : Nat) = 9999 + 1 from rfl, run_equalIn_agg w 9999 72 _ _ hS hp]
  simp only [Program.fieldsOf, Try.underlying72]
  obtain ⟨p, d, y, u⟩ := a
  obtain ⟨p', d', y', u'⟩ := b
  go_simp
  by_cases h2 : d = d'
  · subst h2
    by_cases h1 : p = p' <;> by_cases h3 : y = y' <;> by_cases h4 : u = u' <;> simp [h1, h3, h4]
  · have h5 := bytes_ne h2
    by_cases h1 : p = p' <;> by_cases h3 : y = y' <;> by_cases h4 : u = u' <;> simp [h1, h2, h3, h4, h5]
@[go_sem high] theorem buf_eq (a b : Bf) (w : World) : (binOp .eql 72 (bfV a) (bfV b)).run Try.prog w = .ok (.bool (decide (a = b))) w := by
  rw [run_eql_struct, run_buf]; rfl
@[go_sem high] theorem buf_ne (a b : Bf) (w : World) : (binOp .neq 72 (bfV a) (bfV b)).run Try.prog w = .ok (.bool (!decide (a = b))) w := by
  rw [run_neq_struct, run_buf]; rfl
def sameBB (a b : List Bf) : Bool := decide (a = b)
set_option maxRecDepth 100000 in
set_option maxHeartbeats 2000000 in
theorem samebufs_any (S : Nat → Prop) (a b : List Bf) (u v : Value) (w : World) (ha : BufsAt S w u a) (hb : BufsAt S w v b) :
    Calls Try.prog 41 #[u, v] w (Ret (.bool (decide (a = b))) w) := by
  obtain ⟨A1, c1, rfl, p1, p2⟩ := ha.form
  obtain ⟨A2, c2, rfl, p3, p4⟩ := hb.form
  unfold maxLen at p2 p4
  have HA := Lib.hid ha
  have HB := Lib.hid hb
  clear ha hb
  obtain ⟨R, hR⟩ : ∃ x, decide (a = b) = x := ⟨_, rfl⟩
  rw [hR]
  have HR := Lib.hid hR
  clear hR
  by_cases hn : a.length = b.length
  · have hn' : ((a.length : Int) != (b.length : Int)) = false := by simp; omega
    have HN := Lib.hid hn
    go_enter Try.func41, Try.ntmps41
    go_wp2_with fail
    go_loopw [5] (fun i wr => ∃ k : Nat, k ≤ a.length ∧ i = .int .i64 k ∧ Below w.heap.size w wr ∧ Hid (∀ j, j < k → a[j]? = b[j]?)) (fun i _ => a.length - (intOf i).toNat)
    case atStart => exact ⟨0, by omega, rfl, Below.refl _ _, (fun j hj => by omega : ∀ j, j < 0 → a[j]? = b[j]?)⟩
    case round =>
      obtain ⟨k, hk, rfl, hb, hall⟩ := hrel
      by_cases hlt : k < a.length
      · have hx : a[k]? = some a[k] := List.getElem?_eq_getElem hlt
        have hy : b[k]? = some (b[k]'(by have := HN.out; omega)) := List.getElem?_eq_getElem (by have := HN.out; omega)
        obtain ⟨ba, oa, rfl, _, hba, hca⟩ := (HA.out.below hb).at_ (by omega)
        obtain ⟨bb, ob, rfl, _, hbb, hcb⟩ := (HB.out.below hb).at_ (by have := HN.out; omega)
        obtain ⟨_, k0, k1, k2, k3⟩ := hca k _ hx
        obtain ⟨_, j0, j1, j2, j3⟩ := hcb k _ hy
        have Hx := Lib.hid hx
        have Hy := Lib.hid hy
        clear hx hy hca hcb
        generalize a[k] = s at *
        generalize b[k]'(by have := HN.out; omega) = t at *
        have hk1 : (k : Int) < (a.length : Int) := by omega
        have hk2 : (k : Int) < (b.length : Int) := by have := HN.out; omega
        have hbn := buf_ne s t
        cases hs : decide (s = t) with
        | true =>
          rw [hs] at hbn
          have Hs := Lib.hid (of_decide_eq_true hs)
          clear hs
          go_wp2_with fail
          go_quiet (fail)
          go_wp2_with fail
          go_roundw
          case rel => exact ⟨k + 1, by omega, by go_num, belowN hb _, (fun j hj => by
            rcases Nat.eq_or_lt_of_le (Nat.le_of_lt_succ hj) with e | e
            · subst e; rw [Hx.out, Hy.out, Hs.out]
            · exact hall.out j e : ∀ j, j < k + 1 → a[j]? = b[j]?)⟩
          case measure => simp [intOf]; omega
        | false =>
          rw [hs] at hbn
          have Hs := Lib.hid (of_decide_eq_false hs)
          clear hs
          go_wp2_with fail
          go_quiet (fail)
          go_wp2_with fail
          go_ret
          refine ⟨?_, belowN hb _⟩
          rw [← HR.out, decide_eq_false (fun e => Hs.out (by have h1 := Hx.out; rw [e, Hy.out] at h1; cases h1; rfl))]
          rfl
      · have hi1 : decide ((k : Int) < (a.length : Int)) = false := by simp; omega
        go_wp2
        go_ret
        refine ⟨?_, hb⟩
        rw [← HR.out, decide_eq_true (List.ext_getElem? fun j => by
          by_cases hj : j < k
          · exact hall.out j hj
          · rw [List.getElem?_eq_none (by omega), List.getElem?_eq_none (by have := HN.out; omega)])]
        rfl
  · have hn' : ((a.length : Int) != (b.length : Int)) = true := by simp; omega
    have HN := Lib.hid hn
    go_enter Try.func41, Try.ntmps41
    go_wp2
    go_ret
    refine ⟨?_, Below.refl _ _⟩
    rw [← HR.out, decide_eq_false (fun e => HN.out (by rw [e]))]
    rfl
instance (l : List Bf) : Decidable (goodB l) := by unfold goodB Rises; infer_instance
theorem goodB_len {l : List Bf} (h : goodB l) : l.length ≤ 65536 := by have := h.1; omega
set_option maxRecDepth 100000 in
set_option maxHeartbeats 4000000 in
theorem goodbufs_any (S : Nat → Prop) (l : List Bf) (v : Value) (w : World) (h : BufsAt S w v l) :
    Calls Try.prog 37 #[v] w (Ret (.bool (decide (goodB l))) w) := by
  obtain ⟨A, cap, rfl, h1, h2⟩ := h.form
  unfold maxLen at h2
  have H := Lib.hid h
  clear h
  obtain ⟨R, hR⟩ : ∃ x, decide (goodB l) = x := ⟨_, rfl⟩
  rw [hR]
  have HR := Lib.hid hR
  clear hR
  by_cases hn : l.length ≤ 8
  · go_enter Try.func37, Try.ntmps37
    have hn2 : decide ((8 : Int) < (l.length : Int)) = false := by simp; omega
    go_wp2_with fail
    go_loopw [3] (fun i wr => ∃ k : Nat, k ≤ l.length ∧ i = .int .i64 k ∧ Below w.heap.size w wr ∧ Hid (goodB (l.take k))) (fun i _ => l.length - (intOf i).toNat)
    case atStart => exact ⟨0, by omega, rfl, Below.refl _ _, (⟨by simp, by simp, by simp [Rises]⟩ : goodB (l.take 0))⟩
    case round =>
      obtain ⟨k, hk, rfl, hb, hall⟩ := hrel
      by_cases hlt : k < l.length
      · have hx : l[k]? = some l[k] := List.getElem?_eq_getElem hlt
        obtain ⟨b, off, rfl, _, hbl, hc⟩ := (H.out.below hb).at_ (by omega)
        obtain ⟨hok, k0, k1, k2, k3⟩ := hc k _ hx
        have hsz := hok.data
        unfold maxLen at hsz
        have hmem := Lib.hid (List.mem_of_getElem? hx)
        have Hx := Lib.hid hx
        clear hx
        have hi1 : (k : Int) < (l.length : Int) := by omega
        have Hc := Lib.hid hc
        clear hc
        generalize l[k] = x at *
        by_cases c1 : x.pos < 0
        · go_wp2_with fail
          go_quiet (fail)
          go_wp2_with fail
          go_ret
          refine ⟨?_, belowN hb _⟩
          rw [← HR.out, decide_eq_false (fun g => by have := g.2.1 x hmem.out; omega)]
          rfl
        · have d1 : decide (x.pos < 0) = false := decide_eq_false c1
          by_cases c2 : 31 < x.pos
          · go_wp2_with fail
            go_quiet (fail)
            go_wp2_with fail
            go_ret
            refine ⟨?_, belowN hb _⟩
            rw [← HR.out, decide_eq_false (fun g => by have := g.2.1 x hmem.out; omega)]
            rfl
          · have d2 : decide ((31 : Int) < x.pos) = false := decide_eq_false c2
            by_cases c3 : 10 < x.data.size
            · have c3' : (10 : Int) < (x.data.size : Int) := by omega
              go_wp2_with fail
              go_quiet (fail)
              go_wp2_with fail
              go_ret
              refine ⟨?_, belowN hb _⟩
              rw [← HR.out, decide_eq_false (fun g => by have := g.2.1 x hmem.out; omega)]
              rfl
            · have c3' : decide ((10 : Int) < (x.data.size : Int)) = false := by simp; omega
              by_cases c4 : k = 0
              · have d4 : decide (0 < k) = false := by simp; omega
                have C4 := Lib.hid c4
                clear c4
                go_wp2_with fail
                go_quiet (fail)
                go_wp2_with fail
                go_roundw
                case rel => exact ⟨k + 1, by omega, by go_num, belowN hb _, (by
                  rw [List.take_add_one, Hx.out, C4.out]
                  exact ⟨by simp, by simp; omega, by simp [Rises]⟩ : goodB (l.take (k + 1)))⟩
                case measure => simp [intOf]; omega
              · have c4' : 0 < k := by omega
                have hy : l[k - 1]? = some l[k - 1] := List.getElem?_eq_getElem (by omega)
                obtain ⟨hoky, j0, j1, j2, j3⟩ := Hc.out (k - 1) _ hy
                have Hy := Lib.hid hy
                clear hy
                generalize l[k - 1] = y at *
                have hi2 : (0 : Int) ≤ (k : Int) - 1 := by omega
                have hi3 : (k : Int) - 1 < (l.length : Int) := by omega
                have hi4 : ((k : Int) - 1).toNat = k - 1 := by omega
                by_cases c5 : x.pos ≤ y.pos
                · go_wp2_with fail
                  go_quiet (fail)
                  go_wp2_with fail
                  go_ret
                  refine ⟨?_, belowN hb _⟩
                  rw [← HR.out, decide_eq_false (fun g => by have := g.2.2.lt (by omega) Hy.out Hx.out; omega)]
                  rfl
                · have d5 : decide (x.pos ≤ y.pos) = false := decide_eq_false c5
                  go_wp2_with fail
                  go_quiet (fail)
                  go_wp2_with fail
                  go_roundw
                  case rel => exact ⟨k + 1, by omega, by go_num, belowN hb _, (by
                    have h0 := hall.out
                    rw [List.take_add_one, Hx.out]
                    refine ⟨by simp; omega, fun c hc => ?_, ?_⟩
                    · rcases List.mem_append.1 hc with hc | hc
                      · exact h0.2.1 c hc
                      · simp at hc; subst hc; omega
                    · unfold Rises
                      rw [List.pairwise_append]
                      refine ⟨h0.2.2, by simp, fun c hc d hd => ?_⟩
                      simp at hd; subst hd
                      obtain ⟨j, hj⟩ := List.mem_iff_getElem?.1 hc
                      rw [List.getElem?_take] at hj
                      split at hj
                      · rename_i hjk
                        rcases Nat.eq_or_lt_of_le (Nat.le_of_lt_succ (show j < (k - 1) + 1 by omega)) with e | e
                        · subst e; rw [Hy.out] at hj; cases hj; omega
                        · have hz : (l.take k)[k - 1]? = some y := by rw [List.getElem?_take, if_pos (by omega)]; exact Hy.out
                          have hj' : (l.take k)[j]? = some c := by rw [List.getElem?_take, if_pos hjk]; exact hj
                          have := h0.2.2.lt e hj' hz
                          omega
                      · exact absurd hj (by simp) : goodB (l.take (k + 1)))⟩
                  case measure => simp [intOf]; omega
      · have e : l.take k = l := List.take_of_length_le (by omega)
        rw [e] at hall
        have hi1 : decide ((k : Int) < (l.length : Int)) = false := by simp; omega
        go_wp2
        go_ret
        refine ⟨?_, hb⟩
        rw [← HR.out, decide_eq_true hall.out]
        rfl
  · have hn2 : decide ((8 : Int) < (l.length : Int)) = true := by simp; omega
    have HN := Lib.hid hn
    go_enter Try.func37, Try.ntmps37
    go_wp2
    go_ret
    refine ⟨?_, Below.refl _ _⟩
    rw [← HR.out, decide_eq_false (fun g => HN.out g.1)]
    rfl
end Go.Proofs.Ytdhiepcglnbkbaa
