/- The disk crashes: (*Device).Crash, both. -/
import Derived.Test.YtinknleckppciaaGreatDoorR16
namespace Go.Proofs.YtinknleckppciaaGreatDoor
set_option linter.unusedSimpArgs false
set_option linter.unusedVariables false
open Go.RowKit

theorem bit_and {m : Nat} (hm : m < 18446744073709551616) : bits BinOp.and IntKind.u64 (m : Int) 1 = ((m % 2 : Nat) : Int) := by
  have h : (BitVec.ofInt 64 (m : Int) &&& BitVec.ofInt 64 1).toNat = m % 2 := by
    rw [BitVec.toNat_and]
    have h1 : (BitVec.ofInt 64 (m : Int)).toNat = m := by
      rw [BitVec.toNat_ofInt]; omega
    have h2 : (BitVec.ofInt 64 1).toNat = 1 := by decide
    rw [h1, h2, Nat.and_one_is_mod]
  show IntKind.u64.wrap ((BitVec.ofInt 64 (m : Int) &&& BitVec.ofInt 64 1).toNat : Int) = _
  rw [h]
  rcases Nat.mod_two_eq_zero_or_one m with h | h <;> rw [h] <;> rfl
theorem keep_bit {keep k : Nat} (hk : keep < 18446744073709551616) : (bits BinOp.and IntKind.u64 ((keep : Int) / 2 ^ (k % 64)) 1 == 1) = Dv.bit keep k := by
  have e : ((keep : Int) / 2 ^ (k % 64)) = ((keep / 2 ^ (k % 64) : Nat) : Int) := by simp
  rw [e, bit_and (Nat.lt_of_le_of_lt (Nat.div_le_self _ _) hk)]
  unfold Dv.bit
  rcases Nat.mod_two_eq_zero_or_one (keep / 2 ^ (k % 64)) with h | h <;> rw [h] <;> rfl
theorem putCells_at : ∀ (l : List (Nat × ByteArray)) (k p : Nat) (s : ByteArray), l[k]? = some (p, s) → (putCells l)[k * 2]? = some (.int .i64 (p : Int)) ∧ (putCells l)[k * 2 + 1]? = some (.string s)
  | [], k, p, s, h => by simp at h
  | a :: l, 0, p, s, h => by simp at h; subst h; exact ⟨rfl, rfl⟩
  | a :: l, k + 1, p, s, h => by
    have := putCells_at l k p s (by simpa using h)
    have e : putCells (a :: l) = [.int .i64 (a.1 : Int), .string a.2] ++ putCells l := rfl
    rw [e, List.getElem?_append_right (by simp; omega), List.getElem?_append_right (by simp; omega)]
    simp only [List.length_cons, List.length_nil]
    rw [show (k + 1) * 2 - (0 + 1 + 1) = k * 2 by omega, show (k + 1) * 2 + 1 - (0 + 1 + 1) = k * 2 + 1 by omega]
    exact this
/-- It returns nothing; the disk has become d'. -/
def RetCrash (TD TP : TypeId) (S F : Nat → Prop) (w : World) (b : Nat) (d' : Dv) : Ending → World → Prop := fun e w' => e = .returned (.tuple #[]) ∧ DevAt TD TP S F w' b d' ∧ Chg F w w'

set_option maxRecDepth 100000 in
set_option maxHeartbeats 2000000 in
theorem devcrash_any (S F : Nat → Prop) (w : World) (b : Nat) (d : Dv) (keep : Nat) (hkeep : keep < 18446744073709551616) (h : DevAt TDp TPp S F w b d) (hp : ∀ q ∈ d.waits, q.1 < 32) (hwl : d.waits.length ≤ 1000000000000) (hF : ∀ k, F k → k < w.heap.size) (hSF : ∀ k, S k → ¬ F k) :
    Calls Tryz.prog 32 #[.pointer (some ⟨b, 0, none⟩), .int .u64 (keep : Int)] w (RetCrash TDp TPp S F w b (d.crash keep)) := by
  obtain ⟨wv, lv, cs, hrow, hw, hl, hcs, hok⟩ := h.two
  obtain ⟨A, cap, rfl, hA1, hA2⟩ := hw.form
  have c64 : w.cell? ⟨b, 64, none⟩ = some (.slice A d.waits.length cap) := by rw [cell_of_row _ _ _ _ _ _ hrow]; simpa using devCells_at_w d _ lv h.kept h.now
  have hbl := (Array.getElem?_eq_some_iff.1 hrow).1
  have H := Lib.hid h
  have Hw := Lib.hid hw
  have Hrow := Lib.hid hrow
  have Hp := Lib.hid hp
  have HF := Lib.hid hF
  have HS := Lib.hid hSF
  clear h hw hrow hl hcs hok hp hF hSF
  go_enter Tryz.func32, Tryz.ntmps32
  go_wp2_with fail
  go_loopw [11] (fun j wr => ∃ k : Nat, k ≤ d.waits.length ∧ j = .int .i64 k ∧ Hid (Chg (fun q => q = b) w wr) ∧ Hid (DevAt TDp TPp S F wr b { d with kept := Dv.keepFrom keep d.kept (d.waits.take k) 0 })) (fun j _ => d.waits.length - (intOf j).toNat)
  case atStart => exact ⟨0, by omega, rfl, Chg.refl, H.out⟩
  case round =>
    obtain ⟨k, hk, rfl, hcw, hdw⟩ := hrel
    by_cases hlt : k < d.waits.length
    · have hx : d.waits[k]? = some d.waits[k] := List.getElem?_eq_getElem hlt
      generalize d.waits[k] = x at hx
      obtain ⟨p, s⟩ := x
      have hp32 := Hp.out _ (List.mem_of_getElem? hx)
      simp only at hp32
      obtain ⟨g, off, rfl, hFg, hgl, hcell⟩ := Hw.out.rd.at_ (by omega) (by omega)
      have hgb : g ≠ b := by
        rcases Hw.out.1.2 with ⟨hv, _⟩ | ⟨_, _, _, hv, _⟩
        · cases hv
        · cases hv
          exact own_ne Hw.out.1 Hrow.out (by decide) g rfl
      have hpc := putCells_at _ _ _ _ hx
      have x0 : wr.cell? ⟨g, off + k * 2, none⟩ = some (.int .i64 (p : Int)) := (World.cell?_of_block (w := w) (hcw.out.block g hgl hgb)).trans (hcell _ _ hpc.1)
      have x1 : wr.cell? ⟨g, off + k * 2 + 1, none⟩ = some (.string s) := (World.cell?_of_block (w := w) (hcw.out.block g hgl hgb)).trans (hcell _ _ hpc.2)
      have Hx := Lib.hid hx
      have hk2 : (k : Int) < (d.waits.length : Int) := by omega
      clear hx hcell hpc
      obtain ⟨wv', lv', hrow'⟩ := hdw.out.row
      have hk' := hdw.out.kept
      obtain ⟨y, hy⟩ : ∃ y, (Dv.keepFrom keep d.kept (d.waits.take k) 0)[p]? = some y := ⟨_, List.getElem?_eq_getElem (by rw [Dv.keepFrom_len, H.out.kept]; exact hp32)⟩
      have hcy : ∀ o, (wr.alloc o).cell? ⟨b, p, none⟩ = some (.string y) := fun o => by
        rw [World.cell?_alloc_lt _ _ _ (Array.getElem?_eq_some_iff.1 hrow').1, cell_of_row _ _ _ _ _ _ hrow']
        have hlt : p < (Dv.keepFrom keep d.kept (d.waits.take k) 0).length := (List.getElem?_eq_some_iff.1 hy).1
        simp only [List.getElem?_toArray]
        unfold devCells
        rw [List.getElem?_append_left (by simpa using hlt), List.getElem?_map, hy]
        rfl
      have hfy : ∀ o, (wr.alloc o).frozen? ⟨b, p, none⟩ = false := fun o => by
        rw [World.frozen?_alloc_past _ _ _ (Array.getElem?_eq_some_iff.1 hrow').1]
        exact frozen_of_row _ _ _ _ _ hrow'
      have hpi : (p : Int) < 32 := by omega
      have hbA : ∀ o, Below wr.heap.size wr (wr.alloc o) := fun o => (Below.refl _ _).alloc (Nat.le_refl _) o
      have HbA := Lib.hid hbA
      have Hcw := Lib.hid hcw.out
      clear hbA hy hrow' hk' hcw
      rcases Bool.eq_false_or_eq_true (Dv.bit keep k) with hb | hb
      · have hbit : (bits BinOp.and IntKind.u64 ((keep : Int) / 2 ^ (k % 64)) 1 == 1) = true := by rw [keep_bit hkeep]; exact hb
        have Hb := Lib.hid hb
        clear hb
        go_wp2_with fail
        go_region
        go_wp2_with fail
        go_roundw
        case rel =>
          refine ⟨k + 1, by omega, by go_num, ((Hcw.out.step (HbA.out _)).setCell (.inl rfl) _).drew, ?_⟩
          show DevAt _ _ _ _ _ _ _
          rw [Dv.keepFrom_succ Hx.out, Hb.out]
          exact ((hdw.out.below (HbA.out _)).setKept p hp32 s HS.out (by decide) (by decide)).below (Below.refl _ _).drew
        case measure => simp [intOf]; omega
      · have hbit : (bits BinOp.and IntKind.u64 ((keep : Int) / 2 ^ (k % 64)) 1 == 1) = false := by rw [keep_bit hkeep]; exact hb
        have Hb := Lib.hid hb
        clear hb
        go_wp2_with fail
        go_roundw
        case rel =>
          refine ⟨k + 1, by omega, by go_num, Hcw.out.step (HbA.out _), ?_⟩
          show DevAt _ _ _ _ _ _ _
          rw [Dv.keepFrom_succ Hx.out, Hb.out]
          exact hdw.out.below (HbA.out _)
        case measure => simp [intOf]; omega
    · obtain rfl : k = d.waits.length := by omega
      have hd := hdw.out
      rw [List.take_of_length_le (Nat.le_refl _)] at hd
      generalize hK : Dv.keepFrom keep d.kept d.waits 0 = K at hd
      obtain ⟨wv', lv', cs', hrow', hw', hl', hcs', hok'⟩ := hd.two
      have hk' : K.length = 32 := hd.kept
      have hn' : d.now.length = 32 := hd.now
      have HR : Hid (wr.rangeAt b 0 (K.map .string)) := range_kept hrow'
      have HT : Hid (wr.there b 32 (K.map Value.string).toArray.size) := there_of_row hrow' 32 _ (by rw [List.size_toArray, List.size_toArray, List.length_map, devCells_len { d with kept := K } _ _ hk' hn']; omega)
      have Hs : Hid ((Tryz.prog.info? 75).map (·.size) = some (K.map Value.string).length) := show _ = _ by rw [List.length_map, hk']; kernel_rfl
      have H1 : Hid ((K.map Value.string).toArray.all (·.oneCell') = true) := all_oneCell_toArray (fun v hv => by obtain ⟨s, _, rfl⟩ := List.mem_map.1 hv; rfl)
      have hrow1 := heap_setCells_row b _ (K.map .string) 32 wr _ hrow'
      rw [devCells_back { d with kept := K } wv' lv' hk' hn'] at hrow1
      obtain ⟨W1, hW1⟩ : ∃ u, wr.setCells b 32 (K.map .string) = u := ⟨_, rfl⟩
      rw [hW1] at hrow1
      have c64 : W1.cell? ⟨b, 64, none⟩ = some wv' := by rw [cell_of_row _ _ _ _ _ _ hrow1]; simpa using devCells_at_w { d with kept := K, now := K } wv' lv' hk' hk'
      have f64 : W1.frozen? ⟨b, 64, none⟩ = false := frozen_of_row _ _ _ _ _ hrow1
      have hrow2 := heap_setCell_same _ _ 64 _ _ (.slice none 0 0) hrow1
      rw [devCells_set_w { d with kept := K, now := K } _ _ _ hk' hk'] at hrow2
      have c65 : (W1.setCell ⟨b, 64, none⟩ (.slice none 0 0)).cell? ⟨b, 65, none⟩ = some lv' := by rw [cell_of_row _ _ _ _ _ _ hrow2]; simpa using devCells_at_l { d with kept := K, now := K } (.slice none 0 0) lv' hk' hk'
      have f65 : (W1.setCell ⟨b, 64, none⟩ (.slice none 0 0)).frozen? ⟨b, 65, none⟩ = false := frozen_of_row _ _ _ _ _ hrow2
      have hrow3 := heap_setCell_same _ _ 65 _ _ (.slice none 0 0) hrow2
      rw [devCells_set_l { d with kept := K, now := K } _ _ _ hk' hk'] at hrow3
      have hfb := hd.fb
      have hcr : Chg F wr W1 := hW1 ▸ Chg.refl.setCells (.inl hfb) _ _
      have hc := (hcr.setCell (p := ⟨b, 64, none⟩) (.inl hfb) (.slice none 0 0)).setCell (p := ⟨b, 65, none⟩) (.inl hfb) (.slice none 0 0)
      have Hrow3 := Lib.hid hrow3
      have Hc := Lib.hid ((hcw.out.mono (fun q hq => hq ▸ hfb)).trans (hc.mono (fun q hq => .inl hq)))
      have HW := Lib.hid hW1
      have HKk := Lib.hid hK
      have Hfb := Lib.hid hfb
      clear hrow' hw' hl' hcs' hok' hrow1 hrow2 hrow3 hc hcr hW1 hd hdw hcw hK hfb
      go_wp2_with (first
        | (refine wpList_load_mid rfl 75 (.tmp 36) rfl b 0 rfl (K.map .string) _ HR.out Tryz.underlying75 rfl Hs.out ?_)
        | (refine wpList_store_mid rfl 75 (.tmp 39) (.tmp 37) rfl b 32 (K.map Value.string).toArray rfl rfl HT.out (by rw [List.size_toArray]; exact Hs.out) H1.out ?_
           rw [show wr.setCells b 32 (K.map Value.string).toArray.toList = W1 from HW.out]))
      go_end0
      refine ⟨rfl, ?_, Hc.out⟩
      have he : d.crash keep = ⟨K, K, [], []⟩ := by unfold Dv.crash; rw [HKk.out]
      rw [he]
      exact ⟨Hfb.out, hk', hk', _, _, [], Hrow3.out, Ow.nil, Ow.nil, rfl, by simp⟩
end Go.Proofs.YtinknleckppciaaGreatDoor
