
/- The disk crashes: the reference's Crash. gen_devcrash2.py prints this text. -/
import Derived.Test.YtdhiepcglnbkbaaDevCrash
namespace Go.Proofs.Ytdhiepcglnbkbaa
set_option linter.unusedSimpArgs false
set_option linter.unusedVariables false
open Go.RowKit

set_option maxRecDepth 100000 in
set_option maxHeartbeats 2000000 in
theorem rdevcrash_any (S F : Nat → Prop) (w : World) (b : Nat) (d : Dv) (keep : Nat) (hkeep : keep < 18446744073709551616) (h : DevAt TDr TPr S F w b d) (hp : ∀ q ∈ d.waits, q.1 < 32) (hwl : d.waits.length ≤ 1000000000000) (hF : ∀ k, F k → k < w.heap.size) (hSF : ∀ k, S k → ¬ F k) :
    Calls Try.prog 26 #[.pointer (some ⟨b, 0, none⟩), .int .u64 (keep : Int)] w (RetCrash TDr TPr S F w b (d.crash keep)) := by
  obtain ⟨wv, lv, cs, hrow, hw, hl, hcs, hok⟩ := h.two
  obtain ⟨A, cap, rfl, hA1, hA2⟩ := hw.form
  have c64 : w.cell? ⟨b, 64, none⟩ = some (.slice A d.waits.length cap) := by rw [cell_of_row _ _ _ _ _ _ hrow]; simpa using devCells_at_w d _ lv h.kept h.now
  have hbl := (Array.getElem?_eq_some_iff.1 hrow).1
  have H := Lib.hid h
  have Hw := Lib.hid hw
  have Hrow := Lib.hid hrow
  have Hp := Lib.hid hp
  have HF := Lib.hid hF
  have HS := Lib.hid hSF
  clear h hw hrow hl hcs hok hp hF hSF
  go_enter Try.func26, Try.ntmps26
  go_wp2_with fail
  go_loopw [4] (fun j wr => ∃ k : Nat, k ≤ d.waits.length ∧ j = .int .i64 k ∧ Hid (Chg (fun q => q = b) w wr) ∧ Hid (wr.heap[b]? = some (.cells (devCells { d with kept := Dv.keepFrom keep d.kept (d.waits.take k) 0 } (.slice A d.waits.length cap) lv).toArray TDr (0, 0)))) (fun j _ => d.waits.length - (intOf j).toNat)
  case atStart => exact ⟨0, by omega, rfl, Chg.refl, Hrow.out⟩
  case round =>
    obtain ⟨k, hk, rfl, hcw, hrw⟩ := hrel
    have hkl : (Dv.keepFrom keep d.kept (d.waits.take k) 0).length = 32 := by rw [Dv.keepFrom_len, H.out.kept]
    have z64 : wr.cell? ⟨b, 64, none⟩ = some (.slice A d.waits.length cap) := by rw [cell_of_row _ _ _ _ _ _ hrw.out]; simpa using devCells_at_w { d with kept := Dv.keepFrom keep d.kept (d.waits.take k) 0 } _ lv hkl H.out.now
    by_cases hlt : k < d.waits.length
    · have hx : d.waits[k]? = some d.waits[k] := List.getElem?_eq_getElem hlt
      generalize d.waits[k] = x at hx
      obtain ⟨p, s⟩ := x
      have hp32 := Hp.out _ (List.mem_of_getElem? hx)
      simp only at hp32
      obtain ⟨g, off, rfl, hFg, hgl, hcell⟩ := Hw.out.rd.at_ (by omega) (by omega)
      have hgb : g ≠ b := by
        rcases Hw.out.1.2 with ⟨hv, _⟩ | ⟨_, _, _, hv, _⟩
        · cases hv
        · cases hv
          exact own_ne Hw.out.1 Hrow.out (by decide) g rfl
      have hpc := putCells_at _ _ _ _ hx
      have x0 : wr.cell? ⟨g, off + k * 2, none⟩ = some (.int .i64 (p : Int)) := (World.cell?_of_block (w := w) (hcw.out.block g hgl hgb)).trans (hcell _ _ hpc.1)
      have x1 : wr.cell? ⟨g, off + k * 2 + 1, none⟩ = some (.string s) := (World.cell?_of_block (w := w) (hcw.out.block g hgl hgb)).trans (hcell _ _ hpc.2)
      have Hx := Lib.hid hx
      have hk2 : (k : Int) < (d.waits.length : Int) := by omega
      clear hx hcell hpc
      have hrow' := hrw.out
      have Hkl := Lib.hid hkl
      obtain ⟨y, hy⟩ : ∃ y, (Dv.keepFrom keep d.kept (d.waits.take k) 0)[p]? = some y := ⟨_, List.getElem?_eq_getElem (by rw [Dv.keepFrom_len, H.out.kept]; exact hp32)⟩
      have hcy : wr.cell? ⟨b, p, none⟩ = some (.string y) := by
        rw [cell_of_row _ _ _ _ _ _ hrow']
        have hlt : p < (Dv.keepFrom keep d.kept (d.waits.take k) 0).length := (List.getElem?_eq_some_iff.1 hy).1
        simp only [List.getElem?_toArray]
        unfold devCells
        rw [List.getElem?_append_left (by simpa using hlt), List.getElem?_map, hy]
        rfl
      have hfy : wr.frozen? ⟨b, p, none⟩ = false :=
        frozen_of_row _ _ _ _ _ hrow'
      have hpi : (p : Int) < 32 := by omega
      have Hcw := Lib.hid hcw.out
      clear hy hrow' hcw hkl
      rcases Bool.eq_false_or_eq_true (Dv.bit keep k) with hb | hb
      · have hbit : (bits BinOp.and IntKind.u64 ((keep : Int) / 2 ^ (k % 64)) 1 == 1) = true := by rw [keep_bit hkeep]; exact hb
        have Hb := Lib.hid hb
        clear hb
        go_wp2_with fail
        go_region
        go_wp2_with fail
        go_roundw
        case rel =>
          refine ⟨k + 1, by omega, by go_num, (Hcw.out.setCell (.inl rfl) _).drew, ?_⟩
          show _ = _
          rw [Dv.keepFrom_succ Hx.out, Hb.out]
          have h9 := heap_setCell_same _ _ p _ _ (.string s) hrw.out
          rw [devCells_set_kept { d with kept := Dv.keepFrom keep d.kept (d.waits.take k) 0 } _ _ Hkl.out p hp32] at h9
          exact h9
        case measure => simp [intOf]; omega
      · have hbit : (bits BinOp.and IntKind.u64 ((keep : Int) / 2 ^ (k % 64)) 1 == 1) = false := by rw [keep_bit hkeep]; exact hb
        have Hb := Lib.hid hb
        clear hb
        go_wp2_with fail
        go_roundw
        case rel =>
          refine ⟨k + 1, by omega, by go_num, Hcw.out, ?_⟩
          show _ = _
          rw [Dv.keepFrom_succ Hx.out, Hb.out]
          exact hrw.out
        case measure => simp [intOf]; omega
    · obtain rfl : k = d.waits.length := by omega
      have hrow' := hrw.out
      rw [List.take_of_length_le (Nat.le_refl _)] at hrow' hkl
      generalize hK : Dv.keepFrom keep d.kept d.waits 0 = K at hrow' hkl
      have hk' : K.length = 32 := hkl
      have hn' : d.now.length = 32 := H.out.now
      have HR : Hid (wr.rangeAt b 0 (K.map .string)) := range_kept hrow'
      have HT : Hid (wr.there b 32 (K.map Value.string).toArray.size) := there_of_row hrow' 32 _ (by rw [List.size_toArray, List.size_toArray, List.length_map, devCells_len { d with kept := K } _ _ hk' hn']; omega)
      have Hs : Hid ((Try.prog.info? 28).map (·.size) = some (K.map Value.string).length) := show _ = _ by rw [List.length_map, hk']; kernel_rfl
      have H1 : Hid ((K.map Value.string).toArray.all (·.oneCell') = true) := all_oneCell_toArray (fun v hv => by obtain ⟨s, _, rfl⟩ := List.mem_map.1 hv; rfl)
      have hrow1 := heap_setCells_row b _ (K.map .string) 32 wr _ hrow'
      rw [devCells_back { d with kept := K } (.slice A d.waits.length cap) lv hk' hn'] at hrow1
      obtain ⟨W1, hW1⟩ : ∃ u, wr.setCells b 32 (K.map .string) = u := ⟨_, rfl⟩
      rw [hW1] at hrow1
      have c64 : W1.cell? ⟨b, 64, none⟩ = some (.slice A d.waits.length cap) := by rw [cell_of_row _ _ _ _ _ _ hrow1]; simpa using devCells_at_w { d with kept := K, now := K } (.slice A d.waits.length cap) lv hk' hk'
      have f64 : W1.frozen? ⟨b, 64, none⟩ = false := frozen_of_row _ _ _ _ _ hrow1
      have hrow2 := heap_setCell_same _ _ 64 _ _ (.slice none 0 0) hrow1
      rw [devCells_set_w { d with kept := K, now := K } _ _ _ hk' hk'] at hrow2
      have c65 : (W1.setCell ⟨b, 64, none⟩ (.slice none 0 0)).cell? ⟨b, 65, none⟩ = some lv := by rw [cell_of_row _ _ _ _ _ _ hrow2]; simpa using devCells_at_l { d with kept := K, now := K } (.slice none 0 0) lv hk' hk'
      have f65 : (W1.setCell ⟨b, 64, none⟩ (.slice none 0 0)).frozen? ⟨b, 65, none⟩ = false := frozen_of_row _ _ _ _ _ hrow2
      have hrow3 := heap_setCell_same _ _ 65 _ _ (.slice none 0 0) hrow2
      rw [devCells_set_l { d with kept := K, now := K } _ _ _ hk' hk'] at hrow3
      have hfb := H.out.fb
      have hcr : Chg F wr W1 := hW1 ▸ Chg.refl.setCells (.inl hfb) _ _
      have hc := (hcr.setCell (p := ⟨b, 64, none⟩) (.inl hfb) (.slice none 0 0)).setCell (p := ⟨b, 65, none⟩) (.inl hfb) (.slice none 0 0)
      have Hrow3 := Lib.hid hrow3
      have Hc := Lib.hid ((hcw.out.mono (fun q hq => hq ▸ hfb)).trans (hc.mono (fun q hq => .inl hq)))
      have HW := Lib.hid hW1
      have HKk := Lib.hid hK
      have Hfb := Lib.hid hfb
      clear hrow' hrow1 hrow2 hrow3 hc hcr hW1 hrw hcw hK hfb hkl
      go_wp2_with (first
        | (refine wpList_load_mid rfl 28 (.tmp 44) rfl b 0 rfl (K.map .string) _ HR.out Try.underlying28 rfl Hs.out ?_)
        | (refine wpList_store_mid rfl 28 (.tmp 47) (.tmp 45) rfl b 32 (K.map Value.string).toArray rfl rfl HT.out (by rw [List.size_toArray]; exact Hs.out) H1.out ?_
           rw [show wr.setCells b 32 (K.map Value.string).toArray.toList = W1 from HW.out]))
      go_end0
      refine ⟨rfl, ?_, Hc.out⟩
      have he : d.crash keep = ⟨K, K, [], []⟩ := by unfold Dv.crash; rw [HKk.out]
      rw [he]
      exact ⟨Hfb.out, hk', hk', _, _, [], Hrow3.out, Ow.nil, Ow.nil, rfl, by simp⟩
end Go.Proofs.Ytdhiepcglnbkbaa
