/- wrong: who reads a sector that can't be read is told. gen_stwrong.py prints this text. -/
import Derived.Test.YtinknleckppciaaGreatDoorR35
import Derived.Test.YtinknleckppciaaGreatDoorR5
namespace Go.Proofs.YtinknleckppciaaGreatDoor
set_option linter.unusedSimpArgs false
set_option linter.unusedVariables false
open Go.RowKit Go.Sort

theorem wrong1_hit {s : St} {c : Nat} {a : Ak} {r : Rq} (h : s.askAt c = some a) (hw : r.write = false) (hk : a.kind = 1) (hp : hasB r.lo r.many a.pos = true) : St.wrong1 r s c = s.answer c noB 8 := by unfold St.wrong1; rw [h]; simp [hk, hp, hw]
theorem wrong1_miss {s : St} {c : Nat} {a : Ak} {r : Rq} (h : s.askAt c = some a) (hn : ¬ (r.write = false ∧ a.kind = 1 ∧ hasB r.lo r.many a.pos = true)) : St.wrong1 r s c = s := by unfold St.wrong1; rw [h]; exact if_neg hn
/-- The first clients are told. -/
def wrongN (r : Rq) (s : St) : Nat → St
  | 0 => s
  | n + 1 => St.wrong1 r (wrongN r s n) n
theorem wrongN_3 (r : Rq) (s : St) : wrongN r { s with dead := s.dead || r.write } 3 = s.wrong r := rfl
theorem wrongN_ge (r : Rq) (s : St) : ∀ (n j : Nat), n ≤ j → (wrongN r s n).askAt j = s.askAt j
  | 0, _, _ => rfl
  | n + 1, j, h => by rw [wrongN, wrong1_ne _ (by omega), wrongN_ge r s n j (by omega)]
theorem wrong1_nn (r : Rq) (s : St) (c : Nat) {j : Nat} (h : s.askAt j = none) : (St.wrong1 r s c).askAt j = none := by
  by_cases hj : j = c
  · subst hj; rw [wrong1_none h]; exact h
  · rw [wrong1_ne s hj]; exact h
theorem wrongN_nn (r : Rq) (s : St) : ∀ (n j : Nat), s.askAt j = none → (wrongN r s n).askAt j = none
  | 0, _, h => h
  | n + 1, j, h => by rw [wrongN]; exact wrong1_nn _ _ _ (wrongN_nn r s n j h)
set_option maxRecDepth 100000 in
set_option maxHeartbeats 4000000 in
theorem wrong_true (col : Nat → Nat) (w : World) (b bd N : Nat) (x : Sv) (s : St) (r : Rq) (hw : r.write = true) (Ad At : Option Addr) (cd ct : Nat) (h : StAt Ts col w b bd N x s) (hI : Inv s) (hr : 0 ≤ r.lo ∧ r.lo ≤ 40) :
    Calls Tryz.prog 50 #[.pointer (some ⟨b, 0, none⟩), .agg #[.bool true, .int .i64 r.lo, .int .i64 r.many, .slice Ad r.data.length cd, .slice At r.tags.length ct, .int .i64 r.born]] w (Ret2 Ts col w b bd N x (s.wrong r) (.tuple #[])) := by
  obtain ⟨p0, e0, n0, q0⟩ := h.ptr 0 (by omega)
  obtain ⟨p1, e1, n1, q1⟩ := h.ptr 1 (by omega)
  obtain ⟨p2, e2, n2, q2⟩ := h.ptr 2 (by omega)
  have hb1 := (Below.refl w.heap.size w).alloc (Nat.le_refl _) (.cells #[.bool true, .int .i64 r.lo, .int .i64 r.many, .slice Ad r.data.length cd, .slice At r.tags.length ct, .int .i64 r.born] 97)
  have H1 := Lib.hid (h.below hb1)
  have hbl := h.bl
  obtain ⟨B, hB⟩ : ∃ B, w.heap.size = B := ⟨_, rfl⟩
  have HBx : Hid ((w.alloc (.cells #[.bool true, .int .i64 r.lo, .int .i64 r.many, .slice Ad r.data.length cd, .slice At r.tags.length ct, .int .i64 r.born] 97)).heap[B]? = some (.cells #[.bool true, .int .i64 r.lo, .int .i64 r.many, .slice Ad r.data.length cd, .slice At r.tags.length ct, .int .i64 r.born] 97 (0, 0))) := show _ = _ from hB ▸ heap_alloc_new w _
  have c20 : (w.alloc (.cells #[.bool true, .int .i64 r.lo, .int .i64 r.many, .slice Ad r.data.length cd, .slice At r.tags.length ct, .int .i64 r.born] 97)).cell? ⟨b, 20, none⟩ = some (.bool s.dead) := H1.out.cell 20
  have f20 : (w.alloc (.cells #[.bool true, .int .i64 r.lo, .int .i64 r.many, .slice Ad r.data.length cd, .slice At r.tags.length ct, .int .i64 r.born] 97)).frozen? ⟨b, 20, none⟩ = false := H1.out.frozen 20
  have d0 : (w.alloc (.cells #[.bool true, .int .i64 r.lo, .int .i64 r.many, .slice Ad r.data.length cd, .slice At r.tags.length ct, .int .i64 r.born] 97)).cell? ⟨B, 0, none⟩ = some (.bool true) := cell_of_row _ _ 0 _ _ _ HBx.out
  have H2 : Hid (StAt Ts col ((w.alloc (.cells #[.bool true, .int .i64 r.lo, .int .i64 r.many, .slice Ad r.data.length cd, .slice At r.tags.length ct, .int .i64 r.born] 97)).setCell ⟨b, 20, none⟩ (.bool true)) b bd N x { s with dead := true }) := show StAt _ _ _ _ _ _ _ _ from H1.out.deadd (Same1.refl.setCell 20 (.bool true)) (n := true) (heap_setCell_same _ _ 20 _ _ _ H1.out.row)
  have HC2 : Hid (Chg (fun k => k = b) w ((w.alloc (.cells #[.bool true, .int .i64 r.lo, .int .i64 r.many, .slice Ad r.data.length cd, .slice At r.tags.length ct, .int .i64 r.born] 97)).setCell ⟨b, 20, none⟩ (.bool true))) := show Chg _ _ _ from (Chg.of_below hb1).two (Chg.refl.setCell (F := fun k => k = b) (.inl rfl) _)
  have HBx2 : Hid (((w.alloc (.cells #[.bool true, .int .i64 r.lo, .int .i64 r.many, .slice Ad r.data.length cd, .slice At r.tags.length ct, .int .i64 r.born] 97)).setCell ⟨b, 20, none⟩ (.bool true)).heap[B]? = some (.cells #[.bool true, .int .i64 r.lo, .int .i64 r.many, .slice Ad r.data.length cd, .slice At r.tags.length ct, .int .i64 r.born] 97 (0, 0))) := show _ = _ from (heap_setCell_other _ _ _ _ (by simp; omega)).trans HBx.out
  have HR : Hid (((w.alloc (.cells #[.bool true, .int .i64 r.lo, .int .i64 r.many, .slice Ad r.data.length cd, .slice At r.tags.length ct, .int .i64 r.born] 97)).setCell ⟨b, 20, none⟩ (.bool true)).rangeAt b 11 [.pointer p0, .pointer p1, .pointer p2]) := asks_range H2.out e0 e1 e2
  have E0 := Lib.hid e0
  have E1 := Lib.hid e1
  have E2 := Lib.hid e2
  have N0 := Lib.hid n0
  have N1 := Lib.hid n1
  have N2 := Lib.hid n2
  have Q0 := Lib.hid q0
  have Q1 := Lib.hid q1
  have Q2 := Lib.hid q2
  have HI := Lib.hid hI
  have Hw := Lib.hid hw
  have Hne : Hid (B ≠ b) := show _ ≠ _ by omega
  have Hs : Hid ((Tryz.prog.info? 70).map (·.size) = some 3) := show _ = _ by kernel_rfl
  have HW3 : Hid (s.wrong r = wrongN r { s with dead := true } 3) := show _ = _ by
    have e : ({ s with dead := s.dead || r.write } : St) = { s with dead := true } := by rw [hw]; simp
    rw [← wrongN_3, e]
  clear h hI e0 e1 e2 n0 n1 n2 q0 q1 q2 hw hb1
  go_enter Tryz.func50, Tryz.ntmps50
  go_wp2_with (refine wpList_load_mid rfl 70 (.tmp 13) rfl b 11 rfl [.pointer p0, .pointer p1, .pointer p2] _ HR.out Tryz.underlying70 rfl Hs.out ?_)
  clear c20 f20 d0
  clear hbl hB H1 HBx HR
  generalize World.setCell _ _ _ = W at H2 HC2 HBx2 ⊢
  go_loopw [15] (fun i wr => ∃ (k : Nat) (y : Sv), k ≤ 3 ∧ i = .int .i64 k ∧ Hid (StAt Ts col wr b bd N y (wrongN r { s with dead := true } k)) ∧ Hid (Chg (fun k => k = b) w wr) ∧ Hid (Avs x y (wrongN r { s with dead := true } k)) ∧ Hid (wr.heap[B]? = some (.cells #[.bool true, .int .i64 r.lo, .int .i64 r.many, .slice Ad r.data.length cd, .slice At r.tags.length ct, .int .i64 r.born] 97 (0, 0)))) (fun i _ => 3 - (intOf i).toNat)
  case atStart => exact ⟨0, x, by omega, rfl, H2.out, HC2.out, Avs.refl, HBx2.out⟩
  case round =>
    obtain ⟨k, y, hk, rfl, HS, HC, HA, HX⟩ := hrel
    by_cases h3 : k < 3
    · match k, h3 with
      | 0, _ =>
        have hk0 : ((0 : Nat) : Int) = 0 := rfl
        have i0 := idx_0
        have d0 : wr.cell? ⟨B, 0, none⟩ = some (.bool true) := cell_of_row _ _ 0 _ _ _ HX.out
        have d1 : wr.cell? ⟨B, 1, none⟩ = some (.int .i64 r.lo) := cell_of_row _ _ 1 _ _ _ HX.out
        have d2 : wr.cell? ⟨B, 2, none⟩ = some (.int .i64 r.many) := cell_of_row _ _ 2 _ _ _ HX.out
        cases ho : s.askAt 0 with
        | none =>
          obtain rfl := N0.out ho
          have Ho := Lib.hid ho
          clear ho
          have He : Hid (wrongN r { s with dead := true } (0 + 1) = wrongN r { s with dead := true } 0) := show _ = _ from wrong1_none (wrongN_nn r { s with dead := true } 0 0 Ho.out)
          go_wp2_with fail
          have g0 : ∀ d os, (grow (redrawn wr d) os).cell? ⟨B, 0, none⟩ = some (.bool true) := fun _ _ => cell_regrown d0 _ _
          have g1 : ∀ d os, (grow (redrawn wr d) os).cell? ⟨B, 1, none⟩ = some (.int .i64 r.lo) := fun _ _ => cell_regrown d1 _ _
          have g2 : ∀ d os, (grow (redrawn wr d) os).cell? ⟨B, 2, none⟩ = some (.int .i64 r.many) := fun _ _ => cell_regrown d2 _ _
          clear d0 d1 d2
          refine wp_region_quiet_below mixed (by kernel_rfl) ?_
          repeat (first | go_big_quiet_step ((fail)) | quiet_step ((fail)))
          refine wpQuiet_nil ?_
          intro _ hw'
          obtain ⟨⟨dq, osq⟩, hw''⟩ := hw'
          subst hw''
          have hb4 := below_regrown wr dq osq
          clear g0 g1 g2
          generalize grow (redrawn wr dq) osq = w4 at hb4 ⊢
          have HB4 := Lib.hid hb4
          clear hb4
          go_wp2_with fail
          go_roundw
          case rel => exact ⟨0 + 1, y, by omega, by go_num, He.out ▸ HS.out.below HB4.out, HC.out.two (Chg.of_below HB4.out), He.out ▸ HA.out, (HB4.out.block _ (Array.getElem?_eq_some_iff.1 HX.out).1).trans HX.out⟩
          case measure => simp [intOf]
        | some a =>
          obtain ⟨ba, rfl⟩ := Q0.out a ho
          have Ho : Hid ((wrongN r { s with dead := true } 0).askAt 0 = some a) := show _ = _ from (wrongN_ge r { s with dead := true } 0 0 (by omega)).trans ho
          have Hy : Hid (y.av 0 = .pointer (some ⟨ba, 0, none⟩)) := show _ = _ from ((HA.out 0 (by omega)).elim id (fun h => by rw [Ho.out] at h; cases h)).trans E0.out
          obtain ⟨lv, hrow, _, _⟩ := HS.out.askc (by omega) Ho.out Hy.out
          have k0 : wr.cell? ⟨ba, 0, none⟩ = some (.int .i64 a.kind) := cell_of_row _ _ 0 _ _ _ hrow
          have k1 : wr.cell? ⟨ba, 1, none⟩ = some (.int .i64 a.pos) := cell_of_row _ _ 1 _ _ _ hrow
          have Hok := Lib.hid (HI.out.ask 0 a ho)
          clear ho hrow
          have He : Hid (wrongN r { s with dead := true } (0 + 1) = wrongN r { s with dead := true } 0) := show _ = _ from wrong1_miss Ho.out (fun h => by have h1 := h.1; rw [Hw.out] at h1; cases h1)
          go_wp2_with fail
          have g0 : ∀ d os, (grow (redrawn wr d) os).cell? ⟨B, 0, none⟩ = some (.bool true) := fun _ _ => cell_regrown d0 _ _
          have g1 : ∀ d os, (grow (redrawn wr d) os).cell? ⟨B, 1, none⟩ = some (.int .i64 r.lo) := fun _ _ => cell_regrown d1 _ _
          have g2 : ∀ d os, (grow (redrawn wr d) os).cell? ⟨B, 2, none⟩ = some (.int .i64 r.many) := fun _ _ => cell_regrown d2 _ _
          have g3 : ∀ d os, (grow (redrawn wr d) os).cell? ⟨ba, 1, none⟩ = some (.int .i64 a.pos) := fun _ _ => cell_regrown k1 _ _
          have g4 : ∀ d os, (grow (redrawn wr d) os).cell? ⟨ba, 0, none⟩ = some (.int .i64 a.kind) := fun _ _ => cell_regrown k0 _ _
          clear d0 d1 d2 k1 k0
          refine wp_region_quiet_below mixed (by kernel_rfl) ?_
          repeat (first | go_big_quiet_step ((fail)) | quiet_step ((fail)))
          refine wpQuiet_nil ?_
          intro _ hw'
          obtain ⟨⟨dq, osq⟩, hw''⟩ := hw'
          subst hw''
          have hb4 := below_regrown wr dq osq
          clear g0 g1 g2 g3 g4
          generalize grow (redrawn wr dq) osq = w4 at hb4 ⊢
          have HB4 := Lib.hid hb4
          clear hb4
          go_wp2_with fail
          go_roundw
          case rel => exact ⟨0 + 1, y, by omega, by go_num, He.out ▸ HS.out.below HB4.out, HC.out.two (Chg.of_below HB4.out), He.out ▸ HA.out, (HB4.out.block _ (Array.getElem?_eq_some_iff.1 HX.out).1).trans HX.out⟩
          case measure => simp [intOf]
      | 1, _ =>
        have hk0 : ((1 : Nat) : Int) = 1 := rfl
        have i0 := idx_1
        have d0 : wr.cell? ⟨B, 0, none⟩ = some (.bool true) := cell_of_row _ _ 0 _ _ _ HX.out
        have d1 : wr.cell? ⟨B, 1, none⟩ = some (.int .i64 r.lo) := cell_of_row _ _ 1 _ _ _ HX.out
        have d2 : wr.cell? ⟨B, 2, none⟩ = some (.int .i64 r.many) := cell_of_row _ _ 2 _ _ _ HX.out
        cases ho : s.askAt 1 with
        | none =>
          obtain rfl := N1.out ho
          have Ho := Lib.hid ho
          clear ho
          have He : Hid (wrongN r { s with dead := true } (1 + 1) = wrongN r { s with dead := true } 1) := show _ = _ from wrong1_none (wrongN_nn r { s with dead := true } 1 1 Ho.out)
          go_wp2_with fail
          have g0 : ∀ d os, (grow (redrawn wr d) os).cell? ⟨B, 0, none⟩ = some (.bool true) := fun _ _ => cell_regrown d0 _ _
          have g1 : ∀ d os, (grow (redrawn wr d) os).cell? ⟨B, 1, none⟩ = some (.int .i64 r.lo) := fun _ _ => cell_regrown d1 _ _
          have g2 : ∀ d os, (grow (redrawn wr d) os).cell? ⟨B, 2, none⟩ = some (.int .i64 r.many) := fun _ _ => cell_regrown d2 _ _
          clear d0 d1 d2
          refine wp_region_quiet_below mixed (by kernel_rfl) ?_
          repeat (first | go_big_quiet_step ((fail)) | quiet_step ((fail)))
          refine wpQuiet_nil ?_
          intro _ hw'
          obtain ⟨⟨dq, osq⟩, hw''⟩ := hw'
          subst hw''
          have hb4 := below_regrown wr dq osq
          clear g0 g1 g2
          generalize grow (redrawn wr dq) osq = w4 at hb4 ⊢
          have HB4 := Lib.hid hb4
          clear hb4
          go_wp2_with fail
          go_roundw
          case rel => exact ⟨1 + 1, y, by omega, by go_num, He.out ▸ HS.out.below HB4.out, HC.out.two (Chg.of_below HB4.out), He.out ▸ HA.out, (HB4.out.block _ (Array.getElem?_eq_some_iff.1 HX.out).1).trans HX.out⟩
          case measure => simp [intOf]
        | some a =>
          obtain ⟨ba, rfl⟩ := Q1.out a ho
          have Ho : Hid ((wrongN r { s with dead := true } 1).askAt 1 = some a) := show _ = _ from (wrongN_ge r { s with dead := true } 1 1 (by omega)).trans ho
          have Hy : Hid (y.av 1 = .pointer (some ⟨ba, 0, none⟩)) := show _ = _ from ((HA.out 1 (by omega)).elim id (fun h => by rw [Ho.out] at h; cases h)).trans E1.out
          obtain ⟨lv, hrow, _, _⟩ := HS.out.askc (by omega) Ho.out Hy.out
          have k0 : wr.cell? ⟨ba, 0, none⟩ = some (.int .i64 a.kind) := cell_of_row _ _ 0 _ _ _ hrow
          have k1 : wr.cell? ⟨ba, 1, none⟩ = some (.int .i64 a.pos) := cell_of_row _ _ 1 _ _ _ hrow
          have Hok := Lib.hid (HI.out.ask 1 a ho)
          clear ho hrow
          have He : Hid (wrongN r { s with dead := true } (1 + 1) = wrongN r { s with dead := true } 1) := show _ = _ from wrong1_miss Ho.out (fun h => by have h1 := h.1; rw [Hw.out] at h1; cases h1)
          go_wp2_with fail
          have g0 : ∀ d os, (grow (redrawn wr d) os).cell? ⟨B, 0, none⟩ = some (.bool true) := fun _ _ => cell_regrown d0 _ _
          have g1 : ∀ d os, (grow (redrawn wr d) os).cell? ⟨B, 1, none⟩ = some (.int .i64 r.lo) := fun _ _ => cell_regrown d1 _ _
          have g2 : ∀ d os, (grow (redrawn wr d) os).cell? ⟨B, 2, none⟩ = some (.int .i64 r.many) := fun _ _ => cell_regrown d2 _ _
          have g3 : ∀ d os, (grow (redrawn wr d) os).cell? ⟨ba, 1, none⟩ = some (.int .i64 a.pos) := fun _ _ => cell_regrown k1 _ _
          have g4 : ∀ d os, (grow (redrawn wr d) os).cell? ⟨ba, 0, none⟩ = some (.int .i64 a.kind) := fun _ _ => cell_regrown k0 _ _
          clear d0 d1 d2 k1 k0
          refine wp_region_quiet_below mixed (by kernel_rfl) ?_
          repeat (first | go_big_quiet_step ((fail)) | quiet_step ((fail)))
          refine wpQuiet_nil ?_
          intro _ hw'
          obtain ⟨⟨dq, osq⟩, hw''⟩ := hw'
          subst hw''
          have hb4 := below_regrown wr dq osq
          clear g0 g1 g2 g3 g4
          generalize grow (redrawn wr dq) osq = w4 at hb4 ⊢
          have HB4 := Lib.hid hb4
          clear hb4
          go_wp2_with fail
          go_roundw
          case rel => exact ⟨1 + 1, y, by omega, by go_num, He.out ▸ HS.out.below HB4.out, HC.out.two (Chg.of_below HB4.out), He.out ▸ HA.out, (HB4.out.block _ (Array.getElem?_eq_some_iff.1 HX.out).1).trans HX.out⟩
          case measure => simp [intOf]
      | 2, _ =>
        have hk0 : ((2 : Nat) : Int) = 2 := rfl
        have i0 := idx_2
        have d0 : wr.cell? ⟨B, 0, none⟩ = some (.bool true) := cell_of_row _ _ 0 _ _ _ HX.out
        have d1 : wr.cell? ⟨B, 1, none⟩ = some (.int .i64 r.lo) := cell_of_row _ _ 1 _ _ _ HX.out
        have d2 : wr.cell? ⟨B, 2, none⟩ = some (.int .i64 r.many) := cell_of_row _ _ 2 _ _ _ HX.out
        cases ho : s.askAt 2 with
        | none =>
          obtain rfl := N2.out ho
          have Ho := Lib.hid ho
          clear ho
          have He : Hid (wrongN r { s with dead := true } (2 + 1) = wrongN r { s with dead := true } 2) := show _ = _ from wrong1_none (wrongN_nn r { s with dead := true } 2 2 Ho.out)
          go_wp2_with fail
          have g0 : ∀ d os, (grow (redrawn wr d) os).cell? ⟨B, 0, none⟩ = some (.bool true) := fun _ _ => cell_regrown d0 _ _
          have g1 : ∀ d os, (grow (redrawn wr d) os).cell? ⟨B, 1, none⟩ = some (.int .i64 r.lo) := fun _ _ => cell_regrown d1 _ _
          have g2 : ∀ d os, (grow (redrawn wr d) os).cell? ⟨B, 2, none⟩ = some (.int .i64 r.many) := fun _ _ => cell_regrown d2 _ _
          clear d0 d1 d2
          refine wp_region_quiet_below mixed (by kernel_rfl) ?_
          repeat (first | go_big_quiet_step ((fail)) | quiet_step ((fail)))
          refine wpQuiet_nil ?_
          intro _ hw'
          obtain ⟨⟨dq, osq⟩, hw''⟩ := hw'
          subst hw''
          have hb4 := below_regrown wr dq osq
          clear g0 g1 g2
          generalize grow (redrawn wr dq) osq = w4 at hb4 ⊢
          have HB4 := Lib.hid hb4
          clear hb4
          go_wp2_with fail
          go_roundw
          case rel => exact ⟨2 + 1, y, by omega, by go_num, He.out ▸ HS.out.below HB4.out, HC.out.two (Chg.of_below HB4.out), He.out ▸ HA.out, (HB4.out.block _ (Array.getElem?_eq_some_iff.1 HX.out).1).trans HX.out⟩
          case measure => simp [intOf]
        | some a =>
          obtain ⟨ba, rfl⟩ := Q2.out a ho
          have Ho : Hid ((wrongN r { s with dead := true } 2).askAt 2 = some a) := show _ = _ from (wrongN_ge r { s with dead := true } 2 2 (by omega)).trans ho
          have Hy : Hid (y.av 2 = .pointer (some ⟨ba, 0, none⟩)) := show _ = _ from ((HA.out 2 (by omega)).elim id (fun h => by rw [Ho.out] at h; cases h)).trans E2.out
          obtain ⟨lv, hrow, _, _⟩ := HS.out.askc (by omega) Ho.out Hy.out
          have k0 : wr.cell? ⟨ba, 0, none⟩ = some (.int .i64 a.kind) := cell_of_row _ _ 0 _ _ _ hrow
          have k1 : wr.cell? ⟨ba, 1, none⟩ = some (.int .i64 a.pos) := cell_of_row _ _ 1 _ _ _ hrow
          have Hok := Lib.hid (HI.out.ask 2 a ho)
          clear ho hrow
          have He : Hid (wrongN r { s with dead := true } (2 + 1) = wrongN r { s with dead := true } 2) := show _ = _ from wrong1_miss Ho.out (fun h => by have h1 := h.1; rw [Hw.out] at h1; cases h1)
          go_wp2_with fail
          have g0 : ∀ d os, (grow (redrawn wr d) os).cell? ⟨B, 0, none⟩ = some (.bool true) := fun _ _ => cell_regrown d0 _ _
          have g1 : ∀ d os, (grow (redrawn wr d) os).cell? ⟨B, 1, none⟩ = some (.int .i64 r.lo) := fun _ _ => cell_regrown d1 _ _
          have g2 : ∀ d os, (grow (redrawn wr d) os).cell? ⟨B, 2, none⟩ = some (.int .i64 r.many) := fun _ _ => cell_regrown d2 _ _
          have g3 : ∀ d os, (grow (redrawn wr d) os).cell? ⟨ba, 1, none⟩ = some (.int .i64 a.pos) := fun _ _ => cell_regrown k1 _ _
          have g4 : ∀ d os, (grow (redrawn wr d) os).cell? ⟨ba, 0, none⟩ = some (.int .i64 a.kind) := fun _ _ => cell_regrown k0 _ _
          clear d0 d1 d2 k1 k0
          refine wp_region_quiet_below mixed (by kernel_rfl) ?_
          repeat (first | go_big_quiet_step ((fail)) | quiet_step ((fail)))
          refine wpQuiet_nil ?_
          intro _ hw'
          obtain ⟨⟨dq, osq⟩, hw''⟩ := hw'
          subst hw''
          have hb4 := below_regrown wr dq osq
          clear g0 g1 g2 g3 g4
          generalize grow (redrawn wr dq) osq = w4 at hb4 ⊢
          have HB4 := Lib.hid hb4
          clear hb4
          go_wp2_with fail
          go_roundw
          case rel => exact ⟨2 + 1, y, by omega, by go_num, He.out ▸ HS.out.below HB4.out, HC.out.two (Chg.of_below HB4.out), He.out ▸ HA.out, (HB4.out.block _ (Array.getElem?_eq_some_iff.1 HX.out).1).trans HX.out⟩
          case measure => simp [intOf]
    · obtain rfl : k = 3 := by omega
      have hi : ((3 : Nat) : Int) = 3 := rfl
      go_wp2_with fail
      go_end0
      rw [HW3.out]
      exact ⟨_, rfl, HS.out, HC.out, HA.out⟩
set_option maxRecDepth 100000 in
set_option maxHeartbeats 4000000 in
theorem wrong_false (col : Nat → Nat) (w : World) (b bd N : Nat) (x : Sv) (s : St) (r : Rq) (hw : r.write = false) (Ad At : Option Addr) (cd ct : Nat) (h : StAt Ts col w b bd N x s) (hI : Inv s) (hr : 0 ≤ r.lo ∧ r.lo ≤ 40) :
    Calls Tryz.prog 50 #[.pointer (some ⟨b, 0, none⟩), .agg #[.bool false, .int .i64 r.lo, .int .i64 r.many, .slice Ad r.data.length cd, .slice At r.tags.length ct, .int .i64 r.born]] w (Ret2 Ts col w b bd N x (s.wrong r) (.tuple #[])) := by
  obtain ⟨p0, e0, n0, q0⟩ := h.ptr 0 (by omega)
  obtain ⟨p1, e1, n1, q1⟩ := h.ptr 1 (by omega)
  obtain ⟨p2, e2, n2, q2⟩ := h.ptr 2 (by omega)
  have hb1 := (Below.refl w.heap.size w).alloc (Nat.le_refl _) (.cells #[.bool false, .int .i64 r.lo, .int .i64 r.many, .slice Ad r.data.length cd, .slice At r.tags.length ct, .int .i64 r.born] 97)
  have H1 := Lib.hid (h.below hb1)
  have hbl := h.bl
  obtain ⟨B, hB⟩ : ∃ B, w.heap.size = B := ⟨_, rfl⟩
  have HBx : Hid ((w.alloc (.cells #[.bool false, .int .i64 r.lo, .int .i64 r.many, .slice Ad r.data.length cd, .slice At r.tags.length ct, .int .i64 r.born] 97)).heap[B]? = some (.cells #[.bool false, .int .i64 r.lo, .int .i64 r.many, .slice Ad r.data.length cd, .slice At r.tags.length ct, .int .i64 r.born] 97 (0, 0))) := show _ = _ from hB ▸ heap_alloc_new w _
  have c20 : (w.alloc (.cells #[.bool false, .int .i64 r.lo, .int .i64 r.many, .slice Ad r.data.length cd, .slice At r.tags.length ct, .int .i64 r.born] 97)).cell? ⟨b, 20, none⟩ = some (.bool s.dead) := H1.out.cell 20
  have f20 : (w.alloc (.cells #[.bool false, .int .i64 r.lo, .int .i64 r.many, .slice Ad r.data.length cd, .slice At r.tags.length ct, .int .i64 r.born] 97)).frozen? ⟨b, 20, none⟩ = false := H1.out.frozen 20
  have d0 : (w.alloc (.cells #[.bool false, .int .i64 r.lo, .int .i64 r.many, .slice Ad r.data.length cd, .slice At r.tags.length ct, .int .i64 r.born] 97)).cell? ⟨B, 0, none⟩ = some (.bool false) := cell_of_row _ _ 0 _ _ _ HBx.out
  have H2 : Hid (StAt Ts col (w.alloc (.cells #[.bool false, .int .i64 r.lo, .int .i64 r.many, .slice Ad r.data.length cd, .slice At r.tags.length ct, .int .i64 r.born] 97)) b bd N x s) := show StAt _ _ _ _ _ _ _ _ from H1.out
  have HC2 : Hid (Chg (fun k => k = b) w (w.alloc (.cells #[.bool false, .int .i64 r.lo, .int .i64 r.many, .slice Ad r.data.length cd, .slice At r.tags.length ct, .int .i64 r.born] 97))) := show Chg _ _ _ from Chg.of_below hb1
  have HBx2 : Hid ((w.alloc (.cells #[.bool false, .int .i64 r.lo, .int .i64 r.many, .slice Ad r.data.length cd, .slice At r.tags.length ct, .int .i64 r.born] 97)).heap[B]? = some (.cells #[.bool false, .int .i64 r.lo, .int .i64 r.many, .slice Ad r.data.length cd, .slice At r.tags.length ct, .int .i64 r.born] 97 (0, 0))) := show _ = _ from HBx.out
  have HR : Hid ((w.alloc (.cells #[.bool false, .int .i64 r.lo, .int .i64 r.many, .slice Ad r.data.length cd, .slice At r.tags.length ct, .int .i64 r.born] 97)).rangeAt b 11 [.pointer p0, .pointer p1, .pointer p2]) := asks_range H2.out e0 e1 e2
  have E0 := Lib.hid e0
  have E1 := Lib.hid e1
  have E2 := Lib.hid e2
  have N0 := Lib.hid n0
  have N1 := Lib.hid n1
  have N2 := Lib.hid n2
  have Q0 := Lib.hid q0
  have Q1 := Lib.hid q1
  have Q2 := Lib.hid q2
  have HI := Lib.hid hI
  have Hw := Lib.hid hw
  have Hne : Hid (B ≠ b) := show _ ≠ _ by omega
  have Hs : Hid ((Tryz.prog.info? 70).map (·.size) = some 3) := show _ = _ by kernel_rfl
  have HW3 : Hid (s.wrong r = wrongN r s 3) := show _ = _ by
    have e : ({ s with dead := s.dead || r.write } : St) = s := by rw [hw]; simp
    rw [← wrongN_3, e]
  clear h hI e0 e1 e2 n0 n1 n2 q0 q1 q2 hw hb1
  go_enter Tryz.func50, Tryz.ntmps50
  go_wp2_with (refine wpList_load_mid rfl 70 (.tmp 13) rfl b 11 rfl [.pointer p0, .pointer p1, .pointer p2] _ HR.out Tryz.underlying70 rfl Hs.out ?_)
  clear c20 f20 d0
  clear hbl hB H1 HBx HR
  generalize World.alloc _ _ = W at H2 HC2 HBx2 ⊢
  go_loopw [15] (fun i wr => ∃ (k : Nat) (y : Sv), k ≤ 3 ∧ i = .int .i64 k ∧ Hid (StAt Ts col wr b bd N y (wrongN r s k)) ∧ Hid (Chg (fun k => k = b) w wr) ∧ Hid (Avs x y (wrongN r s k)) ∧ Hid (wr.heap[B]? = some (.cells #[.bool false, .int .i64 r.lo, .int .i64 r.many, .slice Ad r.data.length cd, .slice At r.tags.length ct, .int .i64 r.born] 97 (0, 0)))) (fun i _ => 3 - (intOf i).toNat)
  case atStart => exact ⟨0, x, by omega, rfl, H2.out, HC2.out, Avs.refl, HBx2.out⟩
  case round =>
    obtain ⟨k, y, hk, rfl, HS, HC, HA, HX⟩ := hrel
    by_cases h3 : k < 3
    · match k, h3 with
      | 0, _ =>
        have hk0 : ((0 : Nat) : Int) = 0 := rfl
        have i0 := idx_0
        have d0 : wr.cell? ⟨B, 0, none⟩ = some (.bool false) := cell_of_row _ _ 0 _ _ _ HX.out
        have d1 : wr.cell? ⟨B, 1, none⟩ = some (.int .i64 r.lo) := cell_of_row _ _ 1 _ _ _ HX.out
        have d2 : wr.cell? ⟨B, 2, none⟩ = some (.int .i64 r.many) := cell_of_row _ _ 2 _ _ _ HX.out
        cases ho : s.askAt 0 with
        | none =>
          obtain rfl := N0.out ho
          have Ho := Lib.hid ho
          clear ho
          have He : Hid (wrongN r s (0 + 1) = wrongN r s 0) := show _ = _ from wrong1_none (wrongN_nn r s 0 0 Ho.out)
          go_wp2_with fail
          have g0 : ∀ d os, (grow (redrawn wr d) os).cell? ⟨B, 0, none⟩ = some (.bool false) := fun _ _ => cell_regrown d0 _ _
          have g1 : ∀ d os, (grow (redrawn wr d) os).cell? ⟨B, 1, none⟩ = some (.int .i64 r.lo) := fun _ _ => cell_regrown d1 _ _
          have g2 : ∀ d os, (grow (redrawn wr d) os).cell? ⟨B, 2, none⟩ = some (.int .i64 r.many) := fun _ _ => cell_regrown d2 _ _
          clear d0 d1 d2
          refine wp_region_quiet_below mixed (by kernel_rfl) ?_
          repeat (first | go_big_quiet_step ((fail)) | quiet_step ((fail)))
          refine wpQuiet_nil ?_
          intro _ hw'
          obtain ⟨⟨dq, osq⟩, hw''⟩ := hw'
          subst hw''
          have hb4 := below_regrown wr dq osq
          clear g0 g1 g2
          generalize grow (redrawn wr dq) osq = w4 at hb4 ⊢
          have HB4 := Lib.hid hb4
          clear hb4
          go_wp2_with fail
          go_roundw
          case rel => exact ⟨0 + 1, y, by omega, by go_num, He.out ▸ HS.out.below HB4.out, HC.out.two (Chg.of_below HB4.out), He.out ▸ HA.out, (HB4.out.block _ (Array.getElem?_eq_some_iff.1 HX.out).1).trans HX.out⟩
          case measure => simp [intOf]
        | some a =>
          obtain ⟨ba, rfl⟩ := Q0.out a ho
          have Ho : Hid ((wrongN r s 0).askAt 0 = some a) := show _ = _ from (wrongN_ge r s 0 0 (by omega)).trans ho
          have Hy : Hid (y.av 0 = .pointer (some ⟨ba, 0, none⟩)) := show _ = _ from ((HA.out 0 (by omega)).elim id (fun h => by rw [Ho.out] at h; cases h)).trans E0.out
          obtain ⟨lv, hrow, _, _⟩ := HS.out.askc (by omega) Ho.out Hy.out
          have k0 : wr.cell? ⟨ba, 0, none⟩ = some (.int .i64 a.kind) := cell_of_row _ _ 0 _ _ _ hrow
          have k1 : wr.cell? ⟨ba, 1, none⟩ = some (.int .i64 a.pos) := cell_of_row _ _ 1 _ _ _ hrow
          have Hok := Lib.hid (HI.out.ask 0 a ho)
          clear ho hrow
          by_cases h1 : a.kind = 1
          · rw [h1] at k0
            have H1k := Lib.hid h1
            clear h1
            cases hh : hasB r.lo r.many a.pos with
            | true =>
              have He : Hid (wrongN r s (0 + 1) = (wrongN r s 0).answer 0 noB 8) := show _ = _ from wrong1_hit Ho.out Hw.out H1k.out hh
              have Hh := Lib.hid hh
              clear hh
              have Hcall : Hid (∀ u, Calls Tryz.prog 68 #[spanV r.lo r.many, .int .i64 a.pos] u (Ret (.bool true) u)) := fun u => Hh.out ▸ has_any r.lo r.many a.pos u hr.1 hr.2 (by have := Hok.out.lo; omega) (by have := Hok.out.hi; omega)
              go_wp2_with fail
              have g0 : ∀ d os, (grow (redrawn wr d) os).cell? ⟨B, 0, none⟩ = some (.bool false) := fun _ _ => cell_regrown d0 _ _
              have g1 : ∀ d os, (grow (redrawn wr d) os).cell? ⟨B, 1, none⟩ = some (.int .i64 r.lo) := fun _ _ => cell_regrown d1 _ _
              have g2 : ∀ d os, (grow (redrawn wr d) os).cell? ⟨B, 2, none⟩ = some (.int .i64 r.many) := fun _ _ => cell_regrown d2 _ _
              have g3 : ∀ d os, (grow (redrawn wr d) os).cell? ⟨ba, 1, none⟩ = some (.int .i64 a.pos) := fun _ _ => cell_regrown k1 _ _
              have g4 : ∀ d os, (grow (redrawn wr d) os).cell? ⟨ba, 0, none⟩ = some (.int .i64 1) := fun _ _ => cell_regrown k0 _ _
              clear d0 d1 d2 k1 k0
              refine wp_region_quiet_below mixed (by kernel_rfl) ?_
              repeat (first | go_big_quiet_step ((exact Calls.rg (Hcall.out _))) | quiet_step ((exact Calls.rg (Hcall.out _))))
              refine wpQuiet_nil ?_
              intro _ hw'
              obtain ⟨⟨dq, osq⟩, hw''⟩ := hw'
              subst hw''
              have hb4 := below_regrown wr dq osq
              clear g0 g1 g2 g3 g4
              generalize grow (redrawn wr dq) osq = w4 at hb4 ⊢
              have HB4 := Lib.hid hb4
              clear hb4
              go_wp2_with fail
              refine (answer_any col w4 b bd N y _ 0 noB 8 (HS.out.below HB4.out) (by omega)).mono ?_
              rintro e w5 ⟨rfl, hs5, hst5⟩
              have Hst5 := Lib.hid hst5
              have HC5 := Lib.hid (hs5.chg (F := fun k => k = b) rfl)
              have HX5 : Hid (w5.heap[B]? = _) := show _ = _ from (hs5.block B Hne.out).trans ((HB4.out.block _ (Array.getElem?_eq_some_iff.1 HX.out).1).trans HX.out)
              clear hst5 hs5
              go_wp2_with fail
              go_roundw
              case rel => exact ⟨0 + 1, _, by omega, by go_num, He.out ▸ Hst5.out, (HC.out.two (Chg.of_below HB4.out)).two HC5.out, He.out ▸ Avs.ans HA.out HS.out.asks (by omega), HX5.out⟩
              case measure => simp [intOf]
            | false =>
              have He : Hid (wrongN r s (0 + 1) = wrongN r s 0) := show _ = _ from wrong1_miss Ho.out (fun h => by have h1 := h.2.2; rw [hh] at h1; cases h1)
              have Hh := Lib.hid hh
              clear hh
              have Hcall : Hid (∀ u, Calls Tryz.prog 68 #[spanV r.lo r.many, .int .i64 a.pos] u (Ret (.bool false) u)) := fun u => Hh.out ▸ has_any r.lo r.many a.pos u hr.1 hr.2 (by have := Hok.out.lo; omega) (by have := Hok.out.hi; omega)
              go_wp2_with fail
              have g0 : ∀ d os, (grow (redrawn wr d) os).cell? ⟨B, 0, none⟩ = some (.bool false) := fun _ _ => cell_regrown d0 _ _
              have g1 : ∀ d os, (grow (redrawn wr d) os).cell? ⟨B, 1, none⟩ = some (.int .i64 r.lo) := fun _ _ => cell_regrown d1 _ _
              have g2 : ∀ d os, (grow (redrawn wr d) os).cell? ⟨B, 2, none⟩ = some (.int .i64 r.many) := fun _ _ => cell_regrown d2 _ _
              have g3 : ∀ d os, (grow (redrawn wr d) os).cell? ⟨ba, 1, none⟩ = some (.int .i64 a.pos) := fun _ _ => cell_regrown k1 _ _
              have g4 : ∀ d os, (grow (redrawn wr d) os).cell? ⟨ba, 0, none⟩ = some (.int .i64 1) := fun _ _ => cell_regrown k0 _ _
              clear d0 d1 d2 k1 k0
              refine wp_region_quiet_below mixed (by kernel_rfl) ?_
              repeat (first | go_big_quiet_step ((exact Calls.rg (Hcall.out _))) | quiet_step ((exact Calls.rg (Hcall.out _))))
              refine wpQuiet_nil ?_
              intro _ hw'
              obtain ⟨⟨dq, osq⟩, hw''⟩ := hw'
              subst hw''
              have hb4 := below_regrown wr dq osq
              clear g0 g1 g2 g3 g4
              generalize grow (redrawn wr dq) osq = w4 at hb4 ⊢
              have HB4 := Lib.hid hb4
              clear hb4
              go_wp2_with fail
              go_roundw
              case rel => exact ⟨0 + 1, y, by omega, by go_num, He.out ▸ HS.out.below HB4.out, HC.out.two (Chg.of_below HB4.out), He.out ▸ HA.out, (HB4.out.block _ (Array.getElem?_eq_some_iff.1 HX.out).1).trans HX.out⟩
              case measure => simp [intOf]
          · have h2 : (a.kind == 1) = false := by simp only [beq_eq_false_iff_ne]; exact h1
            have He : Hid (wrongN r s (0 + 1) = wrongN r s 0) := show _ = _ from wrong1_miss Ho.out (fun h => h1 h.2.1)
            clear h1
            go_wp2_with fail
            have g0 : ∀ d os, (grow (redrawn wr d) os).cell? ⟨B, 0, none⟩ = some (.bool false) := fun _ _ => cell_regrown d0 _ _
            have g1 : ∀ d os, (grow (redrawn wr d) os).cell? ⟨B, 1, none⟩ = some (.int .i64 r.lo) := fun _ _ => cell_regrown d1 _ _
            have g2 : ∀ d os, (grow (redrawn wr d) os).cell? ⟨B, 2, none⟩ = some (.int .i64 r.many) := fun _ _ => cell_regrown d2 _ _
            have g3 : ∀ d os, (grow (redrawn wr d) os).cell? ⟨ba, 1, none⟩ = some (.int .i64 a.pos) := fun _ _ => cell_regrown k1 _ _
            have g4 : ∀ d os, (grow (redrawn wr d) os).cell? ⟨ba, 0, none⟩ = some (.int .i64 a.kind) := fun _ _ => cell_regrown k0 _ _
            clear d0 d1 d2 k1 k0
            refine wp_region_quiet_below mixed (by kernel_rfl) ?_
            repeat (first | go_big_quiet_step ((fail)) | quiet_step ((fail)))
            refine wpQuiet_nil ?_
            intro _ hw'
            obtain ⟨⟨dq, osq⟩, hw''⟩ := hw'
            subst hw''
            have hb4 := below_regrown wr dq osq
            clear g0 g1 g2 g3 g4
            generalize grow (redrawn wr dq) osq = w4 at hb4 ⊢
            have HB4 := Lib.hid hb4
            clear hb4
            go_wp2_with fail
            go_roundw
            case rel => exact ⟨0 + 1, y, by omega, by go_num, He.out ▸ HS.out.below HB4.out, HC.out.two (Chg.of_below HB4.out), He.out ▸ HA.out, (HB4.out.block _ (Array.getElem?_eq_some_iff.1 HX.out).1).trans HX.out⟩
            case measure => simp [intOf]
      | 1, _ =>
        have hk0 : ((1 : Nat) : Int) = 1 := rfl
        have i0 := idx_1
        have d0 : wr.cell? ⟨B, 0, none⟩ = some (.bool false) := cell_of_row _ _ 0 _ _ _ HX.out
        have d1 : wr.cell? ⟨B, 1, none⟩ = some (.int .i64 r.lo) := cell_of_row _ _ 1 _ _ _ HX.out
        have d2 : wr.cell? ⟨B, 2, none⟩ = some (.int .i64 r.many) := cell_of_row _ _ 2 _ _ _ HX.out
        cases ho : s.askAt 1 with
        | none =>
          obtain rfl := N1.out ho
          have Ho := Lib.hid ho
          clear ho
          have He : Hid (wrongN r s (1 + 1) = wrongN r s 1) := show _ = _ from wrong1_none (wrongN_nn r s 1 1 Ho.out)
          go_wp2_with fail
          have g0 : ∀ d os, (grow (redrawn wr d) os).cell? ⟨B, 0, none⟩ = some (.bool false) := fun _ _ => cell_regrown d0 _ _
          have g1 : ∀ d os, (grow (redrawn wr d) os).cell? ⟨B, 1, none⟩ = some (.int .i64 r.lo) := fun _ _ => cell_regrown d1 _ _
          have g2 : ∀ d os, (grow (redrawn wr d) os).cell? ⟨B, 2, none⟩ = some (.int .i64 r.many) := fun _ _ => cell_regrown d2 _ _
          clear d0 d1 d2
          refine wp_region_quiet_below mixed (by kernel_rfl) ?_
          repeat (first | go_big_quiet_step ((fail)) | quiet_step ((fail)))
          refine wpQuiet_nil ?_
          intro _ hw'
          obtain ⟨⟨dq, osq⟩, hw''⟩ := hw'
          subst hw''
          have hb4 := below_regrown wr dq osq
          clear g0 g1 g2
          generalize grow (redrawn wr dq) osq = w4 at hb4 ⊢
          have HB4 := Lib.hid hb4
          clear hb4
          go_wp2_with fail
          go_roundw
          case rel => exact ⟨1 + 1, y, by omega, by go_num, He.out ▸ HS.out.below HB4.out, HC.out.two (Chg.of_below HB4.out), He.out ▸ HA.out, (HB4.out.block _ (Array.getElem?_eq_some_iff.1 HX.out).1).trans HX.out⟩
          case measure => simp [intOf]
        | some a =>
          obtain ⟨ba, rfl⟩ := Q1.out a ho
          have Ho : Hid ((wrongN r s 1).askAt 1 = some a) := show _ = _ from (wrongN_ge r s 1 1 (by omega)).trans ho
          have Hy : Hid (y.av 1 = .pointer (some ⟨ba, 0, none⟩)) := show _ = _ from ((HA.out 1 (by omega)).elim id (fun h => by rw [Ho.out] at h; cases h)).trans E1.out
          obtain ⟨lv, hrow, _, _⟩ := HS.out.askc (by omega) Ho.out Hy.out
          have k0 : wr.cell? ⟨ba, 0, none⟩ = some (.int .i64 a.kind) := cell_of_row _ _ 0 _ _ _ hrow
          have k1 : wr.cell? ⟨ba, 1, none⟩ = some (.int .i64 a.pos) := cell_of_row _ _ 1 _ _ _ hrow
          have Hok := Lib.hid (HI.out.ask 1 a ho)
          clear ho hrow
          by_cases h1 : a.kind = 1
          · rw [h1] at k0
            have H1k := Lib.hid h1
            clear h1
            cases hh : hasB r.lo r.many a.pos with
            | true =>
              have He : Hid (wrongN r s (1 + 1) = (wrongN r s 1).answer 1 noB 8) := show _ = _ from wrong1_hit Ho.out Hw.out H1k.out hh
              have Hh := Lib.hid hh
              clear hh
              have Hcall : Hid (∀ u, Calls Tryz.prog 68 #[spanV r.lo r.many, .int .i64 a.pos] u (Ret (.bool true) u)) := fun u => Hh.out ▸ has_any r.lo r.many a.pos u hr.1 hr.2 (by have := Hok.out.lo; omega) (by have := Hok.out.hi; omega)
              go_wp2_with fail
              have g0 : ∀ d os, (grow (redrawn wr d) os).cell? ⟨B, 0, none⟩ = some (.bool false) := fun _ _ => cell_regrown d0 _ _
              have g1 : ∀ d os, (grow (redrawn wr d) os).cell? ⟨B, 1, none⟩ = some (.int .i64 r.lo) := fun _ _ => cell_regrown d1 _ _
              have g2 : ∀ d os, (grow (redrawn wr d) os).cell? ⟨B, 2, none⟩ = some (.int .i64 r.many) := fun _ _ => cell_regrown d2 _ _
              have g3 : ∀ d os, (grow (redrawn wr d) os).cell? ⟨ba, 1, none⟩ = some (.int .i64 a.pos) := fun _ _ => cell_regrown k1 _ _
              have g4 : ∀ d os, (grow (redrawn wr d) os).cell? ⟨ba, 0, none⟩ = some (.int .i64 1) := fun _ _ => cell_regrown k0 _ _
              clear d0 d1 d2 k1 k0
              refine wp_region_quiet_below mixed (by kernel_rfl) ?_
              repeat (first | go_big_quiet_step ((exact Calls.rg (Hcall.out _))) | quiet_step ((exact Calls.rg (Hcall.out _))))
              refine wpQuiet_nil ?_
              intro _ hw'
              obtain ⟨⟨dq, osq⟩, hw''⟩ := hw'
              subst hw''
              have hb4 := below_regrown wr dq osq
              clear g0 g1 g2 g3 g4
              generalize grow (redrawn wr dq) osq = w4 at hb4 ⊢
              have HB4 := Lib.hid hb4
              clear hb4
              go_wp2_with fail
              refine (answer_any col w4 b bd N y _ 1 noB 8 (HS.out.below HB4.out) (by omega)).mono ?_
              rintro e w5 ⟨rfl, hs5, hst5⟩
              have Hst5 := Lib.hid hst5
              have HC5 := Lib.hid (hs5.chg (F := fun k => k = b) rfl)
              have HX5 : Hid (w5.heap[B]? = _) := show _ = _ from (hs5.block B Hne.out).trans ((HB4.out.block _ (Array.getElem?_eq_some_iff.1 HX.out).1).trans HX.out)
              clear hst5 hs5
              go_wp2_with fail
              go_roundw
              case rel => exact ⟨1 + 1, _, by omega, by go_num, He.out ▸ Hst5.out, (HC.out.two (Chg.of_below HB4.out)).two HC5.out, He.out ▸ Avs.ans HA.out HS.out.asks (by omega), HX5.out⟩
              case measure => simp [intOf]
            | false =>
              have He : Hid (wrongN r s (1 + 1) = wrongN r s 1) := show _ = _ from wrong1_miss Ho.out (fun h => by have h1 := h.2.2; rw [hh] at h1; cases h1)
              have Hh := Lib.hid hh
              clear hh
              have Hcall : Hid (∀ u, Calls Tryz.prog 68 #[spanV r.lo r.many, .int .i64 a.pos] u (Ret (.bool false) u)) := fun u => Hh.out ▸ has_any r.lo r.many a.pos u hr.1 hr.2 (by have := Hok.out.lo; omega) (by have := Hok.out.hi; omega)
              go_wp2_with fail
              have g0 : ∀ d os, (grow (redrawn wr d) os).cell? ⟨B, 0, none⟩ = some (.bool false) := fun _ _ => cell_regrown d0 _ _
              have g1 : ∀ d os, (grow (redrawn wr d) os).cell? ⟨B, 1, none⟩ = some (.int .i64 r.lo) := fun _ _ => cell_regrown d1 _ _
              have g2 : ∀ d os, (grow (redrawn wr d) os).cell? ⟨B, 2, none⟩ = some (.int .i64 r.many) := fun _ _ => cell_regrown d2 _ _
              have g3 : ∀ d os, (grow (redrawn wr d) os).cell? ⟨ba, 1, none⟩ = some (.int .i64 a.pos) := fun _ _ => cell_regrown k1 _ _
              have g4 : ∀ d os, (grow (redrawn wr d) os).cell? ⟨ba, 0, none⟩ = some (.int .i64 1) := fun _ _ => cell_regrown k0 _ _
              clear d0 d1 d2 k1 k0
              refine wp_region_quiet_below mixed (by kernel_rfl) ?_
              repeat (first | go_big_quiet_step ((exact Calls.rg (Hcall.out _))) | quiet_step ((exact Calls.rg (Hcall.out _))))
              refine wpQuiet_nil ?_
              intro _ hw'
              obtain ⟨⟨dq, osq⟩, hw''⟩ := hw'
              subst hw''
              have hb4 := below_regrown wr dq osq
              clear g0 g1 g2 g3 g4
              generalize grow (redrawn wr dq) osq = w4 at hb4 ⊢
              have HB4 := Lib.hid hb4
              clear hb4
              go_wp2_with fail
              go_roundw
              case rel => exact ⟨1 + 1, y, by omega, by go_num, He.out ▸ HS.out.below HB4.out, HC.out.two (Chg.of_below HB4.out), He.out ▸ HA.out, (HB4.out.block _ (Array.getElem?_eq_some_iff.1 HX.out).1).trans HX.out⟩
              case measure => simp [intOf]
          · have h2 : (a.kind == 1) = false := by simp only [beq_eq_false_iff_ne]; exact h1
            have He : Hid (wrongN r s (1 + 1) = wrongN r s 1) := show _ = _ from wrong1_miss Ho.out (fun h => h1 h.2.1)
            clear h1
            go_wp2_with fail
            have g0 : ∀ d os, (grow (redrawn wr d) os).cell? ⟨B, 0, none⟩ = some (.bool false) := fun _ _ => cell_regrown d0 _ _
            have g1 : ∀ d os, (grow (redrawn wr d) os).cell? ⟨B, 1, none⟩ = some (.int .i64 r.lo) := fun _ _ => cell_regrown d1 _ _
            have g2 : ∀ d os, (grow (redrawn wr d) os).cell? ⟨B, 2, none⟩ = some (.int .i64 r.many) := fun _ _ => cell_regrown d2 _ _
            have g3 : ∀ d os, (grow (redrawn wr d) os).cell? ⟨ba, 1, none⟩ = some (.int .i64 a.pos) := fun _ _ => cell_regrown k1 _ _
            have g4 : ∀ d os, (grow (redrawn wr d) os).cell? ⟨ba, 0, none⟩ = some (.int .i64 a.kind) := fun _ _ => cell_regrown k0 _ _
            clear d0 d1 d2 k1 k0
            refine wp_region_quiet_below mixed (by kernel_rfl) ?_
            repeat (first | go_big_quiet_step ((fail)) | quiet_step ((fail)))
            refine wpQuiet_nil ?_
            intro _ hw'
            obtain ⟨⟨dq, osq⟩, hw''⟩ := hw'
            subst hw''
            have hb4 := below_regrown wr dq osq
            clear g0 g1 g2 g3 g4
            generalize grow (redrawn wr dq) osq = w4 at hb4 ⊢
            have HB4 := Lib.hid hb4
            clear hb4
            go_wp2_with fail
            go_roundw
            case rel => exact ⟨1 + 1, y, by omega, by go_num, He.out ▸ HS.out.below HB4.out, HC.out.two (Chg.of_below HB4.out), He.out ▸ HA.out, (HB4.out.block _ (Array.getElem?_eq_some_iff.1 HX.out).1).trans HX.out⟩
            case measure => simp [intOf]
      | 2, _ =>
        have hk0 : ((2 : Nat) : Int) = 2 := rfl
        have i0 := idx_2
        have d0 : wr.cell? ⟨B, 0, none⟩ = some (.bool false) := cell_of_row _ _ 0 _ _ _ HX.out
        have d1 : wr.cell? ⟨B, 1, none⟩ = some (.int .i64 r.lo) := cell_of_row _ _ 1 _ _ _ HX.out
        have d2 : wr.cell? ⟨B, 2, none⟩ = some (.int .i64 r.many) := cell_of_row _ _ 2 _ _ _ HX.out
        cases ho : s.askAt 2 with
        | none =>
          obtain rfl := N2.out ho
          have Ho := Lib.hid ho
          clear ho
          have He : Hid (wrongN r s (2 + 1) = wrongN r s 2) := show _ = _ from wrong1_none (wrongN_nn r s 2 2 Ho.out)
          go_wp2_with fail
          have g0 : ∀ d os, (grow (redrawn wr d) os).cell? ⟨B, 0, none⟩ = some (.bool false) := fun _ _ => cell_regrown d0 _ _
          have g1 : ∀ d os, (grow (redrawn wr d) os).cell? ⟨B, 1, none⟩ = some (.int .i64 r.lo) := fun _ _ => cell_regrown d1 _ _
          have g2 : ∀ d os, (grow (redrawn wr d) os).cell? ⟨B, 2, none⟩ = some (.int .i64 r.many) := fun _ _ => cell_regrown d2 _ _
          clear d0 d1 d2
          refine wp_region_quiet_below mixed (by kernel_rfl) ?_
          repeat (first | go_big_quiet_step ((fail)) | quiet_step ((fail)))
          refine wpQuiet_nil ?_
          intro _ hw'
          obtain ⟨⟨dq, osq⟩, hw''⟩ := hw'
          subst hw''
          have hb4 := below_regrown wr dq osq
          clear g0 g1 g2
          generalize grow (redrawn wr dq) osq = w4 at hb4 ⊢
          have HB4 := Lib.hid hb4
          clear hb4
          go_wp2_with fail
          go_roundw
          case rel => exact ⟨2 + 1, y, by omega, by go_num, He.out ▸ HS.out.below HB4.out, HC.out.two (Chg.of_below HB4.out), He.out ▸ HA.out, (HB4.out.block _ (Array.getElem?_eq_some_iff.1 HX.out).1).trans HX.out⟩
          case measure => simp [intOf]
        | some a =>
          obtain ⟨ba, rfl⟩ := Q2.out a ho
          have Ho : Hid ((wrongN r s 2).askAt 2 = some a) := show _ = _ from (wrongN_ge r s 2 2 (by omega)).trans ho
          have Hy : Hid (y.av 2 = .pointer (some ⟨ba, 0, none⟩)) := show _ = _ from ((HA.out 2 (by omega)).elim id (fun h => by rw [Ho.out] at h; cases h)).trans E2.out
          obtain ⟨lv, hrow, _, _⟩ := HS.out.askc (by omega) Ho.out Hy.out
          have k0 : wr.cell? ⟨ba, 0, none⟩ = some (.int .i64 a.kind) := cell_of_row _ _ 0 _ _ _ hrow
          have k1 : wr.cell? ⟨ba, 1, none⟩ = some (.int .i64 a.pos) := cell_of_row _ _ 1 _ _ _ hrow
          have Hok := Lib.hid (HI.out.ask 2 a ho)
          clear ho hrow
          by_cases h1 : a.kind = 1
          · rw [h1] at k0
            have H1k := Lib.hid h1
            clear h1
            cases hh : hasB r.lo r.many a.pos with
            | true =>
              have He : Hid (wrongN r s (2 + 1) = (wrongN r s 2).answer 2 noB 8) := show _ = _ from wrong1_hit Ho.out Hw.out H1k.out hh
              have Hh := Lib.hid hh
              clear hh
              have Hcall : Hid (∀ u, Calls Tryz.prog 68 #[spanV r.lo r.many, .int .i64 a.pos] u (Ret (.bool true) u)) := fun u => Hh.out ▸ has_any r.lo r.many a.pos u hr.1 hr.2 (by have := Hok.out.lo; omega) (by have := Hok.out.hi; omega)
              go_wp2_with fail
              have g0 : ∀ d os, (grow (redrawn wr d) os).cell? ⟨B, 0, none⟩ = some (.bool false) := fun _ _ => cell_regrown d0 _ _
              have g1 : ∀ d os, (grow (redrawn wr d) os).cell? ⟨B, 1, none⟩ = some (.int .i64 r.lo) := fun _ _ => cell_regrown d1 _ _
              have g2 : ∀ d os, (grow (redrawn wr d) os).cell? ⟨B, 2, none⟩ = some (.int .i64 r.many) := fun _ _ => cell_regrown d2 _ _
              have g3 : ∀ d os, (grow (redrawn wr d) os).cell? ⟨ba, 1, none⟩ = some (.int .i64 a.pos) := fun _ _ => cell_regrown k1 _ _
              have g4 : ∀ d os, (grow (redrawn wr d) os).cell? ⟨ba, 0, none⟩ = some (.int .i64 1) := fun _ _ => cell_regrown k0 _ _
              clear d0 d1 d2 k1 k0
              refine wp_region_quiet_below mixed (by kernel_rfl) ?_
              repeat (first | go_big_quiet_step ((exact Calls.rg (Hcall.out _))) | quiet_step ((exact Calls.rg (Hcall.out _))))
              refine wpQuiet_nil ?_
              intro _ hw'
              obtain ⟨⟨dq, osq⟩, hw''⟩ := hw'
              subst hw''
              have hb4 := below_regrown wr dq osq
              clear g0 g1 g2 g3 g4
              generalize grow (redrawn wr dq) osq = w4 at hb4 ⊢
              have HB4 := Lib.hid hb4
              clear hb4
              go_wp2_with fail
              refine (answer_any col w4 b bd N y _ 2 noB 8 (HS.out.below HB4.out) (by omega)).mono ?_
              rintro e w5 ⟨rfl, hs5, hst5⟩
              have Hst5 := Lib.hid hst5
              have HC5 := Lib.hid (hs5.chg (F := fun k => k = b) rfl)
              have HX5 : Hid (w5.heap[B]? = _) := show _ = _ from (hs5.block B Hne.out).trans ((HB4.out.block _ (Array.getElem?_eq_some_iff.1 HX.out).1).trans HX.out)
              clear hst5 hs5
              go_wp2_with fail
              go_roundw
              case rel => exact ⟨2 + 1, _, by omega, by go_num, He.out ▸ Hst5.out, (HC.out.two (Chg.of_below HB4.out)).two HC5.out, He.out ▸ Avs.ans HA.out HS.out.asks (by omega), HX5.out⟩
              case measure => simp [intOf]
            | false =>
              have He : Hid (wrongN r s (2 + 1) = wrongN r s 2) := show _ = _ from wrong1_miss Ho.out (fun h => by have h1 := h.2.2; rw [hh] at h1; cases h1)
              have Hh := Lib.hid hh
              clear hh
              have Hcall : Hid (∀ u, Calls Tryz.prog 68 #[spanV r.lo r.many, .int .i64 a.pos] u (Ret (.bool false) u)) := fun u => Hh.out ▸ has_any r.lo r.many a.pos u hr.1 hr.2 (by have := Hok.out.lo; omega) (by have := Hok.out.hi; omega)
              go_wp2_with fail
              have g0 : ∀ d os, (grow (redrawn wr d) os).cell? ⟨B, 0, none⟩ = some (.bool false) := fun _ _ => cell_regrown d0 _ _
              have g1 : ∀ d os, (grow (redrawn wr d) os).cell? ⟨B, 1, none⟩ = some (.int .i64 r.lo) := fun _ _ => cell_regrown d1 _ _
              have g2 : ∀ d os, (grow (redrawn wr d) os).cell? ⟨B, 2, none⟩ = some (.int .i64 r.many) := fun _ _ => cell_regrown d2 _ _
              have g3 : ∀ d os, (grow (redrawn wr d) os).cell? ⟨ba, 1, none⟩ = some (.int .i64 a.pos) := fun _ _ => cell_regrown k1 _ _
              have g4 : ∀ d os, (grow (redrawn wr d) os).cell? ⟨ba, 0, none⟩ = some (.int .i64 1) := fun _ _ => cell_regrown k0 _ _
              clear d0 d1 d2 k1 k0
              refine wp_region_quiet_below mixed (by kernel_rfl) ?_
              repeat (first | go_big_quiet_step ((exact Calls.rg (Hcall.out _))) | quiet_step ((exact Calls.rg (Hcall.out _))))
              refine wpQuiet_nil ?_
              intro _ hw'
              obtain ⟨⟨dq, osq⟩, hw''⟩ := hw'
              subst hw''
              have hb4 := below_regrown wr dq osq
              clear g0 g1 g2 g3 g4
              generalize grow (redrawn wr dq) osq = w4 at hb4 ⊢
              have HB4 := Lib.hid hb4
              clear hb4
              go_wp2_with fail
              go_roundw
              case rel => exact ⟨2 + 1, y, by omega, by go_num, He.out ▸ HS.out.below HB4.out, HC.out.two (Chg.of_below HB4.out), He.out ▸ HA.out, (HB4.out.block _ (Array.getElem?_eq_some_iff.1 HX.out).1).trans HX.out⟩
              case measure => simp [intOf]
          · have h2 : (a.kind == 1) = false := by simp only [beq_eq_false_iff_ne]; exact h1
            have He : Hid (wrongN r s (2 + 1) = wrongN r s 2) := show _ = _ from wrong1_miss Ho.out (fun h => h1 h.2.1)
            clear h1
            go_wp2_with fail
            have g0 : ∀ d os, (grow (redrawn wr d) os).cell? ⟨B, 0, none⟩ = some (.bool false) := fun _ _ => cell_regrown d0 _ _
            have g1 : ∀ d os, (grow (redrawn wr d) os).cell? ⟨B, 1, none⟩ = some (.int .i64 r.lo) := fun _ _ => cell_regrown d1 _ _
            have g2 : ∀ d os, (grow (redrawn wr d) os).cell? ⟨B, 2, none⟩ = some (.int .i64 r.many) := fun _ _ => cell_regrown d2 _ _
            have g3 : ∀ d os, (grow (redrawn wr d) os).cell? ⟨ba, 1, none⟩ = some (.int .i64 a.pos) := fun _ _ => cell_regrown k1 _ _
            have g4 : ∀ d os, (grow (redrawn wr d) os).cell? ⟨ba, 0, none⟩ = some (.int .i64 a.kind) := fun _ _ => cell_regrown k0 _ _
            clear d0 d1 d2 k1 k0
            refine wp_region_quiet_below mixed (by kernel_rfl) ?_
            repeat (first | go_big_quiet_step ((fail)) | quiet_step ((fail)))
            refine wpQuiet_nil ?_
            intro _ hw'
            obtain ⟨⟨dq, osq⟩, hw''⟩ := hw'
            subst hw''
            have hb4 := below_regrown wr dq osq
            clear g0 g1 g2 g3 g4
            generalize grow (redrawn wr dq) osq = w4 at hb4 ⊢
            have HB4 := Lib.hid hb4
            clear hb4
            go_wp2_with fail
            go_roundw
            case rel => exact ⟨2 + 1, y, by omega, by go_num, He.out ▸ HS.out.below HB4.out, HC.out.two (Chg.of_below HB4.out), He.out ▸ HA.out, (HB4.out.block _ (Array.getElem?_eq_some_iff.1 HX.out).1).trans HX.out⟩
            case measure => simp [intOf]
    · obtain rfl : k = 3 := by omega
      have hi : ((3 : Nat) : Int) = 3 := rfl
      go_wp2_with fail
      go_end0
      rw [HW3.out]
      exact ⟨_, rfl, HS.out, HC.out, HA.out⟩
set_option maxRecDepth 100000 in
theorem wrong_any (col : Nat → Nat) (w : World) (b bd N : Nat) (x : Sv) (s : St) (S : Nat → Prop) (rv : Value) (r : Rq) (h : StAt Ts col w b bd N x s) (hI : Inv s) (hr : ReqAt S w rv r) (hok : ReqOk r) :
    Calls Tryz.prog 50 #[.pointer (some ⟨b, 0, none⟩), rv] w (Ret2 Ts col w b bd N x (s.wrong r) (.tuple #[])) := by
  obtain ⟨Ad, cd, At, ct, rfl, _, _, _, _, _, _, _⟩ := hr.opened
  obtain ⟨a1, a2, a3, a4, a5⟩ := hok.span
  unfold rqV
  rcases Bool.eq_false_or_eq_true r.write with hw | hw
  · rw [hw]; exact wrong_true col w b bd N x s r hw Ad At cd ct h hI ⟨by omega, by omega⟩
  · rw [hw]; exact wrong_false col w b bd N x s r hw Ad At cd ct h hI ⟨by omega, by omega⟩
end Go.Proofs.YtinknleckppciaaGreatDoor
