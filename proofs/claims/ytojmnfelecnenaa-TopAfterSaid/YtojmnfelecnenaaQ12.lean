/- wrong: who reads a sector that can't be read is told. gen_stwrong.py prints this text. End: a request that the disk ends, or has a fault in; the cases in which nothing comes back. End: a request that writes is done. End: a request that reads is done; End, whatever comes of it. gen_stend3.py prints this text. -/
import Derived.Test.YtojmnfelecnenaaQ10
import Derived.Test.YtojmnfelecnenaaQ1
import Derived.Test.YtojmnfelecnenaaQ8
namespace Go.Proofs.Ytojmnfelecnenaa
set_option linter.unusedSimpArgs false
set_option linter.unusedVariables false
open Go.RowKit Go.Sort

theorem wrong1_hit {s : St} {c : Nat} {a : Ak} {r : Rq} (h : s.askAt c = some a) (hw : r.write = false) (hk : a.kind = 1) (hp : hasB r.lo r.many a.pos = true) : St.wrong1 r s c = s.answer c noB 8 := by unfold St.wrong1; rw [h]; simp [hk, hp, hw]
theorem wrong1_miss {s : St} {c : Nat} {a : Ak} {r : Rq} (h : s.askAt c = some a) (hn : ¬ (r.write = false ∧ a.kind = 1 ∧ hasB r.lo r.many a.pos = true)) : St.wrong1 r s c = s := by unfold St.wrong1; rw [h]; exact if_neg hn
/-- The first clients are told. -/
def wrongN (r : Rq) (s : St) : Nat → St
  | 0 => s
  | n + 1 => St.wrong1 r (wrongN r s n) n
theorem wrongN_3 (r : Rq) (s : St) : wrongN r { s with dead := s.dead || r.write } 3 = s.wrong r := rfl
theorem wrongN_ge (r : Rq) (s : St) : ∀ (n j : Nat), n ≤ j → (wrongN r s n).askAt j = s.askAt j
  | 0, _, _ => rfl
  | n + 1, j, h => by rw [wrongN, wrong1_ne _ (by omega), wrongN_ge r s n j (by omega)]
theorem wrong1_nn (r : Rq) (s : St) (c : Nat) {j : Nat} (h : s.askAt j = none) : (St.wrong1 r s c).askAt j = none := by
  by_cases hj : j = c
  · subst hj; rw [wrong1_none h]; exact h
  · rw [wrong1_ne s hj]; exact h
theorem wrongN_nn (r : Rq) (s : St) : ∀ (n j : Nat), s.askAt j = none → (wrongN r s n).askAt j = none
  | 0, _, h => h
  | n + 1, j, h => by rw [wrongN]; exact wrong1_nn _ _ _ (wrongN_nn r s n j h)
set_option maxRecDepth 100000 in
set_option maxHeartbeats 4000000 in
theorem wrong_true (col : Nat → Nat) (w : World) (b bd N : Nat) (x : Sv) (s : St) (r : Rq) (hw : r.write = true) (Ad At : Option Addr) (cd ct : Nat) (h : StAt Ts col w b bd N x s) (hI : Inv s) (hr : 0 ≤ r.lo ∧ r.lo ≤ 40) :
    Calls Try.prog 58 #[.pointer (some ⟨b, 0, none⟩), .agg #[.bool true, .int .i64 r.lo, .int .i64 r.many, .slice Ad r.data.length cd, .slice At r.tags.length ct, .int .i64 r.born]] w (Ret2 Ts col w b bd N x (s.wrong r) (.tuple #[])) := by
  obtain ⟨p0, e0, n0, q0⟩ := h.ptr 0 (by omega)
  obtain ⟨p1, e1, n1, q1⟩ := h.ptr 1 (by omega)
  obtain ⟨p2, e2, n2, q2⟩ := h.ptr 2 (by omega)
  have hb1 := (Below.refl w.heap.size w).alloc (Nat.le_refl _) (.cells #[.bool true, .int .i64 r.lo, .int .i64 r.many, .slice Ad r.data.length cd, .slice At r.tags.length ct, .int .i64 r.born] 44)
  have H1 := Lib.hid (h.below hb1)
  have hbl := h.bl
  obtain ⟨B, hB⟩ : ∃ B, w.heap.size = B := ⟨_, rfl⟩
  have HBx : Hid ((w.alloc (.cells #[.bool true, .int .i64 r.lo, .int .i64 r.many, .slice Ad r.data.length cd, .slice At r.tags.length ct, .int .i64 r.born] 44)).heap[B]? = some (.cells #[.bool true, .int .i64 r.lo, .int .i64 r.many, .slice Ad r.data.length cd, .slice At r.tags.length ct, .int .i64 r.born] 44 (0, 0))) := show _ = _ from hB ▸ heap_alloc_new w _
  have c20 : (w.alloc (.cells #[.bool true, .int .i64 r.lo, .int .i64 r.many, .slice Ad r.data.length cd, .slice At r.tags.length ct, .int .i64 r.born] 44)).cell? ⟨b, 20, none⟩ = some (.bool s.dead) := H1.out.cell 20
  have f20 : (w.alloc (.cells #[.bool true, .int .i64 r.lo, .int .i64 r.many, .slice Ad r.data.length cd, .slice At r.tags.length ct, .int .i64 r.born] 44)).frozen? ⟨b, 20, none⟩ = false := H1.out.frozen 20
  have d0 : (w.alloc (.cells #[.bool true, .int .i64 r.lo, .int .i64 r.many, .slice Ad r.data.length cd, .slice At r.tags.length ct, .int .i64 r.born] 44)).cell? ⟨B, 0, none⟩ = some (.bool true) := cell_of_row _ _ 0 _ _ _ HBx.out
  have H2 : Hid (StAt Ts col ((w.alloc (.cells #[.bool true, .int .i64 r.lo, .int .i64 r.many, .slice Ad r.data.length cd, .slice At r.tags.length ct, .int .i64 r.born] 44)).setCell ⟨b, 20, none⟩ (.bool true)) b bd N x { s with dead := true }) := show StAt _ _ _ _ _ _ _ _ from H1.out.deadd (Same1.refl.setCell 20 (.bool true)) (n := true) (heap_setCell_same _ _ 20 _ _ _ H1.out.row)
  have HC2 : Hid (Chg (fun k => k = b) w ((w.alloc (.cells #[.bool true, .int .i64 r.lo, .int .i64 r.many, .slice Ad r.data.length cd, .slice At r.tags.length ct, .int .i64 r.born] 44)).setCell ⟨b, 20, none⟩ (.bool true))) := show Chg _ _ _ from (Chg.of_below hb1).two (Chg.refl.setCell (F := fun k => k = b) (.inl rfl) _)
  have HBx2 : Hid (((w.alloc (.cells #[.bool true, .int .i64 r.lo, .int .i64 r.many, .slice Ad r.data.length cd, .slice At r.tags.length ct, .int .i64 r.born] 44)).setCell ⟨b, 20, none⟩ (.bool true)).heap[B]? = some (.cells #[.bool true, .int .i64 r.lo, .int .i64 r.many, .slice Ad r.data.length cd, .slice At r.tags.length ct, .int .i64 r.born] 44 (0, 0))) := show _ = _ from (heap_setCell_other _ _ _ _ (by simp; omega)).trans HBx.out
  have HR : Hid (((w.alloc (.cells #[.bool true, .int .i64 r.lo, .int .i64 r.many, .slice Ad r.data.length cd, .slice At r.tags.length ct, .int .i64 r.born] 44)).setCell ⟨b, 20, none⟩ (.bool true)).rangeAt b 11 [.pointer p0, .pointer p1, .pointer p2]) := asks_range H2.out e0 e1 e2
  have E0 := Lib.hid e0
  have E1 := Lib.hid e1
  have E2 := Lib.hid e2
  have N0 := Lib.hid n0
  have N1 := Lib.hid n1
  have N2 := Lib.hid n2
  have Q0 := Lib.hid q0
  have Q1 := Lib.hid q1
  have Q2 := Lib.hid q2
  have HI := Lib.hid hI
  have Hw := Lib.hid hw
  have Hne : Hid (B ≠ b) := show _ ≠ _ by omega
  have Hs : Hid ((Try.prog.info? 76).map (·.size) = some 3) := show _ = _ by kernel_rfl
  have HW3 : Hid (s.wrong r = wrongN r { s with dead := true } 3) := show _ = _ by
    have e : ({ s with dead := s.dead || r.write } : St) = { s with dead := true } := by rw [hw]; simp
    rw [← wrongN_3, e]
  clear h hI e0 e1 e2 n0 n1 n2 q0 q1 q2 hw hb1
  go_enter Try.func58, Try.ntmps58
  go_wp2_with (refine wpList_load_mid rfl 76 (.tmp 13) rfl b 11 rfl [.pointer p0, .pointer p1, .pointer p2] _ HR.out Try.underlying76 rfl Hs.out ?_)
  clear c20 f20 d0
  clear hbl hB H1 HBx HR
  generalize World.setCell _ _ _ = W at H2 HC2 HBx2 ⊢
  go_loopw [15] (fun i wr => ∃ (k : Nat) (y : Sv), k ≤ 3 ∧ i = .int .i64 k ∧ Hid (StAt Ts col wr b bd N y (wrongN r { s with dead := true } k)) ∧ Hid (Chg (fun k => k = b) w wr) ∧ Hid (Avs x y (wrongN r { s with dead := true } k)) ∧ Hid (wr.heap[B]? = some (.cells #[.bool true, .int .i64 r.lo, .int .i64 r.many, .slice Ad r.data.length cd, .slice At r.tags.length ct, .int .i64 r.born] 44 (0, 0)))) (fun i _ => 3 - (intOf i).toNat)
  case atStart => exact ⟨0, x, by omega, rfl, H2.out, HC2.out, Avs.refl, HBx2.out⟩
  case round =>
    obtain ⟨k, y, hk, rfl, HS, HC, HA, HX⟩ := hrel
    by_cases h3 : k < 3
    · match k, h3 with
      | 0, _ =>
        have hk0 : ((0 : Nat) : Int) = 0 := rfl
        have i0 := idx_0
        have d0 : wr.cell? ⟨B, 0, none⟩ = some (.bool true) := cell_of_row _ _ 0 _ _ _ HX.out
        have d1 : wr.cell? ⟨B, 1, none⟩ = some (.int .i64 r.lo) := cell_of_row _ _ 1 _ _ _ HX.out
        have d2 : wr.cell? ⟨B, 2, none⟩ = some (.int .i64 r.many) := cell_of_row _ _ 2 _ _ _ HX.out
        cases ho : s.askAt 0 with
        | none =>
          obtain rfl := N0.out ho
          have Ho := Lib.hid ho
          clear ho
          have He : Hid (wrongN r { s with dead := true } (0 + 1) = wrongN r { s with dead := true } 0) := show _ = _ from wrong1_none (wrongN_nn r { s with dead := true } 0 0 Ho.out)
          go_wp2_with fail
          have g0 : ∀ d os, (grow (redrawn wr d) os).cell? ⟨B, 0, none⟩ = some (.bool true) := fun _ _ => cell_regrown d0 _ _
          have g1 : ∀ d os, (grow (redrawn wr d) os).cell? ⟨B, 1, none⟩ = some (.int .i64 r.lo) := fun _ _ => cell_regrown d1 _ _
          have g2 : ∀ d os, (grow (redrawn wr d) os).cell? ⟨B, 2, none⟩ = some (.int .i64 r.many) := fun _ _ => cell_regrown d2 _ _
          clear d0 d1 d2
          refine wp_region_quiet_below mixed (by kernel_rfl) ?_
          repeat (first | go_big_quiet_step ((fail)) | quiet_step ((fail)))
          refine wpQuiet_nil ?_
          intro _ hw'
          obtain ⟨⟨dq, osq⟩, hw''⟩ := hw'
          subst hw''
          have hb4 := below_regrown wr dq osq
          clear g0 g1 g2
          generalize grow (redrawn wr dq) osq = w4 at hb4 ⊢
          have HB4 := Lib.hid hb4
          clear hb4
          go_wp2_with fail
          go_roundw
          case rel => exact ⟨0 + 1, y, by omega, by go_num, He.out ▸ HS.out.below HB4.out, HC.out.two (Chg.of_below HB4.out), He.out ▸ HA.out, (HB4.out.block _ (Array.getElem?_eq_some_iff.1 HX.out).1).trans HX.out⟩
          case measure => simp [intOf]
        | some a =>
          obtain ⟨ba, rfl⟩ := Q0.out a ho
          have Ho : Hid ((wrongN r { s with dead := true } 0).askAt 0 = some a) := show _ = _ from (wrongN_ge r { s with dead := true } 0 0 (by omega)).trans ho
          have Hy : Hid (y.av 0 = .pointer (some ⟨ba, 0, none⟩)) := show _ = _ from ((HA.out 0 (by omega)).elim id (fun h => by rw [Ho.out] at h; cases h)).trans E0.out
          obtain ⟨lv, hrow, _, _⟩ := HS.out.askc (by omega) Ho.out Hy.out
          have k0 : wr.cell? ⟨ba, 0, none⟩ = some (.int .i64 a.kind) := cell_of_row _ _ 0 _ _ _ hrow
          have k1 : wr.cell? ⟨ba, 1, none⟩ = some (.int .i64 a.pos) := cell_of_row _ _ 1 _ _ _ hrow
          have Hok := Lib.hid (HI.out.ask 0 a ho)
          clear ho hrow
          have He : Hid (wrongN r { s with dead := true } (0 + 1) = wrongN r { s with dead := true } 0) := show _ = _ from wrong1_miss Ho.out (fun h => by have h1 := h.1; rw [Hw.out] at h1; cases h1)
          go_wp2_with fail
          have g0 : ∀ d os, (grow (redrawn wr d) os).cell? ⟨B, 0, none⟩ = some (.bool true) := fun _ _ => cell_regrown d0 _ _
          have g1 : ∀ d os, (grow (redrawn wr d) os).cell? ⟨B, 1, none⟩ = some (.int .i64 r.lo) := fun _ _ => cell_regrown d1 _ _
          have g2 : ∀ d os, (grow (redrawn wr d) os).cell? ⟨B, 2, none⟩ = some (.int .i64 r.many) := fun _ _ => cell_regrown d2 _ _
          have g3 : ∀ d os, (grow (redrawn wr d) os).cell? ⟨ba, 1, none⟩ = some (.int .i64 a.pos) := fun _ _ => cell_regrown k1 _ _
          have g4 : ∀ d os, (grow (redrawn wr d) os).cell? ⟨ba, 0, none⟩ = some (.int .i64 a.kind) := fun _ _ => cell_regrown k0 _ _
          clear d0 d1 d2 k1 k0
          refine wp_region_quiet_below mixed (by kernel_rfl) ?_
          repeat (first | go_big_quiet_step ((fail)) | quiet_step ((fail)))
          refine wpQuiet_nil ?_
          intro _ hw'
          obtain ⟨⟨dq, osq⟩, hw''⟩ := hw'
          subst hw''
          have hb4 := below_regrown wr dq osq
          clear g0 g1 g2 g3 g4
          generalize grow (redrawn wr dq) osq = w4 at hb4 ⊢
          have HB4 := Lib.hid hb4
          clear hb4
          go_wp2_with fail
          go_roundw
          case rel => exact ⟨0 + 1, y, by omega, by go_num, He.out ▸ HS.out.below HB4.out, HC.out.two (Chg.of_below HB4.out), He.out ▸ HA.out, (HB4.out.block _ (Array.getElem?_eq_some_iff.1 HX.out).1).trans HX.out⟩
          case measure => simp [intOf]
      | 1, _ =>
        have hk0 : ((1 : Nat) : Int) = 1 := rfl
        have i0 := idx_1
        have d0 : wr.cell? ⟨B, 0, none⟩ = some (.bool true) := cell_of_row _ _ 0 _ _ _ HX.out
        have d1 : wr.cell? ⟨B, 1, none⟩ = some (.int .i64 r.lo) := cell_of_row _ _ 1 _ _ _ HX.out
        have d2 : wr.cell? ⟨B, 2, none⟩ = some (.int .i64 r.many) := cell_of_row _ _ 2 _ _ _ HX.out
        cases ho : s.askAt 1 with
        | none =>
          obtain rfl := N1.out ho
          have Ho := Lib.hid ho
          clear ho
          have He : Hid (wrongN r { s with dead := true } (1 + 1) = wrongN r { s with dead := true } 1) := show _ = _ from wrong1_none (wrongN_nn r { s with dead := true } 1 1 Ho.out)
          go_wp2_with fail
          have g0 : ∀ d os, (grow (redrawn wr d) os).cell? ⟨B, 0, none⟩ = some (.bool true) := fun _ _ => cell_regrown d0 _ _
          have g1 : ∀ d os, (grow (redrawn wr d) os).cell? ⟨B, 1, none⟩ = some (.int .i64 r.lo) := fun _ _ => cell_regrown d1 _ _
          have g2 : ∀ d os, (grow (redrawn wr d) os).cell? ⟨B, 2, none⟩ = some (.int .i64 r.many) := fun _ _ => cell_regrown d2 _ _
          clear d0 d1 d2
          refine wp_region_quiet_below mixed (by kernel_rfl) ?_
          repeat (first | go_big_quiet_step ((fail)) | quiet_step ((fail)))
          refine wpQuiet_nil ?_
          intro _ hw'
          obtain ⟨⟨dq, osq⟩, hw''⟩ := hw'
          subst hw''
          have hb4 := below_regrown wr dq osq
          clear g0 g1 g2
          generalize grow (redrawn wr dq) osq = w4 at hb4 ⊢
          have HB4 := Lib.hid hb4
          clear hb4
          go_wp2_with fail
          go_roundw
          case rel => exact ⟨1 + 1, y, by omega, by go_num, He.out ▸ HS.out.below HB4.out, HC.out.two (Chg.of_below HB4.out), He.out ▸ HA.out, (HB4.out.block _ (Array.getElem?_eq_some_iff.1 HX.out).1).trans HX.out⟩
          case measure => simp [intOf]
        | some a =>
          obtain ⟨ba, rfl⟩ := Q1.out a ho
          have Ho : Hid ((wrongN r { s with dead := true } 1).askAt 1 = some a) := show _ = _ from (wrongN_ge r { s with dead := true } 1 1 (by omega)).trans ho
          have Hy : Hid (y.av 1 = .pointer (some ⟨ba, 0, none⟩)) := show _ = _ from ((HA.out 1 (by omega)).elim id (fun h => by rw [Ho.out] at h; cases h)).trans E1.out
          obtain ⟨lv, hrow, _, _⟩ := HS.out.askc (by omega) Ho.out Hy.out
          have k0 : wr.cell? ⟨ba, 0, none⟩ = some (.int .i64 a.kind) := cell_of_row _ _ 0 _ _ _ hrow
          have k1 : wr.cell? ⟨ba, 1, none⟩ = some (.int .i64 a.pos) := cell_of_row _ _ 1 _ _ _ hrow
          have Hok := Lib.hid (HI.out.ask 1 a ho)
          clear ho hrow
          have He : Hid (wrongN r { s with dead := true } (1 + 1) = wrongN r { s with dead := true } 1) := show _ = _ from wrong1_miss Ho.out (fun h => by have h1 := h.1; rw [Hw.out] at h1; cases h1)
          go_wp2_with fail
          have g0 : ∀ d os, (grow (redrawn wr d) os).cell? ⟨B, 0, none⟩ = some (.bool true) := fun _ _ => cell_regrown d0 _ _
          have g1 : ∀ d os, (grow (redrawn wr d) os).cell? ⟨B, 1, none⟩ = some (.int .i64 r.lo) := fun _ _ => cell_regrown d1 _ _
          have g2 : ∀ d os, (grow (redrawn wr d) os).cell? ⟨B, 2, none⟩ = some (.int .i64 r.many) := fun _ _ => cell_regrown d2 _ _
          have g3 : ∀ d os, (grow (redrawn wr d) os).cell? ⟨ba, 1, none⟩ = some (.int .i64 a.pos) := fun _ _ => cell_regrown k1 _ _
          have g4 : ∀ d os, (grow (redrawn wr d) os).cell? ⟨ba, 0, none⟩ = some (.int .i64 a.kind) := fun _ _ => cell_regrown k0 _ _
          clear d0 d1 d2 k1 k0
          refine wp_region_quiet_below mixed (by kernel_rfl) ?_
          repeat (first | go_big_quiet_step ((fail)) | quiet_step ((fail)))
          refine wpQuiet_nil ?_
          intro _ hw'
          obtain ⟨⟨dq, osq⟩, hw''⟩ := hw'
          subst hw''
          have hb4 := below_regrown wr dq osq
          clear g0 g1 g2 g3 g4
          generalize grow (redrawn wr dq) osq = w4 at hb4 ⊢
          have HB4 := Lib.hid hb4
          clear hb4
          go_wp2_with fail
          go_roundw
          case rel => exact ⟨1 + 1, y, by omega, by go_num, He.out ▸ HS.out.below HB4.out, HC.out.two (Chg.of_below HB4.out), He.out ▸ HA.out, (HB4.out.block _ (Array.getElem?_eq_some_iff.1 HX.out).1).trans HX.out⟩
          case measure => simp [intOf]
      | 2, _ =>
        have hk0 : ((2 : Nat) : Int) = 2 := rfl
        have i0 := idx_2
        have d0 : wr.cell? ⟨B, 0, none⟩ = some (.bool true) := cell_of_row _ _ 0 _ _ _ HX.out
        have d1 : wr.cell? ⟨B, 1, none⟩ = some (.int .i64 r.lo) := cell_of_row _ _ 1 _ _ _ HX.out
        have d2 : wr.cell? ⟨B, 2, none⟩ = some (.int .i64 r.many) := cell_of_row _ _ 2 _ _ _ HX.out
        cases ho : s.askAt 2 with
        | none =>
          obtain rfl := N2.out ho
          have Ho := Lib.hid ho
          clear ho
          have He : Hid (wrongN r { s with dead := true } (2 + 1) = wrongN r { s with dead := true } 2) := show _ = _ from wrong1_none (wrongN_nn r { s with dead := true } 2 2 Ho.out)
          go_wp2_with fail
          have g0 : ∀ d os, (grow (redrawn wr d) os).cell? ⟨B, 0, none⟩ = some (.bool true) := fun _ _ => cell_regrown d0 _ _
          have g1 : ∀ d os, (grow (redrawn wr d) os).cell? ⟨B, 1, none⟩ = some (.int .i64 r.lo) := fun _ _ => cell_regrown d1 _ _
          have g2 : ∀ d os, (grow (redrawn wr d) os).cell? ⟨B, 2, none⟩ = some (.int .i64 r.many) := fun _ _ => cell_regrown d2 _ _
          clear d0 d1 d2
          refine wp_region_quiet_below mixed (by kernel_rfl) ?_
          repeat (first | go_big_quiet_step ((fail)) | quiet_step ((fail)))
          refine wpQuiet_nil ?_
          intro _ hw'
          obtain ⟨⟨dq, osq⟩, hw''⟩ := hw'
          subst hw''
          have hb4 := below_regrown wr dq osq
          clear g0 g1 g2
          generalize grow (redrawn wr dq) osq = w4 at hb4 ⊢
          have HB4 := Lib.hid hb4
          clear hb4
          go_wp2_with fail
          go_roundw
          case rel => exact ⟨2 + 1, y, by omega, by go_num, He.out ▸ HS.out.below HB4.out, HC.out.two (Chg.of_below HB4.out), He.out ▸ HA.out, (HB4.out.block _ (Array.getElem?_eq_some_iff.1 HX.out).1).trans HX.out⟩
          case measure => simp [intOf]
        | some a =>
          obtain ⟨ba, rfl⟩ := Q2.out a ho
          have Ho : Hid ((wrongN r { s with dead := true } 2).askAt 2 = some a) := show _ = _ from (wrongN_ge r { s with dead := true } 2 2 (by omega)).trans ho
          have Hy : Hid (y.av 2 = .pointer (some ⟨ba, 0, none⟩)) := show _ = _ from ((HA.out 2 (by omega)).elim id (fun h => by rw [Ho.out] at h; cases h)).trans E2.out
          obtain ⟨lv, hrow, _, _⟩ := HS.out.askc (by omega) Ho.out Hy.out
          have k0 : wr.cell? ⟨ba, 0, none⟩ = some (.int .i64 a.kind) := cell_of_row _ _ 0 _ _ _ hrow
          have k1 : wr.cell? ⟨ba, 1, none⟩ = some (.int .i64 a.pos) := cell_of_row _ _ 1 _ _ _ hrow
          have Hok := Lib.hid (HI.out.ask 2 a ho)
          clear ho hrow
          have He : Hid (wrongN r { s with dead := true } (2 + 1) = wrongN r { s with dead := true } 2) := show _ = _ from wrong1_miss Ho.out (fun h => by have h1 := h.1; rw [Hw.out] at h1; cases h1)
          go_wp2_with fail
          have g0 : ∀ d os, (grow (redrawn wr d) os).cell? ⟨B, 0, none⟩ = some (.bool true) := fun _ _ => cell_regrown d0 _ _
          have g1 : ∀ d os, (grow (redrawn wr d) os).cell? ⟨B, 1, none⟩ = some (.int .i64 r.lo) := fun _ _ => cell_regrown d1 _ _
          have g2 : ∀ d os, (grow (redrawn wr d) os).cell? ⟨B, 2, none⟩ = some (.int .i64 r.many) := fun _ _ => cell_regrown d2 _ _
          have g3 : ∀ d os, (grow (redrawn wr d) os).cell? ⟨ba, 1, none⟩ = some (.int .i64 a.pos) := fun _ _ => cell_regrown k1 _ _
          have g4 : ∀ d os, (grow (redrawn wr d) os).cell? ⟨ba, 0, none⟩ = some (.int .i64 a.kind) := fun _ _ => cell_regrown k0 _ _
          clear d0 d1 d2 k1 k0
          refine wp_region_quiet_below mixed (by kernel_rfl) ?_
          repeat (first | go_big_quiet_step ((fail)) | quiet_step ((fail)))
          refine wpQuiet_nil ?_
          intro _ hw'
          obtain ⟨⟨dq, osq⟩, hw''⟩ := hw'
          subst hw''
          have hb4 := below_regrown wr dq osq
          clear g0 g1 g2 g3 g4
          generalize grow (redrawn wr dq) osq = w4 at hb4 ⊢
          have HB4 := Lib.hid hb4
          clear hb4
          go_wp2_with fail
          go_roundw
          case rel => exact ⟨2 + 1, y, by omega, by go_num, He.out ▸ HS.out.below HB4.out, HC.out.two (Chg.of_below HB4.out), He.out ▸ HA.out, (HB4.out.block _ (Array.getElem?_eq_some_iff.1 HX.out).1).trans HX.out⟩
          case measure => simp [intOf]
    · obtain rfl : k = 3 := by omega
      have hi : ((3 : Nat) : Int) = 3 := rfl
      go_wp2_with fail
      go_end0
      rw [HW3.out]
      exact ⟨_, rfl, HS.out, HC.out, HA.out⟩
set_option maxRecDepth 100000 in
set_option maxHeartbeats 4000000 in
theorem wrong_false (col : Nat → Nat) (w : World) (b bd N : Nat) (x : Sv) (s : St) (r : Rq) (hw : r.write = false) (Ad At : Option Addr) (cd ct : Nat) (h : StAt Ts col w b bd N x s) (hI : Inv s) (hr : 0 ≤ r.lo ∧ r.lo ≤ 40) :
    Calls Try.prog 58 #[.pointer (some ⟨b, 0, none⟩), .agg #[.bool false, .int .i64 r.lo, .int .i64 r.many, .slice Ad r.data.length cd, .slice At r.tags.length ct, .int .i64 r.born]] w (Ret2 Ts col w b bd N x (s.wrong r) (.tuple #[])) := by
  obtain ⟨p0, e0, n0, q0⟩ := h.ptr 0 (by omega)
  obtain ⟨p1, e1, n1, q1⟩ := h.ptr 1 (by omega)
  obtain ⟨p2, e2, n2, q2⟩ := h.ptr 2 (by omega)
  have hb1 := (Below.refl w.heap.size w).alloc (Nat.le_refl _) (.cells #[.bool false, .int .i64 r.lo, .int .i64 r.many, .slice Ad r.data.length cd, .slice At r.tags.length ct, .int .i64 r.born] 44)
  have H1 := Lib.hid (h.below hb1)
  have hbl := h.bl
  obtain ⟨B, hB⟩ : ∃ B, w.heap.size = B := ⟨_, rfl⟩
  have HBx : Hid ((w.alloc (.cells #[.bool false, .int .i64 r.lo, .int .i64 r.many, .slice Ad r.data.length cd, .slice At r.tags.length ct, .int .i64 r.born] 44)).heap[B]? = some (.cells #[.bool false, .int .i64 r.lo, .int .i64 r.many, .slice Ad r.data.length cd, .slice At r.tags.length ct, .int .i64 r.born] 44 (0, 0))) := show _ = _ from hB ▸ heap_alloc_new w _
  have c20 : (w.alloc (.cells #[.bool false, .int .i64 r.lo, .int .i64 r.many, .slice Ad r.data.length cd, .slice At r.tags.length ct, .int .i64 r.born] 44)).cell? ⟨b, 20, none⟩ = some (.bool s.dead) := H1.out.cell 20
  have f20 : (w.alloc (.cells #[.bool false, .int .i64 r.lo, .int .i64 r.many, .slice Ad r.data.length cd, .slice At r.tags.length ct, .int .i64 r.born] 44)).frozen? ⟨b, 20, none⟩ = false := H1.out.frozen 20
  have d0 : (w.alloc (.cells #[.bool false, .int .i64 r.lo, .int .i64 r.many, .slice Ad r.data.length cd, .slice At r.tags.length ct, .int .i64 r.born] 44)).cell? ⟨B, 0, none⟩ = some (.bool false) := cell_of_row _ _ 0 _ _ _ HBx.out
  have H2 : Hid (StAt Ts col (w.alloc (.cells #[.bool false, .int .i64 r.lo, .int .i64 r.many, .slice Ad r.data.length cd, .slice At r.tags.length ct, .int .i64 r.born] 44)) b bd N x s) := show StAt _ _ _ _ _ _ _ _ from H1.out
  have HC2 : Hid (Chg (fun k => k = b) w (w.alloc (.cells #[.bool false, .int .i64 r.lo, .int .i64 r.many, .slice Ad r.data.length cd, .slice At r.tags.length ct, .int .i64 r.born] 44))) := show Chg _ _ _ from Chg.of_below hb1
  have HBx2 : Hid ((w.alloc (.cells #[.bool false, .int .i64 r.lo, .int .i64 r.many, .slice Ad r.data.length cd, .slice At r.tags.length ct, .int .i64 r.born] 44)).heap[B]? = some (.cells #[.bool false, .int .i64 r.lo, .int .i64 r.many, .slice Ad r.data.length cd, .slice At r.tags.length ct, .int .i64 r.born] 44 (0, 0))) := show _ = _ from HBx.out
  have HR : Hid ((w.alloc (.cells #[.bool false, .int .i64 r.lo, .int .i64 r.many, .slice Ad r.data.length cd, .slice At r.tags.length ct, .int .i64 r.born] 44)).rangeAt b 11 [.pointer p0, .pointer p1, .pointer p2]) := asks_range H2.out e0 e1 e2
  have E0 := Lib.hid e0
  have E1 := Lib.hid e1
  have E2 := Lib.hid e2
  have N0 := Lib.hid n0
  have N1 := Lib.hid n1
  have N2 := Lib.hid n2
  have Q0 := Lib.hid q0
  have Q1 := Lib.hid q1
  have Q2 := Lib.hid q2
  have HI := Lib.hid hI
  have Hw := Lib.hid hw
  have Hne : Hid (B ≠ b) := show _ ≠ _ by omega
  have Hs : Hid ((Try.prog.info? 76).map (·.size) = some 3) := show _ = _ by kernel_rfl
  have HW3 : Hid (s.wrong r = wrongN r s 3) := show _ = _ by
    have e : ({ s with dead := s.dead || r.write } : St) = s := by rw [hw]; simp
    rw [← wrongN_3, e]
  clear h hI e0 e1 e2 n0 n1 n2 q0 q1 q2 hw hb1
  go_enter Try.func58, Try.ntmps58
  go_wp2_with (refine wpList_load_mid rfl 76 (.tmp 13) rfl b 11 rfl [.pointer p0, .pointer p1, .pointer p2] _ HR.out Try.underlying76 rfl Hs.out ?_)
  clear c20 f20 d0
  clear hbl hB H1 HBx HR
  generalize World.alloc _ _ = W at H2 HC2 HBx2 ⊢
  go_loopw [15] (fun i wr => ∃ (k : Nat) (y : Sv), k ≤ 3 ∧ i = .int .i64 k ∧ Hid (StAt Ts col wr b bd N y (wrongN r s k)) ∧ Hid (Chg (fun k => k = b) w wr) ∧ Hid (Avs x y (wrongN r s k)) ∧ Hid (wr.heap[B]? = some (.cells #[.bool false, .int .i64 r.lo, .int .i64 r.many, .slice Ad r.data.length cd, .slice At r.tags.length ct, .int .i64 r.born] 44 (0, 0)))) (fun i _ => 3 - (intOf i).toNat)
  case atStart => exact ⟨0, x, by omega, rfl, H2.out, HC2.out, Avs.refl, HBx2.out⟩
  case round =>
    obtain ⟨k, y, hk, rfl, HS, HC, HA, HX⟩ := hrel
    by_cases h3 : k < 3
    · match k, h3 with
      | 0, _ =>
        have hk0 : ((0 : Nat) : Int) = 0 := rfl
        have i0 := idx_0
        have d0 : wr.cell? ⟨B, 0, none⟩ = some (.bool false) := cell_of_row _ _ 0 _ _ _ HX.out
        have d1 : wr.cell? ⟨B, 1, none⟩ = some (.int .i64 r.lo) := cell_of_row _ _ 1 _ _ _ HX.out
        have d2 : wr.cell? ⟨B, 2, none⟩ = some (.int .i64 r.many) := cell_of_row _ _ 2 _ _ _ HX.out
        cases ho : s.askAt 0 with
        | none =>
          obtain rfl := N0.out ho
          have Ho := Lib.hid ho
          clear ho
          have He : Hid (wrongN r s (0 + 1) = wrongN r s 0) := show _ = _ from wrong1_none (wrongN_nn r s 0 0 Ho.out)
          go_wp2_with fail
          have g0 : ∀ d os, (grow (redrawn wr d) os).cell? ⟨B, 0, none⟩ = some (.bool false) := fun _ _ => cell_regrown d0 _ _
          have g1 : ∀ d os, (grow (redrawn wr d) os).cell? ⟨B, 1, none⟩ = some (.int .i64 r.lo) := fun _ _ => cell_regrown d1 _ _
          have g2 : ∀ d os, (grow (redrawn wr d) os).cell? ⟨B, 2, none⟩ = some (.int .i64 r.many) := fun _ _ => cell_regrown d2 _ _
          clear d0 d1 d2
          refine wp_region_quiet_below mixed (by kernel_rfl) ?_
          repeat (first | go_big_quiet_step ((fail)) | quiet_step ((fail)))
          refine wpQuiet_nil ?_
          intro _ hw'
          obtain ⟨⟨dq, osq⟩, hw''⟩ := hw'
          subst hw''
          have hb4 := below_regrown wr dq osq
          clear g0 g1 g2
          generalize grow (redrawn wr dq) osq = w4 at hb4 ⊢
          have HB4 := Lib.hid hb4
          clear hb4
          go_wp2_with fail
          go_roundw
          case rel => exact ⟨0 + 1, y, by omega, by go_num, He.out ▸ HS.out.below HB4.out, HC.out.two (Chg.of_below HB4.out), He.out ▸ HA.out, (HB4.out.block _ (Array.getElem?_eq_some_iff.1 HX.out).1).trans HX.out⟩
          case measure => simp [intOf]
        | some a =>
          obtain ⟨ba, rfl⟩ := Q0.out a ho
          have Ho : Hid ((wrongN r s 0).askAt 0 = some a) := show _ = _ from (wrongN_ge r s 0 0 (by omega)).trans ho
          have Hy : Hid (y.av 0 = .pointer (some ⟨ba, 0, none⟩)) := show _ = _ from ((HA.out 0 (by omega)).elim id (fun h => by rw [Ho.out] at h; cases h)).trans E0.out
          obtain ⟨lv, hrow, _, _⟩ := HS.out.askc (by omega) Ho.out Hy.out
          have k0 : wr.cell? ⟨ba, 0, none⟩ = some (.int .i64 a.kind) := cell_of_row _ _ 0 _ _ _ hrow
          have k1 : wr.cell? ⟨ba, 1, none⟩ = some (.int .i64 a.pos) := cell_of_row _ _ 1 _ _ _ hrow
          have Hok := Lib.hid (HI.out.ask 0 a ho)
          clear ho hrow
          by_cases h1 : a.kind = 1
          · rw [h1] at k0
            have H1k := Lib.hid h1
            clear h1
            cases hh : hasB r.lo r.many a.pos with
            | true =>
              have He : Hid (wrongN r s (0 + 1) = (wrongN r s 0).answer 0 noB 8) := show _ = _ from wrong1_hit Ho.out Hw.out H1k.out hh
              have Hh := Lib.hid hh
              clear hh
              have Hcall : Hid (∀ u, Calls Try.prog 70 #[spanV r.lo r.many, .int .i64 a.pos] u (Ret (.bool true) u)) := fun u => Hh.out ▸ has_any r.lo r.many a.pos u hr.1 hr.2 (by have := Hok.out.lo; omega) (by have := Hok.out.hi; omega)
              go_wp2_with fail
              have g0 : ∀ d os, (grow (redrawn wr d) os).cell? ⟨B, 0, none⟩ = some (.bool false) := fun _ _ => cell_regrown d0 _ _
              have g1 : ∀ d os, (grow (redrawn wr d) os).cell? ⟨B, 1, none⟩ = some (.int .i64 r.lo) := fun _ _ => cell_regrown d1 _ _
              have g2 : ∀ d os, (grow (redrawn wr d) os).cell? ⟨B, 2, none⟩ = some (.int .i64 r.many) := fun _ _ => cell_regrown d2 _ _
              have g3 : ∀ d os, (grow (redrawn wr d) os).cell? ⟨ba, 1, none⟩ = some (.int .i64 a.pos) := fun _ _ => cell_regrown k1 _ _
              have g4 : ∀ d os, (grow (redrawn wr d) os).cell? ⟨ba, 0, none⟩ = some (.int .i64 1) := fun _ _ => cell_regrown k0 _ _
              clear d0 d1 d2 k1 k0
              refine wp_region_quiet_below mixed (by kernel_rfl) ?_
              repeat (first | go_big_quiet_step ((exact Calls.rg (Hcall.out _))) | quiet_step ((exact Calls.rg (Hcall.out _))))
              refine wpQuiet_nil ?_
              intro _ hw'
              obtain ⟨⟨dq, osq⟩, hw''⟩ := hw'
              subst hw''
              have hb4 := below_regrown wr dq osq
              clear g0 g1 g2 g3 g4
              generalize grow (redrawn wr dq) osq = w4 at hb4 ⊢
              have HB4 := Lib.hid hb4
              clear hb4
              go_wp2_with fail
              refine (answer_any col w4 b bd N y _ 0 noB 8 (HS.out.below HB4.out) (by omega)).mono ?_
              rintro e w5 ⟨rfl, hs5, hst5⟩
              have Hst5 := Lib.hid hst5
              have HC5 := Lib.hid (hs5.chg (F := fun k => k = b) rfl)
              have HX5 : Hid (w5.heap[B]? = _) := show _ = _ from (hs5.block B Hne.out).trans ((HB4.out.block _ (Array.getElem?_eq_some_iff.1 HX.out).1).trans HX.out)
              clear hst5 hs5
              go_wp2_with fail
              go_roundw
              case rel => exact ⟨0 + 1, _, by omega, by go_num, He.out ▸ Hst5.out, (HC.out.two (Chg.of_below HB4.out)).two HC5.out, He.out ▸ Avs.ans HA.out HS.out.asks (by omega), HX5.out⟩
              case measure => simp [intOf]
            | false =>
              have He : Hid (wrongN r s (0 + 1) = wrongN r s 0) := show _ = _ from wrong1_miss Ho.out (fun h => by have h1 := h.2.2; rw [hh] at h1; cases h1)
              have Hh := Lib.hid hh
              clear hh
              have Hcall : Hid (∀ u, Calls Try.prog 70 #[spanV r.lo r.many, .int .i64 a.pos] u (Ret (.bool false) u)) := fun u => Hh.out ▸ has_any r.lo r.many a.pos u hr.1 hr.2 (by have := Hok.out.lo; omega) (by have := Hok.out.hi; omega)
              go_wp2_with fail
              have g0 : ∀ d os, (grow (redrawn wr d) os).cell? ⟨B, 0, none⟩ = some (.bool false) := fun _ _ => cell_regrown d0 _ _
              have g1 : ∀ d os, (grow (redrawn wr d) os).cell? ⟨B, 1, none⟩ = some (.int .i64 r.lo) := fun _ _ => cell_regrown d1 _ _
              have g2 : ∀ d os, (grow (redrawn wr d) os).cell? ⟨B, 2, none⟩ = some (.int .i64 r.many) := fun _ _ => cell_regrown d2 _ _
              have g3 : ∀ d os, (grow (redrawn wr d) os).cell? ⟨ba, 1, none⟩ = some (.int .i64 a.pos) := fun _ _ => cell_regrown k1 _ _
              have g4 : ∀ d os, (grow (redrawn wr d) os).cell? ⟨ba, 0, none⟩ = some (.int .i64 1) := fun _ _ => cell_regrown k0 _ _
              clear d0 d1 d2 k1 k0
              refine wp_region_quiet_below mixed (by kernel_rfl) ?_
              repeat (first | go_big_quiet_step ((exact Calls.rg (Hcall.out _))) | quiet_step ((exact Calls.rg (Hcall.out _))))
              refine wpQuiet_nil ?_
              intro _ hw'
              obtain ⟨⟨dq, osq⟩, hw''⟩ := hw'
              subst hw''
              have hb4 := below_regrown wr dq osq
              clear g0 g1 g2 g3 g4
              generalize grow (redrawn wr dq) osq = w4 at hb4 ⊢
              have HB4 := Lib.hid hb4
              clear hb4
              go_wp2_with fail
              go_roundw
              case rel => exact ⟨0 + 1, y, by omega, by go_num, He.out ▸ HS.out.below HB4.out, HC.out.two (Chg.of_below HB4.out), He.out ▸ HA.out, (HB4.out.block _ (Array.getElem?_eq_some_iff.1 HX.out).1).trans HX.out⟩
              case measure => simp [intOf]
          · have h2 : (a.kind == 1) = false := by simp only [beq_eq_false_iff_ne]; exact h1
            have He : Hid (wrongN r s (0 + 1) = wrongN r s 0) := show _ = _ from wrong1_miss Ho.out (fun h => h1 h.2.1)
            clear h1
            go_wp2_with fail
            have g0 : ∀ d os, (grow (redrawn wr d) os).cell? ⟨B, 0, none⟩ = some (.bool false) := fun _ _ => cell_regrown d0 _ _
            have g1 : ∀ d os, (grow (redrawn wr d) os).cell? ⟨B, 1, none⟩ = some (.int .i64 r.lo) := fun _ _ => cell_regrown d1 _ _
            have g2 : ∀ d os, (grow (redrawn wr d) os).cell? ⟨B, 2, none⟩ = some (.int .i64 r.many) := fun _ _ => cell_regrown d2 _ _
            have g3 : ∀ d os, (grow (redrawn wr d) os).cell? ⟨ba, 1, none⟩ = some (.int .i64 a.pos) := fun _ _ => cell_regrown k1 _ _
            have g4 : ∀ d os, (grow (redrawn wr d) os).cell? ⟨ba, 0, none⟩ = some (.int .i64 a.kind) := fun _ _ => cell_regrown k0 _ _
            clear d0 d1 d2 k1 k0
            refine wp_region_quiet_below mixed (by kernel_rfl) ?_
            repeat (first | go_big_quiet_step ((fail)) | quiet_step ((fail)))
            refine wpQuiet_nil ?_
            intro _ hw'
            obtain ⟨⟨dq, osq⟩, hw''⟩ := hw'
            subst hw''
            have hb4 := below_regrown wr dq osq
            clear g0 g1 g2 g3 g4
            generalize grow (redrawn wr dq) osq = w4 at hb4 ⊢
            have HB4 := Lib.hid hb4
            clear hb4
            go_wp2_with fail
            go_roundw
            case rel => exact ⟨0 + 1, y, by omega, by go_num, He.out ▸ HS.out.below HB4.out, HC.out.two (Chg.of_below HB4.out), He.out ▸ HA.out, (HB4.out.block _ (Array.getElem?_eq_some_iff.1 HX.out).1).trans HX.out⟩
            case measure => simp [intOf]
      | 1, _ =>
        have hk0 : ((1 : Nat) : Int) = 1 := rfl
        have i0 := idx_1
        have d0 : wr.cell? ⟨B, 0, none⟩ = some (.bool false) := cell_of_row _ _ 0 _ _ _ HX.out
        have d1 : wr.cell? ⟨B, 1, none⟩ = some (.int .i64 r.lo) := cell_of_row _ _ 1 _ _ _ HX.out
        have d2 : wr.cell? ⟨B, 2, none⟩ = some (.int .i64 r.many) := cell_of_row _ _ 2 _ _ _ HX.out
        cases ho : s.askAt 1 with
        | none =>
          obtain rfl := N1.out ho
          have Ho := Lib.hid ho
          clear ho
          have He : Hid (wrongN r s (1 + 1) = wrongN r s 1) := show _ = _ from wrong1_none (wrongN_nn r s 1 1 Ho.out)
          go_wp2_with fail
          have g0 : ∀ d os, (grow (redrawn wr d) os).cell? ⟨B, 0, none⟩ = some (.bool false) := fun _ _ => cell_regrown d0 _ _
          have g1 : ∀ d os, (grow (redrawn wr d) os).cell? ⟨B, 1, none⟩ = some (.int .i64 r.lo) := fun _ _ => cell_regrown d1 _ _
          have g2 : ∀ d os, (grow (redrawn wr d) os).cell? ⟨B, 2, none⟩ = some (.int .i64 r.many) := fun _ _ => cell_regrown d2 _ _
          clear d0 d1 d2
          refine wp_region_quiet_below mixed (by kernel_rfl) ?_
          repeat (first | go_big_quiet_step ((fail)) | quiet_step ((fail)))
          refine wpQuiet_nil ?_
          intro _ hw'
          obtain ⟨⟨dq, osq⟩, hw''⟩ := hw'
          subst hw''
          have hb4 := below_regrown wr dq osq
          clear g0 g1 g2
          generalize grow (redrawn wr dq) osq = w4 at hb4 ⊢
          have HB4 := Lib.hid hb4
          clear hb4
          go_wp2_with fail
          go_roundw
          case rel => exact ⟨1 + 1, y, by omega, by go_num, He.out ▸ HS.out.below HB4.out, HC.out.two (Chg.of_below HB4.out), He.out ▸ HA.out, (HB4.out.block _ (Array.getElem?_eq_some_iff.1 HX.out).1).trans HX.out⟩
          case measure => simp [intOf]
        | some a =>
          obtain ⟨ba, rfl⟩ := Q1.out a ho
          have Ho : Hid ((wrongN r s 1).askAt 1 = some a) := show _ = _ from (wrongN_ge r s 1 1 (by omega)).trans ho
          have Hy : Hid (y.av 1 = .pointer (some ⟨ba, 0, none⟩)) := show _ = _ from ((HA.out 1 (by omega)).elim id (fun h => by rw [Ho.out] at h; cases h)).trans E1.out
          obtain ⟨lv, hrow, _, _⟩ := HS.out.askc (by omega) Ho.out Hy.out
          have k0 : wr.cell? ⟨ba, 0, none⟩ = some (.int .i64 a.kind) := cell_of_row _ _ 0 _ _ _ hrow
          have k1 : wr.cell? ⟨ba, 1, none⟩ = some (.int .i64 a.pos) := cell_of_row _ _ 1 _ _ _ hrow
          have Hok := Lib.hid (HI.out.ask 1 a ho)
          clear ho hrow
          by_cases h1 : a.kind = 1
          · rw [h1] at k0
            have H1k := Lib.hid h1
            clear h1
            cases hh : hasB r.lo r.many a.pos with
            | true =>
              have He : Hid (wrongN r s (1 + 1) = (wrongN r s 1).answer 1 noB 8) := show _ = _ from wrong1_hit Ho.out Hw.out H1k.out hh
              have Hh := Lib.hid hh
              clear hh
              have Hcall : Hid (∀ u, Calls Try.prog 70 #[spanV r.lo r.many, .int .i64 a.pos] u (Ret (.bool true) u)) := fun u => Hh.out ▸ has_any r.lo r.many a.pos u hr.1 hr.2 (by have := Hok.out.lo; omega) (by have := Hok.out.hi; omega)
              go_wp2_with fail
              have g0 : ∀ d os, (grow (redrawn wr d) os).cell? ⟨B, 0, none⟩ = some (.bool false) := fun _ _ => cell_regrown d0 _ _
              have g1 : ∀ d os, (grow (redrawn wr d) os).cell? ⟨B, 1, none⟩ = some (.int .i64 r.lo) := fun _ _ => cell_regrown d1 _ _
              have g2 : ∀ d os, (grow (redrawn wr d) os).cell? ⟨B, 2, none⟩ = some (.int .i64 r.many) := fun _ _ => cell_regrown d2 _ _
              have g3 : ∀ d os, (grow (redrawn wr d) os).cell? ⟨ba, 1, none⟩ = some (.int .i64 a.pos) := fun _ _ => cell_regrown k1 _ _
              have g4 : ∀ d os, (grow (redrawn wr d) os).cell? ⟨ba, 0, none⟩ = some (.int .i64 1) := fun _ _ => cell_regrown k0 _ _
              clear d0 d1 d2 k1 k0
              refine wp_region_quiet_below mixed (by kernel_rfl) ?_
              repeat (first | go_big_quiet_step ((exact Calls.rg (Hcall.out _))) | quiet_step ((exact Calls.rg (Hcall.out _))))
              refine wpQuiet_nil ?_
              intro _ hw'
              obtain ⟨⟨dq, osq⟩, hw''⟩ := hw'
              subst hw''
              have hb4 := below_regrown wr dq osq
              clear g0 g1 g2 g3 g4
              generalize grow (redrawn wr dq) osq = w4 at hb4 ⊢
              have HB4 := Lib.hid hb4
              clear hb4
              go_wp2_with fail
              refine (answer_any col w4 b bd N y _ 1 noB 8 (HS.out.below HB4.out) (by omega)).mono ?_
              rintro e w5 ⟨rfl, hs5, hst5⟩
              have Hst5 := Lib.hid hst5
              have HC5 := Lib.hid (hs5.chg (F := fun k => k = b) rfl)
              have HX5 : Hid (w5.heap[B]? = _) := show _ = _ from (hs5.block B Hne.out).trans ((HB4.out.block _ (Array.getElem?_eq_some_iff.1 HX.out).1).trans HX.out)
              clear hst5 hs5
              go_wp2_with fail
              go_roundw
              case rel => exact ⟨1 + 1, _, by omega, by go_num, He.out ▸ Hst5.out, (HC.out.two (Chg.of_below HB4.out)).two HC5.out, He.out ▸ Avs.ans HA.out HS.out.asks (by omega), HX5.out⟩
              case measure => simp [intOf]
            | false =>
              have He : Hid (wrongN r s (1 + 1) = wrongN r s 1) := show _ = _ from wrong1_miss Ho.out (fun h => by have h1 := h.2.2; rw [hh] at h1; cases h1)
              have Hh := Lib.hid hh
              clear hh
              have Hcall : Hid (∀ u, Calls Try.prog 70 #[spanV r.lo r.many, .int .i64 a.pos] u (Ret (.bool false) u)) := fun u => Hh.out ▸ has_any r.lo r.many a.pos u hr.1 hr.2 (by have := Hok.out.lo; omega) (by have := Hok.out.hi; omega)
              go_wp2_with fail
              have g0 : ∀ d os, (grow (redrawn wr d) os).cell? ⟨B, 0, none⟩ = some (.bool false) := fun _ _ => cell_regrown d0 _ _
              have g1 : ∀ d os, (grow (redrawn wr d) os).cell? ⟨B, 1, none⟩ = some (.int .i64 r.lo) := fun _ _ => cell_regrown d1 _ _
              have g2 : ∀ d os, (grow (redrawn wr d) os).cell? ⟨B, 2, none⟩ = some (.int .i64 r.many) := fun _ _ => cell_regrown d2 _ _
              have g3 : ∀ d os, (grow (redrawn wr d) os).cell? ⟨ba, 1, none⟩ = some (.int .i64 a.pos) := fun _ _ => cell_regrown k1 _ _
              have g4 : ∀ d os, (grow (redrawn wr d) os).cell? ⟨ba, 0, none⟩ = some (.int .i64 1) := fun _ _ => cell_regrown k0 _ _
              clear d0 d1 d2 k1 k0
              refine wp_region_quiet_below mixed (by kernel_rfl) ?_
              repeat (first | go_big_quiet_step ((exact Calls.rg (Hcall.out _))) | quiet_step ((exact Calls.rg (Hcall.out _))))
              refine wpQuiet_nil ?_
              intro _ hw'
              obtain ⟨⟨dq, osq⟩, hw''⟩ := hw'
              subst hw''
              have hb4 := below_regrown wr dq osq
              clear g0 g1 g2 g3 g4
              generalize grow (redrawn wr dq) osq = w4 at hb4 ⊢
              have HB4 := Lib.hid hb4
              clear hb4
              go_wp2_with fail
              go_roundw
              case rel => exact ⟨1 + 1, y, by omega, by go_num, He.out ▸ HS.out.below HB4.out, HC.out.two (Chg.of_below HB4.out), He.out ▸ HA.out, (HB4.out.block _ (Array.getElem?_eq_some_iff.1 HX.out).1).trans HX.out⟩
              case measure => simp [intOf]
          · have h2 : (a.kind == 1) = false := by simp only [beq_eq_false_iff_ne]; exact h1
            have He : Hid (wrongN r s (1 + 1) = wrongN r s 1) := show _ = _ from wrong1_miss Ho.out (fun h => h1 h.2.1)
            clear h1
            go_wp2_with fail
            have g0 : ∀ d os, (grow (redrawn wr d) os).cell? ⟨B, 0, none⟩ = some (.bool false) := fun _ _ => cell_regrown d0 _ _
            have g1 : ∀ d os, (grow (redrawn wr d) os).cell? ⟨B, 1, none⟩ = some (.int .i64 r.lo) := fun _ _ => cell_regrown d1 _ _
            have g2 : ∀ d os, (grow (redrawn wr d) os).cell? ⟨B, 2, none⟩ = some (.int .i64 r.many) := fun _ _ => cell_regrown d2 _ _
            have g3 : ∀ d os, (grow (redrawn wr d) os).cell? ⟨ba, 1, none⟩ = some (.int .i64 a.pos) := fun _ _ => cell_regrown k1 _ _
            have g4 : ∀ d os, (grow (redrawn wr d) os).cell? ⟨ba, 0, none⟩ = some (.int .i64 a.kind) := fun _ _ => cell_regrown k0 _ _
            clear d0 d1 d2 k1 k0
            refine wp_region_quiet_below mixed (by kernel_rfl) ?_
            repeat (first | go_big_quiet_step ((fail)) | quiet_step ((fail)))
            refine wpQuiet_nil ?_
            intro _ hw'
            obtain ⟨⟨dq, osq⟩, hw''⟩ := hw'
            subst hw''
            have hb4 := below_regrown wr dq osq
            clear g0 g1 g2 g3 g4
            generalize grow (redrawn wr dq) osq = w4 at hb4 ⊢
            have HB4 := Lib.hid hb4
            clear hb4
            go_wp2_with fail
            go_roundw
            case rel => exact ⟨1 + 1, y, by omega, by go_num, He.out ▸ HS.out.below HB4.out, HC.out.two (Chg.of_below HB4.out), He.out ▸ HA.out, (HB4.out.block _ (Array.getElem?_eq_some_iff.1 HX.out).1).trans HX.out⟩
            case measure => simp [intOf]
      | 2, _ =>
        have hk0 : ((2 : Nat) : Int) = 2 := rfl
        have i0 := idx_2
        have d0 : wr.cell? ⟨B, 0, none⟩ = some (.bool false) := cell_of_row _ _ 0 _ _ _ HX.out
        have d1 : wr.cell? ⟨B, 1, none⟩ = some (.int .i64 r.lo) := cell_of_row _ _ 1 _ _ _ HX.out
        have d2 : wr.cell? ⟨B, 2, none⟩ = some (.int .i64 r.many) := cell_of_row _ _ 2 _ _ _ HX.out
        cases ho : s.askAt 2 with
        | none =>
          obtain rfl := N2.out ho
          have Ho := Lib.hid ho
          clear ho
          have He : Hid (wrongN r s (2 + 1) = wrongN r s 2) := show _ = _ from wrong1_none (wrongN_nn r s 2 2 Ho.out)
          go_wp2_with fail
          have g0 : ∀ d os, (grow (redrawn wr d) os).cell? ⟨B, 0, none⟩ = some (.bool false) := fun _ _ => cell_regrown d0 _ _
          have g1 : ∀ d os, (grow (redrawn wr d) os).cell? ⟨B, 1, none⟩ = some (.int .i64 r.lo) := fun _ _ => cell_regrown d1 _ _
          have g2 : ∀ d os, (grow (redrawn wr d) os).cell? ⟨B, 2, none⟩ = some (.int .i64 r.many) := fun _ _ => cell_regrown d2 _ _
          clear d0 d1 d2
          refine wp_region_quiet_below mixed (by kernel_rfl) ?_
          repeat (first | go_big_quiet_step ((fail)) | quiet_step ((fail)))
          refine wpQuiet_nil ?_
          intro _ hw'
          obtain ⟨⟨dq, osq⟩, hw''⟩ := hw'
          subst hw''
          have hb4 := below_regrown wr dq osq
          clear g0 g1 g2
          generalize grow (redrawn wr dq) osq = w4 at hb4 ⊢
          have HB4 := Lib.hid hb4
          clear hb4
          go_wp2_with fail
          go_roundw
          case rel => exact ⟨2 + 1, y, by omega, by go_num, He.out ▸ HS.out.below HB4.out, HC.out.two (Chg.of_below HB4.out), He.out ▸ HA.out, (HB4.out.block _ (Array.getElem?_eq_some_iff.1 HX.out).1).trans HX.out⟩
          case measure => simp [intOf]
        | some a =>
          obtain ⟨ba, rfl⟩ := Q2.out a ho
          have Ho : Hid ((wrongN r s 2).askAt 2 = some a) := show _ = _ from (wrongN_ge r s 2 2 (by omega)).trans ho
          have Hy : Hid (y.av 2 = .pointer (some ⟨ba, 0, none⟩)) := show _ = _ from ((HA.out 2 (by omega)).elim id (fun h => by rw [Ho.out] at h; cases h)).trans E2.out
          obtain ⟨lv, hrow, _, _⟩ := HS.out.askc (by omega) Ho.out Hy.out
          have k0 : wr.cell? ⟨ba, 0, none⟩ = some (.int .i64 a.kind) := cell_of_row _ _ 0 _ _ _ hrow
          have k1 : wr.cell? ⟨ba, 1, none⟩ = some (.int .i64 a.pos) := cell_of_row _ _ 1 _ _ _ hrow
          have Hok := Lib.hid (HI.out.ask 2 a ho)
          clear ho hrow
          by_cases h1 : a.kind = 1
          · rw [h1] at k0
            have H1k := Lib.hid h1
            clear h1
            cases hh : hasB r.lo r.many a.pos with
            | true =>
              have He : Hid (wrongN r s (2 + 1) = (wrongN r s 2).answer 2 noB 8) := show _ = _ from wrong1_hit Ho.out Hw.out H1k.out hh
              have Hh := Lib.hid hh
              clear hh
              have Hcall : Hid (∀ u, Calls Try.prog 70 #[spanV r.lo r.many, .int .i64 a.pos] u (Ret (.bool true) u)) := fun u => Hh.out ▸ has_any r.lo r.many a.pos u hr.1 hr.2 (by have := Hok.out.lo; omega) (by have := Hok.out.hi; omega)
              go_wp2_with fail
              have g0 : ∀ d os, (grow (redrawn wr d) os).cell? ⟨B, 0, none⟩ = some (.bool false) := fun _ _ => cell_regrown d0 _ _
              have g1 : ∀ d os, (grow (redrawn wr d) os).cell? ⟨B, 1, none⟩ = some (.int .i64 r.lo) := fun _ _ => cell_regrown d1 _ _
              have g2 : ∀ d os, (grow (redrawn wr d) os).cell? ⟨B, 2, none⟩ = some (.int .i64 r.many) := fun _ _ => cell_regrown d2 _ _
              have g3 : ∀ d os, (grow (redrawn wr d) os).cell? ⟨ba, 1, none⟩ = some (.int .i64 a.pos) := fun _ _ => cell_regrown k1 _ _
              have g4 : ∀ d os, (grow (redrawn wr d) os).cell? ⟨ba, 0, none⟩ = some (.int .i64 1) := fun _ _ => cell_regrown k0 _ _
              clear d0 d1 d2 k1 k0
              refine wp_region_quiet_below mixed (by kernel_rfl) ?_
              repeat (first | go_big_quiet_step ((exact Calls.rg (Hcall.out _))) | quiet_step ((exact Calls.rg (Hcall.out _))))
              refine wpQuiet_nil ?_
              intro _ hw'
              obtain ⟨⟨dq, osq⟩, hw''⟩ := hw'
              subst hw''
              have hb4 := below_regrown wr dq osq
              clear g0 g1 g2 g3 g4
              generalize grow (redrawn wr dq) osq = w4 at hb4 ⊢
              have HB4 := Lib.hid hb4
              clear hb4
              go_wp2_with fail
              refine (answer_any col w4 b bd N y _ 2 noB 8 (HS.out.below HB4.out) (by omega)).mono ?_
              rintro e w5 ⟨rfl, hs5, hst5⟩
              have Hst5 := Lib.hid hst5
              have HC5 := Lib.hid (hs5.chg (F := fun k => k = b) rfl)
              have HX5 : Hid (w5.heap[B]? = _) := show _ = _ from (hs5.block B Hne.out).trans ((HB4.out.block _ (Array.getElem?_eq_some_iff.1 HX.out).1).trans HX.out)
              clear hst5 hs5
              go_wp2_with fail
              go_roundw
              case rel => exact ⟨2 + 1, _, by omega, by go_num, He.out ▸ Hst5.out, (HC.out.two (Chg.of_below HB4.out)).two HC5.out, He.out ▸ Avs.ans HA.out HS.out.asks (by omega), HX5.out⟩
              case measure => simp [intOf]
            | false =>
              have He : Hid (wrongN r s (2 + 1) = wrongN r s 2) := show _ = _ from wrong1_miss Ho.out (fun h => by have h1 := h.2.2; rw [hh] at h1; cases h1)
              have Hh := Lib.hid hh
              clear hh
              have Hcall : Hid (∀ u, Calls Try.prog 70 #[spanV r.lo r.many, .int .i64 a.pos] u (Ret (.bool false) u)) := fun u => Hh.out ▸ has_any r.lo r.many a.pos u hr.1 hr.2 (by have := Hok.out.lo; omega) (by have := Hok.out.hi; omega)
              go_wp2_with fail
              have g0 : ∀ d os, (grow (redrawn wr d) os).cell? ⟨B, 0, none⟩ = some (.bool false) := fun _ _ => cell_regrown d0 _ _
              have g1 : ∀ d os, (grow (redrawn wr d) os).cell? ⟨B, 1, none⟩ = some (.int .i64 r.lo) := fun _ _ => cell_regrown d1 _ _
              have g2 : ∀ d os, (grow (redrawn wr d) os).cell? ⟨B, 2, none⟩ = some (.int .i64 r.many) := fun _ _ => cell_regrown d2 _ _
              have g3 : ∀ d os, (grow (redrawn wr d) os).cell? ⟨ba, 1, none⟩ = some (.int .i64 a.pos) := fun _ _ => cell_regrown k1 _ _
              have g4 : ∀ d os, (grow (redrawn wr d) os).cell? ⟨ba, 0, none⟩ = some (.int .i64 1) := fun _ _ => cell_regrown k0 _ _
              clear d0 d1 d2 k1 k0
              refine wp_region_quiet_below mixed (by kernel_rfl) ?_
              repeat (first | go_big_quiet_step ((exact Calls.rg (Hcall.out _))) | quiet_step ((exact Calls.rg (Hcall.out _))))
              refine wpQuiet_nil ?_
              intro _ hw'
              obtain ⟨⟨dq, osq⟩, hw''⟩ := hw'
              subst hw''
              have hb4 := below_regrown wr dq osq
              clear g0 g1 g2 g3 g4
              generalize grow (redrawn wr dq) osq = w4 at hb4 ⊢
              have HB4 := Lib.hid hb4
              clear hb4
              go_wp2_with fail
              go_roundw
              case rel => exact ⟨2 + 1, y, by omega, by go_num, He.out ▸ HS.out.below HB4.out, HC.out.two (Chg.of_below HB4.out), He.out ▸ HA.out, (HB4.out.block _ (Array.getElem?_eq_some_iff.1 HX.out).1).trans HX.out⟩
              case measure => simp [intOf]
          · have h2 : (a.kind == 1) = false := by simp only [beq_eq_false_iff_ne]; exact h1
            have He : Hid (wrongN r s (2 + 1) = wrongN r s 2) := show _ = _ from wrong1_miss Ho.out (fun h => h1 h.2.1)
            clear h1
            go_wp2_with fail
            have g0 : ∀ d os, (grow (redrawn wr d) os).cell? ⟨B, 0, none⟩ = some (.bool false) := fun _ _ => cell_regrown d0 _ _
            have g1 : ∀ d os, (grow (redrawn wr d) os).cell? ⟨B, 1, none⟩ = some (.int .i64 r.lo) := fun _ _ => cell_regrown d1 _ _
            have g2 : ∀ d os, (grow (redrawn wr d) os).cell? ⟨B, 2, none⟩ = some (.int .i64 r.many) := fun _ _ => cell_regrown d2 _ _
            have g3 : ∀ d os, (grow (redrawn wr d) os).cell? ⟨ba, 1, none⟩ = some (.int .i64 a.pos) := fun _ _ => cell_regrown k1 _ _
            have g4 : ∀ d os, (grow (redrawn wr d) os).cell? ⟨ba, 0, none⟩ = some (.int .i64 a.kind) := fun _ _ => cell_regrown k0 _ _
            clear d0 d1 d2 k1 k0
            refine wp_region_quiet_below mixed (by kernel_rfl) ?_
            repeat (first | go_big_quiet_step ((fail)) | quiet_step ((fail)))
            refine wpQuiet_nil ?_
            intro _ hw'
            obtain ⟨⟨dq, osq⟩, hw''⟩ := hw'
            subst hw''
            have hb4 := below_regrown wr dq osq
            clear g0 g1 g2 g3 g4
            generalize grow (redrawn wr dq) osq = w4 at hb4 ⊢
            have HB4 := Lib.hid hb4
            clear hb4
            go_wp2_with fail
            go_roundw
            case rel => exact ⟨2 + 1, y, by omega, by go_num, He.out ▸ HS.out.below HB4.out, HC.out.two (Chg.of_below HB4.out), He.out ▸ HA.out, (HB4.out.block _ (Array.getElem?_eq_some_iff.1 HX.out).1).trans HX.out⟩
            case measure => simp [intOf]
    · obtain rfl : k = 3 := by omega
      have hi : ((3 : Nat) : Int) = 3 := rfl
      go_wp2_with fail
      go_end0
      rw [HW3.out]
      exact ⟨_, rfl, HS.out, HC.out, HA.out⟩
set_option maxRecDepth 100000 in
theorem wrong_any (col : Nat → Nat) (w : World) (b bd N : Nat) (x : Sv) (s : St) (S : Nat → Prop) (rv : Value) (r : Rq) (h : StAt Ts col w b bd N x s) (hI : Inv s) (hr : ReqAt S w rv r) (hok : ReqOk r) :
    Calls Try.prog 58 #[.pointer (some ⟨b, 0, none⟩), rv] w (Ret2 Ts col w b bd N x (s.wrong r) (.tuple #[])) := by
  obtain ⟨Ad, cd, At, ct, rfl, _, _, _, _, _, _, _⟩ := hr.opened
  obtain ⟨a1, a2, a3, a4, a5⟩ := hok.span
  unfold rqV
  rcases Bool.eq_false_or_eq_true r.write with hw | hw
  · rw [hw]; exact wrong_true col w b bd N x s r hw Ad At cd ct h hI ⟨by omega, by omega⟩
  · rw [hw]; exact wrong_false col w b bd N x s r hw Ad At cd ct h hI ⟨by omega, by omega⟩
end Go.Proofs.Ytojmnfelecnenaa
namespace Go.Proofs.Ytojmnfelecnenaa
set_option linter.unusedSimpArgs false
set_option linter.unusedVariables false
open Go.RowKit Go.Sort

/-- The driver's End, called with the stack around it. -/
def RetSe (T : Tys) (col : Nat → Nat) (w : World) (b bd N : Nat) (x : Sv) (s : St) (v' : Drv) (rs : Rs) (done : Bool) (ev : Value) : Ending → World → Prop :=
  fun e w' => ∃ (col' : Nat → Nat) (c : Rc) (ov : Value), e = .returned (.tuple #[.agg (rsCells c ov rs.err), .bool done, ev]) ∧ c.r = rs.req ∧ RcOk (Im w' col') w' c ∧ StrsAt (Im w' col') w' ov rs.data ∧
    StAt T col' w' b bd (N + 1) { x with n := x.n + 1 } { s with v := v' } ∧ Chg (Fl col) w w' ∧ Rec col col' w w'
theorem stend_any (col : Nat → Nat) (w : World) (b bd N : Nat) (x : Sv) (s : St) (i : Int) (f : Bool) (h : StAt Ts col w b bd N x s) (hI : Inv s) (hw : s.v.d.waits.length ≤ 900000000) (hN : N ≤ 900000000) :
    Calls Try.prog 57 #[.pointer (some ⟨x.bv, 0, none⟩), .int .i64 i, .bool f] w (RetSe Ts col w b bd N x s (s.v.endAt i f).1 (s.v.endAt i f).2.1 (s.v.endAt i f).2.2.1 (errV (s.v.endAt i f).2.2.2)) := by
  have hn := h.n
  refine (drvend_any (Im w col) (Fd col) w x.bv bd x.bt x.n s.v i f h.drv hI.dv hw (by omega) (fun j _ => hI.tries j) (fun k (hk : col k = 4) => h.lt k (by omega)) StAt.imfd (fun k hk => hk.1)).mono ?_
  rintro e w' ⟨v, F', S', rfl, ⟨c, ov, rfl, hc, hok, hov⟩, hp, hch, hF, hSS, hS, hSF⟩
  obtain ⟨col', hst, hrec, him⟩ := h.drvd hp hch hF hS hSF (show x.n + 1 ≤ N + 1 by omega)
  exact ⟨col', c, ov, rfl, hc, hok.more him, hov.more him, hst, hch.mono (fun k hk => hk.elim (Fl.of_d k) (fun e => by subst e; show col x.bt ≠ 0 ∧ col x.bt ≠ 9; rw [h.ct]; decide)), hrec⟩
theorem Ret4.five {T : Tys} {col col' : Nat → Nat} {w w1 w' : World} {b bd N : Nat} {y : Sv} {t : St} {v : Value} {e : Ending} (hr : Ret4 T col' w1 b bd N y t v e w') (hc : Chg (Fl col) w w1) (hrec : Rec col col' w w1) : Ret5 T col w b bd N t v e w' := by
  obtain ⟨z, h1, h2, h3, _⟩ := hr
  exact ⟨col', z, h1, h2, hc.recol h3 hrec.grow, hrec.old, hrec.grow⟩
set_option maxRecDepth 100000 in
set_option maxHeartbeats 2000000 in
theorem end_none (col : Nat → Nat) (w : World) (b bd N : Nat) (x : Sv) (s : St) (i : Int) (f : Bool) (h : StAt Ts col w b bd N x s) (hI : Inv s) (hw : s.v.d.waits.length ≤ 900000000) (hN : N ≤ 900000000) (hi : i < 0 ∨ (s.v.d.l.length : Int) ≤ i) :
    Calls Try.prog 41 #[.pointer (some ⟨b, 0, none⟩), .int .i64 i, .bool f] w (Ret5 Ts col w b bd (N + 1) (s.end_ i f).1 (errV (s.end_ i f).2)) := by
  have hcall := stend_any col w b bd N x s i f h hI hw hN
  rw [drvEndAt_none _ _ _ hi] at hcall
  have He : Hid (s.end_ i f = (s, 5)) := St.end_none s f hi
  have Hcall := Lib.hid hcall
  have H := Lib.hid h
  have c1 : w.cell? ⟨b, 1, none⟩ = some (.pointer (some ⟨x.bv, 0, none⟩)) := h.cell 1
  clear h hI hw hN hi hcall
  go_enter Try.func41, Try.ntmps41
  go_wp2_with fail
  refine Hcall.out.mono ?_
  rintro e w1 ⟨col', c, ov, rfl, hc, hok, hov, hst, hch, hrec⟩
  obtain ⟨Ad, cd, e1, _, _⟩ := hok.data.form
  obtain ⟨At, ct, e2, _, _⟩ := hok.tags.form
  obtain ⟨Ao, co, e3, _, _⟩ := hov.form
  obtain ⟨rr, rdv, rtv⟩ := c
  simp only at e1 e2 hc
  subst e1 e2 e3
  have Hst := Lib.hid hst
  have Hch := Lib.hid hch
  have Hrec := Lib.hid hrec
  clear hc hok hov hst hch hrec c1
  unfold rsCells
  go_wp2_with fail
  go_ret
  rw [He.out]
  have hb1 := fun o => (Below.refl w1.heap.size w1).alloc (Nat.le_refl _) o
  exact ⟨col', _, rfl, Hst.out.below (hb1 _), Hch.out.two (Chg.of_below (hb1 _)), Hrec.out.old, Hrec.out.grow⟩
set_option maxRecDepth 100000 in
set_option maxHeartbeats 2000000 in
theorem end_again (col : Nat → Nat) (w : World) (b bd N : Nat) (x : Sv) (s : St) (k : Nat) (r : Rq) (h : StAt Ts col w b bd N x s) (hI : Inv s) (hw : s.v.d.waits.length ≤ 900000000) (hN : N ≤ 900000000) (hk : s.v.d.l[k]? = some r) (h3 : s.v.tries (tagOf r) + 1 < 3) :
    Calls Try.prog 41 #[.pointer (some ⟨b, 0, none⟩), .int .i64 (k : Int), .bool true] w (Ret5 Ts col w b bd (N + 1) (s.end_ k true).1 (errV (s.end_ k true).2)) := by
  have hcall := stend_any col w b bd N x s k true h hI hw hN
  rw [drvEndAt_again _ _ _ hk hI.dv.two h3, St.start_again hk hI.dv.two] at hcall
  have He : Hid (s.end_ k true = (s.again k r, 0)) := St.end_again hk hI.dv.two h3
  have Hcall := Lib.hid hcall
  have H := Lib.hid h
  have c1 : w.cell? ⟨b, 1, none⟩ = some (.pointer (some ⟨x.bv, 0, none⟩)) := h.cell 1
  clear h hI hw hN hk h3 hcall
  go_enter Try.func41, Try.ntmps41
  go_wp2_with fail
  refine Hcall.out.mono ?_
  rintro e w1 ⟨col', c, ov, rfl, hc, hok, hov, hst, hch, hrec⟩
  obtain ⟨Ad, cd, e1, _, _⟩ := hok.data.form
  obtain ⟨At, ct, e2, _, _⟩ := hok.tags.form
  obtain ⟨Ao, co, e3, _, _⟩ := hov.form
  obtain ⟨rr, rdv, rtv⟩ := c
  simp only at e1 e2 hc
  subst e1 e2 e3
  have Hst := Lib.hid hst
  have Hch := Lib.hid hch
  have Hrec := Lib.hid hrec
  clear hc hok hov hst hch hrec c1
  unfold rsCells
  go_wp2_with fail
  go_ret
  rw [He.out]
  have hb1 := fun o => (Below.refl w1.heap.size w1).alloc (Nat.le_refl _) o
  exact ⟨col', _, rfl, Hst.out.below (hb1 _), Hch.out.two (Chg.of_below (hb1 _)), Hrec.out.old, Hrec.out.grow⟩
set_option maxRecDepth 100000 in
set_option maxHeartbeats 2000000 in
theorem end_gone (col : Nat → Nat) (w : World) (b bd N : Nat) (x : Sv) (s : St) (k : Nat) (r : Rq) (K : Int) (h : StAt Ts col w b bd N x s) (hI : Inv s) (hB : Bd K s) (h0 : 0 ≤ K) (hK : K ≤ 800000000) (hN : N ≤ 900000000) (hk : s.v.d.l[k]? = some r) (h3 : ¬ s.v.tries (tagOf r) + 1 < 3) :
    Calls Try.prog 41 #[.pointer (some ⟨b, 0, none⟩), .int .i64 (k : Int), .bool true] w (Ret5 Ts col w b bd (N + 1) (s.end_ k true).1 (errV (s.end_ k true).2)) := by
  have hcall := stend_any col w b bd N x s k true h hI (by have := hB.waits; omega) hN
  rw [drvEndAt_gone _ _ _ hk h3] at hcall
  have He : Hid (s.end_ k true = (((s.gone k r).wrong r).serve, 0)) := St.end_gone hk h3
  have HIg : Hid (Inv (s.gone k r)) := hI.gone hk
  have HBg : Hid (Bd K (s.gone k r)) := show Bd _ _ from ⟨hB.use, hB.tag, hB.waits⟩
  have Hrok : Hid (ReqOk r) := reqF_zero (hI.dv.l r (List.mem_of_getElem? hk))
  have Hcall := Lib.hid hcall
  have H := Lib.hid h
  have c1 : w.cell? ⟨b, 1, none⟩ = some (.pointer (some ⟨x.bv, 0, none⟩)) := h.cell 1
  clear h hI hB hN hk h3 hcall
  go_enter Try.func41, Try.ntmps41
  go_wp2_with fail
  refine Hcall.out.mono ?_
  rintro e w1 ⟨col', c, ov, rfl, hc, hok, hov, hst, hch, hrec⟩
  obtain ⟨Ad, cd, e1, _, _⟩ := hok.data.form
  obtain ⟨At, ct, e2, _, _⟩ := hok.tags.form
  obtain ⟨Ao, co, e3, _, _⟩ := hov.form
  obtain ⟨rr, rdv, rtv⟩ := c
  simp only at e1 e2 hc
  subst e1 e2 e3
  subst hc
  have Hst := Lib.hid hst
  have Hch := Lib.hid hch
  have Hrec := Lib.hid hrec
  have Hok := Lib.hid hok
  have hb1 := fun o => (Below.refl w1.heap.size w1).alloc (Nat.le_refl _) o
  have HB1 := Lib.hid hb1
  clear hok hov hst hch hrec c1 hb1
  unfold rsCells
  go_wp2_with fail
  have HB2 := Lib.hid (HB1.out (.cells #[.bool rr.write, .int .i64 rr.lo, .int .i64 rr.many, .slice Ad rr.data.length cd, .slice At rr.tags.length ct, .int .i64 rr.born, .slice Ao (0 : Nat) co, .int .i64 8] 109))
  clear HB1
  refine (wrong_any col' _ b bd (N + 1) _ (s.gone k rr) (Im w1 col') _ rr (Hst.out.below HB2.out) HIg.out (Hok.out.below HB2.out).req Hrok.out).mono ?_
  rintro e w3 ⟨y3, rfl, hst3, hc3, _⟩
  have Hst3 := Lib.hid hst3
  have HC3 : Hid (Chg (Fl col) w w3) := show Chg _ _ _ from (Hch.out.two (Chg.of_below HB2.out)).recol (hst3.chg1 hc3) Hrec.out.grow
  have HIw := Lib.hid (HIg.out.wrong rr)
  have HBw := Lib.hid (HBg.out.wrong rr)
  clear hst3 hc3
  go_wp2_with fail
  refine (serve_any col' w3 b bd (N + 1) _ _ K Hst3.out HIw.out HBw.out h0 hK).mono ?_
  rintro e w4 ⟨y4, rfl, hst4, hc4, _⟩
  have Hst4 := Lib.hid hst4
  have HC4 := Lib.hid (HC3.out.recol hc4 Hrec.out.grow)
  clear hst4 hc4
  go_wp2_with fail
  go_ret
  rw [He.out]
  exact ⟨col', _, rfl, Hst4.out, HC4.out, Hrec.out.old, Hrec.out.grow⟩
end Go.Proofs.Ytojmnfelecnenaa
namespace Go.Proofs.Ytojmnfelecnenaa
set_option linter.unusedSimpArgs false
set_option linter.unusedVariables false
open Go.RowKit Go.Sort

theorem strs_cell {S : Nat → Prop} {w : World} {A : Option Addr} {n cap k : Nat} {l : List ByteArray} (h : StrsAt S w (.slice A n cap) l) (hk : k < l.length) : ∃ g off, A = some ⟨g, off, none⟩ ∧ S g ∧ g < w.heap.size ∧ w.cell? ⟨g, off + k, none⟩ = some (.string (l.getD k noB)) := by
  obtain ⟨g, off, e, hS, hlt, hc⟩ := h.at_ (by omega)
  refine ⟨g, off, e, hS, hlt, ?_⟩
  have hx : l[k]? = some (l.getD k noB) := by rw [List.getD_eq_getElem?_getD, List.getElem?_eq_getElem hk]; rfl
  exact (hc k _ hx).1
theorem im_chg {col : Nat → Nat} {w w' : World} (h : Chg (Fl col) w w') {k : Nat} (hk : Im w col k) : w'.heap[k]? = w.heap[k]? := h.block k hk.1 (fun hf => hf.1 hk.2)
set_option maxRecDepth 100000 in
set_option maxHeartbeats 4000000 in
theorem end_ok_w (col : Nat → Nat) (w : World) (b bd N : Nat) (x : Sv) (s : St) (k : Nat) (r : Rq) (K : Int) (h : StAt Ts col w b bd N x s) (hI : Inv s) (hB : Bd K s) (h0 : 0 ≤ K) (hK : K ≤ 700000000) (hN : N ≤ 900000000) (hk : s.v.d.l[k]? = some r) (hwr : r.write = true) :
    Calls Try.prog 41 #[.pointer (some ⟨b, 0, none⟩), .int .i64 (k : Int), .bool false] w (Ret5 Ts col w b bd (N + 1) (s.end_ k false).1 (errV (s.end_ k false).2)) := by
  have hcall := stend_any col w b bd N x s k false h hI (by have := hB.waits; omega) hN
  rw [drvEndAt_ok _ _ _ hk, St.ended_res] at hcall
  have He : Hid (s.end_ k false = (((s.did k r).endedN r.write r.lo (s.outs r) r.many.toNat).serve, 0)) := St.end_ok hk
  have Hrok : Hid (ReqOk r) := reqF_zero (hI.dv.l r (List.mem_of_getElem? hk))
  have Hdb : Hid (Bd (K + 4) (s.did k r)) := show Bd _ _ from by
    have h1 := (hI.dv.ended Hrok.out k false).2
    exact ⟨by have := hB.use; show s.use ≤ _; omega, by have := hB.tag; show s.tag ≤ _; omega, by have := hB.waits; show ((s.v.d.ended r k false).1.waits.length : Int) ≤ _; omega⟩
  have HIn : Hid (∀ n, n ≤ r.many.toNat → Inv ((s.did k r).endedN r.write r.lo (s.outs r) n)) := fun n hn => hI.endedN hk n hn
  have Hout : Hid (s.outs r = r.data) := show _ = _ by unfold St.outs; rw [if_pos hwr]
  have Hcall := Lib.hid hcall
  have H := Lib.hid h
  have c1 : w.cell? ⟨b, 1, none⟩ = some (.pointer (some ⟨x.bv, 0, none⟩)) := h.cell 1
  clear h hI hB hN hk hcall
  go_enter Try.func41, Try.ntmps41
  go_wp2_with fail
  refine Hcall.out.mono ?_
  rintro e w1 ⟨col', c, ov, rfl, hc, hok, hov, hst, hch, hrec⟩
  obtain ⟨Ad, cd, e1, _, _⟩ := hok.data.form
  obtain ⟨At, ct, e2, _, _⟩ := hok.tags.form
  obtain ⟨Ao, co, e3, _, _⟩ := hov.form
  obtain ⟨rr, rdv, rtv⟩ := c
  simp only at e1 e2 hc
  subst e1 e2 e3
  subst hc
  have Hwr := Lib.hid hwr
  have Hst := Lib.hid hst
  have Hch := Lib.hid hch
  have Hrec := Lib.hid hrec
  have Hok := Lib.hid hok
  have hb1 := fun o => (Below.refl w1.heap.size w1).alloc (Nat.le_refl _) o
  have HB1 := Lib.hid hb1
  clear hok hov hst hch hrec c1 hb1 hwr
  unfold rsCells
  simp only [Hwr.out]
  go_wp2_with fail
  obtain ⟨B, hBz⟩ : ∃ B, w1.heap.size = B := ⟨_, rfl⟩
  have HB2 := Lib.hid (HB1.out (.cells #[.bool true, .int .i64 rr.lo, .int .i64 rr.many, .slice Ad rr.data.length cd, .slice At rr.tags.length ct, .int .i64 rr.born, .slice Ao (0 : Nat) co, .int .i64 0] 109))
  have HX : Hid ((w1.alloc (.cells #[.bool true, .int .i64 rr.lo, .int .i64 rr.many, .slice Ad rr.data.length cd, .slice At rr.tags.length ct, .int .i64 rr.born, .slice Ao (0 : Nat) co, .int .i64 0] 109)).heap[B]? = some (.cells #[.bool true, .int .i64 rr.lo, .int .i64 rr.many, .slice Ad rr.data.length cd, .slice At rr.tags.length ct, .int .i64 rr.born, .slice Ao (0 : Nat) co, .int .i64 0] 109 (0, 0))) := show _ = _ from hBz ▸ heap_alloc_new w1 _
  have HcB : Hid (col' B = 0) := show _ = _ by
    rcases Nat.eq_zero_or_pos (col' B) with h1 | h1
    · exact h1
    · have := Hst.out.lt B (by omega); omega
  rw [hBz]
  have Hst2 := Lib.hid (Hst.out.below HB2.out)
  have Hch2 := Lib.hid (Hch.out.two (Chg.of_below HB2.out))
  have Hok2 := Lib.hid ((Hok.out.below HB2.out).data)
  clear HB1 HB2 hBz
  generalize World.alloc _ _ = w2 at HX Hst2 Hch2 Hok2 ⊢
  obtain ⟨n, hn⟩ : ∃ n : Nat, rr.many.toNat = n := ⟨_, rfl⟩
  obtain ⟨a1, a2, a3, a4, a5⟩ := Hrok.out.span
  have hmn : rr.many = (n : Int) := by omega
  have Hmn := Lib.hid hmn
  have Hn := Lib.hid hn
  have Hlen : Hid (rr.data.length = n) := show _ = _ by have := Hrok.out.len Hwr.out; omega
  have hn4 : n ≤ 4 := by omega
  clear hmn hn
  go_loopw [47] (fun i wr => ∃ (m : Nat) (y : Sv), m ≤ n ∧ i = .int .i64 m ∧ Hid (StAt Ts col' wr b bd (N + 1) y ((s.did k rr).endedN rr.write rr.lo (s.outs rr) m)) ∧ Hid (Chg (Fl col') w2 wr)) (fun i _ => n - (intOf i).toNat)
  case atStart => exact ⟨0, _, by omega, rfl, Hst2.out, Chg.refl⟩
  case round =>
    obtain ⟨m, y, hm, rfl, HS, HC⟩ := hrel
    have HXr : Hid (wr.heap[B]? = _) := show _ = _ from (HC.out.block B (Array.getElem?_eq_some_iff.1 HX.out).1 (fun hf => hf.1 HcB.out)).trans HX.out
    have d0 : wr.cell? ⟨B, 0, none⟩ = some (.bool true) := cell_of_row _ _ 0 _ _ _ HXr.out
    have d1 : wr.cell? ⟨B, 1, none⟩ = some (.int .i64 rr.lo) := cell_of_row _ _ 1 _ _ _ HXr.out
    have d3 : wr.cell? ⟨B, 3, none⟩ = some (.slice Ad rr.data.length cd) := cell_of_row _ _ 3 _ _ _ HXr.out
    by_cases hlt : m < n
    · have hlt2 : (m : Int) < rr.many := by rw [Hmn.out]; omega
      obtain ⟨g, off, eA, hSg, hgl, hgc⟩ := strs_cell (k := m) Hok2.out (by rw [Hlen.out]; exact hlt)
      subst eA
      have hmd : m < rr.data.length := by rw [Hlen.out]; exact hlt
      have dg : wr.cell? ⟨g, off + m, none⟩ = some (.string (rr.data.getD m noB)) := by
        rw [← hgc]
        exact World.cell?_of_block (HC.out.block g hgl (fun hf => by have h1 := hSg.2; exact hf.1 h1))
      obtain ⟨sd, hsd⟩ : ∃ z, rr.data.getD m noB = z := ⟨_, rfl⟩
      rw [hsd] at dg
      have Hsd := Lib.hid hsd
      clear hsd
      have HE : Hid ((s.did k rr).endedN rr.write rr.lo (s.outs rr) (m + 1) = { (s.did k rr).endedN rr.write rr.lo (s.outs rr) m with bufs := cleanB ((s.did k rr).endedN rr.write rr.lo (s.outs rr) m).bufs (rr.lo + (m : Int)) sd }) := show _ = _ by
        rw [St.endedN, Hout.out, Hsd.out]
        unfold St.ended1
        rw [if_pos Hwr.out]
      have hwrap : IntKind.i64.wrap (rr.lo + (m : Int)) = rr.lo + (m : Int) := IntWalk.i64_in _ (by omega)
      have c2 : wr.cell? ⟨b, 2, none⟩ = some y.bufs := HS.out.cell 2
      have f2 := HS.out.frozen 2
      have HIm := Lib.hid (HIn.out m (by rw [Hn.out]; omega))
      have HIm1 := Lib.hid (HIn.out (m + 1) (by rw [Hn.out]; omega))
      have HSd := Lib.hid (HS.out.below (Below.refl _ _).drew)
      have Hln : Hid (((s.did k rr).endedN rr.write rr.lo (s.outs rr) m).bufs.length ≤ 65536) := show _ ≤ _ by have := HIm.out.len8; omega
      clear hgc hgl hSg
      go_wp2_with fail
      go_region_law
        (first
          | (go_simp
             go_at_call 59
             (with_reducible refine (clean_any (Im wr.drew col') _ y.bufs (rr.lo + (m : Int)) sd wr.drew HSd.out.bufs HIm.out.rises Hln.out).mono ?_)
             rintro e u2 ⟨v2, rfl, ho2, hb2⟩
             obtain ⟨A2, n2, m2, e2, en⟩ := own_slice' ho2
             subst e2
             subst en
             have Ho2 := Lib.hid ho2
             have HB2 := Lib.hid hb2
             have Hst3 := Lib.hid (HSd.out.below hb2)
             have f3 := Hst3.out.frozen 2
             have q3 : u2.cell? ⟨b, 2, none⟩ = some y.bufs := cell_b hb2 c2
             clear ho2 hb2)
          | fail)
      all_goals
        have hS3 := (Same1.refl (b := b) (w := u2)).setCell 2 (.slice A2 (cleanB ((s.did k rr).endedN rr.write rr.lo (s.outs rr) m).bufs (rr.lo + (m : Int)) sd).length m2)
        have hI3 := HIm1.out
        rw [HE.out] at hI3
        have hv3 : BufsAt (S0 col') u2 (.slice A2 (cleanB ((s.did k rr).endedN rr.write rr.lo (s.outs rr) m).bufs (rr.lo + (m : Int)) sd).length m2) (cleanB ((s.did k rr).endedN rr.write rr.lo (s.outs rr) m).bufs (rr.lo + (m : Int)) sd) := bufs_of_own (fun k hk => HSd.out.s0 k hk) Ho2.out (hI3.bok (by have := (Hdb.out.endedN rr.write rr.lo (s.outs rr) m).use; show ((s.did k rr).endedN rr.write rr.lo (s.outs rr) m).use ≤ _; omega))
        have Hst4 := Lib.hid (Hst3.out.bufd hS3 hv3 (heap_setCell_same _ _ 2 _ _ _ Hst3.out.row))
        have HC4 : Hid (Chg (Fl col') w2 (u2.setCell ⟨b, 2, none⟩ (.slice A2 (cleanB ((s.did k rr).endedN rr.write rr.lo (s.outs rr) m).bufs (rr.lo + (m : Int)) sd).length m2))) := show Chg _ _ _ from (HC.out.drew.two (Chg.of_below HB2.out)).two (HSd.out.chg1 (hS3.chg (F := fun k => k = b) rfl))
        clear hS3 hI3 hv3 f3 q3 c2 f2 dg d0 d1 d3 hwrap
        generalize World.setCell _ _ _ = u3 at Hst4 HC4 ⊢
        go_wp2_with fail
        go_roundw
        case rel => exact ⟨m + 1, _, by omega, by go_num, HE.out ▸ Hst4.out, HC4.out⟩
        case measure => simp [intOf]; omega
    · obtain rfl : m = n := by omega
      have hlt2 : ¬ (m : Int) < rr.many := by rw [Hmn.out]; omega
      have HIm := Lib.hid (HIn.out m (by rw [Hn.out]; omega))
      have HBm : Hid (Bd (K + 10) ((s.did k rr).endedN rr.write rr.lo (s.outs rr) m)) := show Bd _ _ from (Hdb.out.endedN rr.write rr.lo (s.outs rr) m).mono (by omega)
      clear d0 d1 d3
      go_wp2_with fail
      refine (serve_any col' wr b bd (N + 1) y _ (K + 10) HS.out HIm.out HBm.out (by omega) (by omega)).mono ?_
      rintro e w4 ⟨y4, rfl, hst4, hc4, _⟩
      have Hst4 := Lib.hid hst4
      have HC4 := Lib.hid ((Hch2.out.recol HC.out Hrec.out.grow).recol hc4 Hrec.out.grow)
      clear hst4 hc4
      go_wp2_with fail
      go_ret
      rw [He.out, Hn.out]
      exact ⟨col', _, rfl, Hst4.out, HC4.out, Hrec.out.old, Hrec.out.grow⟩
end Go.Proofs.Ytojmnfelecnenaa
namespace Go.Proofs.Ytojmnfelecnenaa
set_option linter.unusedSimpArgs false
set_option linter.unusedVariables false
open Go.RowKit Go.Sort

set_option maxRecDepth 100000 in
set_option maxHeartbeats 4000000 in
theorem end_ok_r (col : Nat → Nat) (w : World) (b bd N : Nat) (x : Sv) (s : St) (k : Nat) (r : Rq) (K : Int) (h : StAt Ts col w b bd N x s) (hI : Inv s) (hB : Bd K s) (h0 : 0 ≤ K) (hK : K ≤ 700000000) (hN : N ≤ 900000000) (hk : s.v.d.l[k]? = some r) (hwr : r.write = false) :
    Calls Try.prog 41 #[.pointer (some ⟨b, 0, none⟩), .int .i64 (k : Int), .bool false] w (Ret5 Ts col w b bd (N + 1) (s.end_ k false).1 (errV (s.end_ k false).2)) := by
  have hcall := stend_any col w b bd N x s k false h hI (by have := hB.waits; omega) hN
  rw [drvEndAt_ok _ _ _ hk, St.ended_res] at hcall
  have He : Hid (s.end_ k false = (((s.did k r).endedN r.write r.lo (s.outs r) r.many.toNat).serve, 0)) := St.end_ok hk
  have Hrok : Hid (ReqOk r) := reqF_zero (hI.dv.l r (List.mem_of_getElem? hk))
  have Hdb : Hid (Bd (K + 4) (s.did k r)) := show Bd _ _ from by
    have h1 := (hI.dv.ended Hrok.out k false).2
    exact ⟨by have := hB.use; show s.use ≤ _; omega, by have := hB.tag; show s.tag ≤ _; omega, by have := hB.waits; show ((s.v.d.ended r k false).1.waits.length : Int) ≤ _; omega⟩
  have HIn : Hid (∀ n, n ≤ r.many.toNat → Inv ((s.did k r).endedN r.write r.lo (s.outs r) n)) := fun n hn => hI.endedN hk n hn
  have Hrd : Hid ((if r.write then [] else s.v.d.reads r.lo.toNat r.many.toNat) = s.outs r) := show _ = _ by unfold St.outs; rw [hwr]; rfl
  have Hos : Hid (∀ d ∈ s.outs r, d.size ≤ 16) := hI.outs_size hk
  have Hfree : Hid (∀ q, hasB r.lo r.many q = true → (s.did k r).heldP q = false) := fun q hq => hI.did_free hk hq
  rw [Hrd.out] at hcall
  have Hcall := Lib.hid hcall
  have Hnow : Hid (s.v.d.now.length = 32) := hI.dv.now
  have H := Lib.hid h
  have c1 : w.cell? ⟨b, 1, none⟩ = some (.pointer (some ⟨x.bv, 0, none⟩)) := h.cell 1
  clear h hI hB hN hk hcall
  go_enter Try.func41, Try.ntmps41
  go_wp2_with fail
  refine Hcall.out.mono ?_
  rintro e w1 ⟨col', c, ov, rfl, hc, hok, hov, hst, hch, hrec⟩
  obtain ⟨Ad, cd, e1, _, _⟩ := hok.data.form
  obtain ⟨At, ct, e2, _, _⟩ := hok.tags.form
  obtain ⟨Ao, co, e3, _, _⟩ := hov.form
  obtain ⟨rr, rdv, rtv⟩ := c
  simp only at e1 e2 hc
  subst e1 e2 e3
  subst hc
  have Hwr := Lib.hid hwr
  have Hst := Lib.hid hst
  have Hch := Lib.hid hch
  have Hrec := Lib.hid hrec
  have Hov := Lib.hid hov
  have hb1 := fun o => (Below.refl w1.heap.size w1).alloc (Nat.le_refl _) o
  have HB1 := Lib.hid hb1
  clear hok hov hst hch hrec c1 hb1 hwr
  unfold rsCells
  simp only [Hwr.out]
  go_wp2_with fail
  obtain ⟨B, hBz⟩ : ∃ B, w1.heap.size = B := ⟨_, rfl⟩
  have HB2 := Lib.hid (HB1.out (.cells #[.bool false, .int .i64 rr.lo, .int .i64 rr.many, .slice Ad rr.data.length cd, .slice At rr.tags.length ct, .int .i64 rr.born, .slice Ao (s.outs rr).length co, .int .i64 0] 109))
  have HX : Hid ((w1.alloc (.cells #[.bool false, .int .i64 rr.lo, .int .i64 rr.many, .slice Ad rr.data.length cd, .slice At rr.tags.length ct, .int .i64 rr.born, .slice Ao (s.outs rr).length co, .int .i64 0] 109)).heap[B]? = some (.cells #[.bool false, .int .i64 rr.lo, .int .i64 rr.many, .slice Ad rr.data.length cd, .slice At rr.tags.length ct, .int .i64 rr.born, .slice Ao (s.outs rr).length co, .int .i64 0] 109 (0, 0))) := show _ = _ from hBz ▸ heap_alloc_new w1 _
  have HcB : Hid (col' B = 0) := show _ = _ by
    rcases Nat.eq_zero_or_pos (col' B) with h1 | h1
    · exact h1
    · have := Hst.out.lt B (by omega); omega
  rw [hBz]
  have Hst2 := Lib.hid (Hst.out.below HB2.out)
  have Hch2 := Lib.hid (Hch.out.two (Chg.of_below HB2.out))
  have Hok2 := Lib.hid (Hov.out.below HB2.out)
  clear HB1 HB2 hBz
  generalize World.alloc _ _ = w2 at HX Hst2 Hch2 Hok2 ⊢
  obtain ⟨n, hn⟩ : ∃ n : Nat, rr.many.toNat = n := ⟨_, rfl⟩
  obtain ⟨a1, a2, a3, a4, a5⟩ := Hrok.out.span
  have hmn : rr.many = (n : Int) := by omega
  have Hmn := Lib.hid hmn
  have Hn := Lib.hid hn
  have Hlen : Hid ((s.outs rr).length = n) := show _ = _ by
    have h1 := H.out
    rw [← Hrd.out, Hwr.out, if_neg (by decide)]
    unfold Dv.reads
    rw [List.length_take, List.length_drop, Hnow.out, Hn.out]
    omega
  have hn4 : n ≤ 4 := by omega
  clear hmn hn
  go_loopw [47] (fun i wr => ∃ (m : Nat) (y : Sv), m ≤ n ∧ i = .int .i64 m ∧ Hid (StAt Ts col' wr b bd (N + 1) y ((s.did k rr).endedN rr.write rr.lo (s.outs rr) m)) ∧ Hid (Chg (Fl col') w2 wr)) (fun i _ => n - (intOf i).toNat)
  case atStart => exact ⟨0, _, by omega, rfl, Hst2.out, Chg.refl⟩
  case round =>
    obtain ⟨m, y, hm, rfl, HS, HC⟩ := hrel
    have HXr : Hid (wr.heap[B]? = _) := show _ = _ from (HC.out.block B (Array.getElem?_eq_some_iff.1 HX.out).1 (fun hf => hf.1 HcB.out)).trans HX.out
    have d0 : wr.cell? ⟨B, 0, none⟩ = some (.bool false) := cell_of_row _ _ 0 _ _ _ HXr.out
    have d1 : wr.cell? ⟨B, 1, none⟩ = some (.int .i64 rr.lo) := cell_of_row _ _ 1 _ _ _ HXr.out
    have d6 : wr.cell? ⟨B, 6, none⟩ = some (.slice Ao (s.outs rr).length co) := cell_of_row _ _ 6 _ _ _ HXr.out
    by_cases hlt : m < n
    · have hlt2 : (m : Int) < rr.many := by rw [Hmn.out]; omega
      obtain ⟨g, off, eA, hSg, hgl, hgc⟩ := strs_cell (k := m) Hok2.out (by rw [Hlen.out]; exact hlt)
      subst eA
      have hmd : m < (s.outs rr).length := by rw [Hlen.out]; exact hlt
      obtain ⟨sd, hsd⟩ : ∃ z, (s.outs rr).getD m noB = z := ⟨_, rfl⟩
      have dg : wr.cell? ⟨g, off + m, none⟩ = some (.string sd) := by
        rw [← hsd, ← hgc]
        exact World.cell?_of_block (HC.out.block g hgl (fun hf => by have h1 := hSg.2; exact hf.1 h1))
      have Hg0 : Hid (col' g = 0) := hSg.2
      have hgl2 : g < wr.heap.size := Nat.lt_of_lt_of_le hgl HC.out.size
      have hgb : g ≠ b := by rintro rfl; have h1 := Hg0.out; rw [Hst2.out.cb] at h1; cases h1
      have hBb : B ≠ b := by rintro rfl; have h1 := HcB.out; rw [Hst2.out.cb] at h1; cases h1
      have Hsz : Hid (sd.size ≤ 16) := show _ ≤ _ from hsd ▸ getD_size Hos.out m
      have Hsd := Lib.hid hsd
      clear hsd
      have HIm := Lib.hid (HIn.out m (by rw [Hn.out]; omega))
      have HBm := Lib.hid (Hdb.out.endedN rr.write rr.lo (s.outs rr) m)
      have HE0 : Hid ((s.did k rr).endedN rr.write rr.lo (s.outs rr) (m + 1) = ((s.did k rr).endedN rr.write rr.lo (s.outs rr) m).ended1 false (rr.lo + (m : Int)) sd) := show _ = _ by rw [St.endedN, Hsd.out]; rw [Hwr.out]
      have Hfr : Hid (((s.did k rr).endedN rr.write rr.lo (s.outs rr) m).heldP (rr.lo + (m : Int)) = false) := show _ = _ by rw [(Keeps.endedN _ _ _ _ m).held]; exact Hfree.out _ (by rw [hasB_iff]; omega)
      obtain ⟨t, ht⟩ : ∃ t, ((s.did k rr).endedN rr.write rr.lo (s.outs rr) m) = t := ⟨_, rfl⟩
      rw [ht] at HS HIm HBm HE0 Hfr
      clear ht
      have hwrap : IntKind.i64.wrap (rr.lo + (m : Int)) = rr.lo + (m : Int) := IntWalk.i64_in _ (by omega)
      have Hp : Hid (0 ≤ rr.lo + (m : Int) ∧ rr.lo + (m : Int) ≤ 31) := show _ ∧ _ by omega
      have c2 : wr.cell? ⟨b, 2, none⟩ = some y.bufs := HS.out.cell 2
      clear hgc hgl hSg
      go_wp2_with fail
      refine (get_st HS.out HIm.out (rr.lo + (m : Int)) wr (Below.refl _ _)).mono ?_
      rintro e w3 ⟨rfl, hb3⟩
      have HB3 := Lib.hid hb3
      have HXs : Hid (w3.heap[B]? = _) := show _ = _ from (hb3.block _ (Array.getElem?_eq_some_iff.1 HXr.out).1).trans HXr.out
      have c2 := cell_b hb3 c2
      have dg := cell_b hb3 dg
      have d6 := cell_b hb3 d6
      clear d0 d1 hb3
      unfold bfV
      cases hg : (getB t.bufs (rr.lo + (m : Int))).2 with
      | true =>
        have HE : Hid ((s.did k rr).endedN rr.write rr.lo (s.outs rr) (m + 1) = t) := show _ = _ by rw [HE0.out]; unfold St.ended1; rw [if_neg (by decide), if_pos hg]
        clear hg c2 dg d6
        go_wp2_with fail
        go_roundw
        case rel => exact ⟨m + 1, y, by omega, by go_num, HE.out ▸ (HS.out.below HB3.out).below ((Below.refl _ _).alloc (Nat.le_refl _) _), (HC.out.two (Chg.of_below HB3.out)).two (Chg.of_below ((Below.refl _ _).alloc (Nat.le_refl _) _))⟩
        case measure => simp [intOf]; omega
      | false =>
        have Hgn := Lib.hid hg
        clear hg
        go_wp2_with fail
        have hbA := (Below.refl w3.heap.size w3).alloc (Nat.le_refl _) (.cells #[.int .i64 (getB t.bufs (rr.lo + (m : Int))).1.pos, .string (getB t.bufs (rr.lo + (m : Int))).1.data, .bool (getB t.bufs (rr.lo + (m : Int))).1.dirty, .int .i64 (getB t.bufs (rr.lo + (m : Int))).1.used] 92)
        have HBA := Lib.hid hbA
        have H5 := Lib.hid ((HS.out.below HB3.out).below hbA)
        have k2 := cell_b hbA c2
        have kg := cell_b hbA dg
        have k6 := cell_b hbA d6
        have HX5 := Lib.hid ((hbA.block _ (Array.getElem?_eq_some_iff.1 HXs.out).1).trans HXs.out)
        have HC5 := Lib.hid ((HC.out.two (Chg.of_below HB3.out)).two (Chg.of_below hbA))
        have hgl5 := Nat.lt_of_lt_of_le hgl2 (Nat.le_trans HB3.out.size hbA.size)
        clear hbA c2 dg d6
        generalize World.alloc _ _ = w5 at HBA H5 k2 kg k6 HX5 HC5 hgl5 ⊢
        have H5d := Lib.hid (H5.out.below (Below.refl _ _).drew)
        have Hus : Hid (0 ≤ t.use ∧ t.use ≤ 1000000000) := show _ ∧ _ from ⟨HIm.out.use0, by have := HBm.out.use; omega⟩
        have Hin : Hid (InB t.bufs) := HIm.out.inb
        have Hln : Hid (t.bufs.length ≤ 65536) := show _ ≤ _ by have := HIm.out.len8; omega
        have HXd : Hid (w5.drew.heap[B]? = _) := HX5
        have K0 : w5.drew.cell? ⟨b, 2, none⟩ = some y.bufs ∧ w5.drew.cell? ⟨B, 6, none⟩ = some (.slice (some ⟨g, off, none⟩) (s.outs rr).length co) ∧ w5.drew.cell? ⟨g, off + m, none⟩ = some (.string sd) := ⟨k2, k6, kg⟩
        have hat : atB t.bufs (rr.lo + (m : Int)) = none := by unfold atB; rw [Hgn.out]; rfl
        have Hat := Lib.hid hat
        clear k2 k6 kg hat
        cases hp : putB t.bufs ⟨rr.lo + (m : Int), sd, false, t.use + 1⟩ t.heldP with
        | some l =>
          have HE : Hid ((s.did k rr).endedN rr.write rr.lo (s.outs rr) (m + 1) = ({ t with use := t.use + 1, bufs := l } : St).tell (rr.lo + (m : Int)) sd) := show _ = _ by rw [HE0.out]; unfold St.ended1; rw [if_neg (by decide), if_neg (by rw [Hgn.out]; decide), hp]; rfl
          have Hpp := Lib.hid hp
          clear hp
          go_region_held3 (fun q => q.cell? ⟨b, 2, none⟩ = some y.bufs ∧ q.cell? ⟨B, 6, none⟩ = some (.slice (some ⟨g, off, none⟩) (s.outs rr).length co) ∧ q.cell? ⟨g, off + m, none⟩ = some (.string sd))
            (first | exact K2 | exact K1 | exact K0)
            (first
              | ((with_reducible refine (used_any col' w5.drew b bd (N + 1) y t H5d.out Hus.out).mono ?_); rintro e u1 ⟨rfl, hS1, hst1⟩; have K1 : u1.cell? ⟨b, 2, none⟩ = some y.bufs ∧ u1.cell? ⟨B, 6, none⟩ = some (.slice (some ⟨g, off, none⟩) (s.outs rr).length co) ∧ u1.cell? ⟨g, off + m, none⟩ = some (.string sd) := ⟨hst1.cell 2, cell_of_row _ _ 6 _ _ _ ((hS1.block B hBb).trans HXd.out), (World.cell?_of_block (hS1.block g hgb)).trans K0.2.2⟩; have HS1 := Lib.hid hS1; have Hst1 := Lib.hid hst1; have Hbu : Hid (BufsAt (Im u1 col') u1 y.bufs t.bufs) := hst1.bufs; have Hby : Hid (HeldBy u1 50 #[.pointer (some ⟨b, 0, none⟩)] #[] t.heldP) := (held_by col' u1 b bd (N + 1) y { t with use := t.use + 1 } hst1 (good_oks HIm.out.good) HIm.out.dv.two); clear hS1 hst1)
              | ((with_reducible refine (put_some (Im u1 col') t.bufs l y.bufs ⟨rr.lo + (m : Int), sd, false, t.use + 1⟩ 50 #[.pointer (some ⟨b, 0, none⟩)] #[] t.heldP u1 Hbu.out HIm.out.rises Hin.out Hby.out Hln.out Hpp.out).mono ?_); rintro e u2 ⟨v2, rfl, ho2, hb2⟩; have K2 : u2.cell? ⟨b, 2, none⟩ = some y.bufs ∧ u2.cell? ⟨B, 6, none⟩ = some (.slice (some ⟨g, off, none⟩) (s.outs rr).length co) ∧ u2.cell? ⟨g, off + m, none⟩ = some (.string sd) := ⟨cell_b hb2 K1.1, cell_b hb2 K1.2.1, cell_b hb2 K1.2.2⟩; obtain ⟨A2, n2, m2, e2, en⟩ := own_slice' ho2; subst e2; subst en; have Ho2 := Lib.hid ho2; have HB2 := Lib.hid hb2; have Hst2' := Lib.hid (Hst1.out.below hb2); have q2 := K2.1; have q6 := K2.2.1; have qg := K2.2.2; have f2 := Hst2'.out.frozen 2; clear ho2 hb2)
              | fail)
          all_goals
            clear K0 K1 K2
            have hS3 := (Same1.refl (b := b) (w := u2)).setCell 2 (.slice A2 l.length m2)
            have hI3 : Inv { t with use := t.use + 1, bufs := l } := HIm.out.putB Hpp.out Hp.out Hsz.out (show t.use ≤ t.use + 1 by omega) (by have := HIm.out.use0; simp only; omega) (fun h => by cases h) (.inr Hat.out)
            have hv3 : BufsAt (S0 col') u2 (.slice A2 l.length m2) l := bufs_of_own (fun k hk => Hst1.out.s0 k hk) Ho2.out (hI3.bok (by have := HBm.out.use; show t.use + 1 ≤ _; omega))
            have Hst3 := Lib.hid (Hst2'.out.bufd hS3 hv3 (heap_setCell_same _ _ 2 _ _ _ Hst2'.out.row))
            have HI3 := Lib.hid hI3
            have HC3 : Hid (Chg (Fl col') w2 (u2.setCell ⟨b, 2, none⟩ (.slice A2 l.length m2))) := show Chg _ _ _ from
              ((HC5.out.drew.two (H5.out.chg1 (HS1.out.chg (F := fun k => k = b) rfl))).two (Chg.of_below HB2.out)).two (H5.out.chg1 (hS3.chg (F := fun k => k = b) rfl))
            clear hS3 hI3 hv3
            try go_wp2_with fail
            clear q2 q6 qg f2
            generalize World.setCell _ _ _ = u3 at Hst3 HC3 ⊢
            refine (tell_any col' u3 b bd (N + 1) _ _ (rr.lo + (m : Int)) sd Hst3.out HI3.out).mono ?_
            rintro e w6 ⟨y6, rfl, hst6, hc6, _⟩
            have Hst6 := Lib.hid hst6
            have HC6 := Lib.hid (HC3.out.two (H5.out.chg1 hc6))
            clear hst6 hc6
            go_wp2_with fail
            go_roundw
            case rel => exact ⟨m + 1, _, by omega, by go_num, HE.out ▸ Hst6.out, HC6.out⟩
            case measure => simp [intOf]; omega
        | none =>
          have HE : Hid ((s.did k rr).endedN rr.write rr.lo (s.outs rr) (m + 1) = ({ t with use := t.use + 1 } : St).tell (rr.lo + (m : Int)) sd) := show _ = _ by rw [HE0.out]; unfold St.ended1; rw [if_neg (by decide), if_neg (by rw [Hgn.out]; decide), hp]; rfl
          have Hpp := Lib.hid hp
          clear hp
          go_region_held3 (fun q => q.cell? ⟨b, 2, none⟩ = some y.bufs ∧ q.cell? ⟨B, 6, none⟩ = some (.slice (some ⟨g, off, none⟩) (s.outs rr).length co) ∧ q.cell? ⟨g, off + m, none⟩ = some (.string sd))
            (first | exact K2 | exact K1 | exact K0)
            (first
              | ((with_reducible refine (used_any col' w5.drew b bd (N + 1) y t H5d.out Hus.out).mono ?_); rintro e u1 ⟨rfl, hS1, hst1⟩; have K1 : u1.cell? ⟨b, 2, none⟩ = some y.bufs ∧ u1.cell? ⟨B, 6, none⟩ = some (.slice (some ⟨g, off, none⟩) (s.outs rr).length co) ∧ u1.cell? ⟨g, off + m, none⟩ = some (.string sd) := ⟨hst1.cell 2, cell_of_row _ _ 6 _ _ _ ((hS1.block B hBb).trans HXd.out), (World.cell?_of_block (hS1.block g hgb)).trans K0.2.2⟩; have HS1 := Lib.hid hS1; have Hst1 := Lib.hid hst1; have Hbu : Hid (BufsAt (Im u1 col') u1 y.bufs t.bufs) := hst1.bufs; have Hby : Hid (HeldBy u1 50 #[.pointer (some ⟨b, 0, none⟩)] #[] t.heldP) := (held_by col' u1 b bd (N + 1) y { t with use := t.use + 1 } hst1 (good_oks HIm.out.good) HIm.out.dv.two); clear hS1 hst1)
              | ((with_reducible refine (put_none (Im u1 col') t.bufs y.bufs ⟨rr.lo + (m : Int), sd, false, t.use + 1⟩ 50 #[.pointer (some ⟨b, 0, none⟩)] #[] t.heldP u1 Hbu.out HIm.out.rises Hin.out Hby.out Hln.out Hpp.out).mono ?_); rintro e u2 ⟨rfl, hb2⟩; have K2 : u2.cell? ⟨b, 2, none⟩ = some y.bufs ∧ u2.cell? ⟨B, 6, none⟩ = some (.slice (some ⟨g, off, none⟩) (s.outs rr).length co) ∧ u2.cell? ⟨g, off + m, none⟩ = some (.string sd) := ⟨cell_b hb2 K1.1, cell_b hb2 K1.2.1, cell_b hb2 K1.2.2⟩; have HB2 := Lib.hid hb2; have Hst2' := Lib.hid (Hst1.out.below hb2); have q6 := K2.2.1; have qg := K2.2.2; clear hb2)
              | fail)
          all_goals
            clear K0 K1 K2
            have HI3 : Hid (Inv { t with use := t.use + 1 }) := HIm.out.use1 (show t.use ≤ t.use + 1 by omega)
            have HC3 : Hid (Chg (Fl col') w2 u2) := show Chg _ _ _ from (HC5.out.drew.two (H5.out.chg1 (HS1.out.chg (F := fun k => k = b) rfl))).two (Chg.of_below HB2.out)
            try go_wp2_with fail
            clear q6 qg
            refine (tell_any col' u2 b bd (N + 1) _ _ (rr.lo + (m : Int)) sd Hst2'.out HI3.out).mono ?_
            rintro e w6 ⟨y6, rfl, hst6, hc6, _⟩
            have Hst6 := Lib.hid hst6
            have HC6 := Lib.hid (HC3.out.two (H5.out.chg1 hc6))
            clear hst6 hc6
            go_wp2_with fail
            go_roundw
            case rel => exact ⟨m + 1, _, by omega, by go_num, HE.out ▸ Hst6.out, HC6.out⟩
            case measure => simp [intOf]; omega
    · obtain rfl : m = n := by omega
      have hlt2 : ¬ (m : Int) < rr.many := by rw [Hmn.out]; omega
      have HIm := Lib.hid (HIn.out m (by rw [Hn.out]; omega))
      have HBm : Hid (Bd (K + 10) ((s.did k rr).endedN rr.write rr.lo (s.outs rr) m)) := show Bd _ _ from (Hdb.out.endedN rr.write rr.lo (s.outs rr) m).mono (by omega)
      clear d0 d1 d6
      go_wp2_with fail
      refine (serve_any col' wr b bd (N + 1) y _ (K + 10) HS.out HIm.out HBm.out (by omega) (by omega)).mono ?_
      rintro e w4 ⟨y4, rfl, hst4, hc4, _⟩
      have Hst4 := Lib.hid hst4
      have HC4 := Lib.hid ((Hch2.out.recol HC.out Hrec.out.grow).recol hc4 Hrec.out.grow)
      clear hst4 hc4
      go_wp2_with fail
      go_ret
      rw [He.out, Hn.out]
      exact ⟨col', _, rfl, Hst4.out, HC4.out, Hrec.out.old, Hrec.out.grow⟩
theorem end_any (col : Nat → Nat) (w : World) (b bd N : Nat) (x : Sv) (s : St) (i : Int) (f : Bool) (K : Int) (h : StAt Ts col w b bd N x s) (hI : Inv s) (hB : Bd K s) (h0 : 0 ≤ K) (hK : K ≤ 700000000) (hN : N ≤ 900000000) :
    Calls Try.prog 41 #[.pointer (some ⟨b, 0, none⟩), .int .i64 i, .bool f] w (Ret5 Ts col w b bd (N + 1) (s.end_ i f).1 (errV (s.end_ i f).2)) := by
  rcases endAt_split s.v.d i with hi | ⟨k, r, rfl, hk⟩
  · exact end_none col w b bd N x s i f h hI (by have := hB.waits; omega) hN hi
  · cases f with
    | true =>
      by_cases h3 : s.v.tries (tagOf r) + 1 < 3
      · exact end_again col w b bd N x s k r h hI (by have := hB.waits; omega) hN hk h3
      · exact end_gone col w b bd N x s k r K h hI hB h0 (by omega) hN hk h3
    | false =>
      rcases Bool.eq_false_or_eq_true r.write with hw | hw
      · exact end_ok_w col w b bd N x s k r K h hI hB h0 hK hN hk hw
      · exact end_ok_r col w b bd N x s k r K h hI hB h0 hK hN hk hw
end Go.Proofs.Ytojmnfelecnenaa
