/- serve: each client that waits. Tick; tell, wrong: who reads is answered. -/
import Derived.Test.YtinknleckppciaaGreatDoorR34
import Derived.Test.YtinknleckppciaaGreatDoorR23
import Derived.Test.YtinknleckppciaaGreatDoorR33
namespace Go.Proofs.YtinknleckppciaaGreatDoor
set_option linter.unusedSimpArgs false
set_option linter.unusedVariables false
open Go.RowKit Go.Sort

theorem StAt.ptr {T : Tys} {col : Nat → Nat} {w : World} {b bd N : Nat} {x : Sv} {s : St} (h : StAt T col w b bd N x s) (c : Nat) (hc : c < 3) : ∃ p : Option Addr, x.av c = .pointer p ∧ (s.askAt c = none → p = none) ∧ (∀ a, s.askAt c = some a → ∃ ba : Nat, p = some ⟨ba, 0, none⟩) := by
  have ha := h.ask c hc
  cases ho : s.askAt c with
  | none => rw [ho] at ha; exact ⟨none, ha, fun _ => rfl, fun a h => (by cases h)⟩
  | some a =>
    rw [ho] at ha
    obtain ⟨ba, lv, h1, _⟩ := ha
    exact ⟨_, h1, fun h => (by cases h), fun _ _ => ⟨ba, rfl⟩⟩
/-- A client that waits is served, by its kind. -/
theorem serve1_read {s : St} {c : Nat} {a : Ak} (h : s.askAt c = some a) (hk : a.kind = 1) : s.serve1 c = s.read c a := by unfold St.serve1; rw [h]; simp [hk]
theorem serve1_write {s : St} {c : Nat} {a : Ak} (h : s.askAt c = some a) (hk : a.kind = 2) : s.serve1 c = s.write c a := by unfold St.serve1; rw [h]; simp [hk]
theorem serve1_sync {s : St} {c : Nat} {a : Ak} (h : s.askAt c = some a) (hk : a.kind = 3) : s.serve1 c = s.sync c a := by unfold St.serve1; rw [h]; simp [hk]
theorem idx_0 (v0 v1 v2 : Value) (w : World) : (Instr.index 70 (.agg #[v0, v1, v2]) (.int .i64 0)).run Tryz.prog w = .ok v0 w := by kernel_rfl
theorem idx_1 (v0 v1 v2 : Value) (w : World) : (Instr.index 70 (.agg #[v0, v1, v2]) (.int .i64 1)).run Tryz.prog w = .ok v1 w := by kernel_rfl
theorem idx_2 (v0 v1 v2 : Value) (w : World) : (Instr.index 70 (.agg #[v0, v1, v2]) (.int .i64 2)).run Tryz.prog w = .ok v2 w := by kernel_rfl
theorem asks_range {T : Tys} {col : Nat → Nat} {w : World} {b bd N : Nat} {x : Sv} {s : St} (h : StAt T col w b bd N x s) {v0 v1 v2 : Value} (h0 : x.a0 = v0) (h1 : x.a1 = v1) (h2 : x.a2 = v2) : w.rangeAt b 11 [v0, v1, v2] := by
  subst h0 h1 h2
  intro j v hv
  match j, hv with
  | 0, hv => cases hv; exact h.cell 11
  | 1, hv => cases hv; exact h.cell 12
  | 2, hv => cases hv; exact h.cell 13
set_option maxRecDepth 100000 in
set_option maxHeartbeats 4000000 in
theorem serve_any (col : Nat → Nat) (w : World) (b bd N : Nat) (x : Sv) (s : St) (K : Int) (h : StAt Ts col w b bd N x s) (hI : Inv s) (hB : Bd K s) (h0 : 0 ≤ K) (hK : K ≤ 800000000) :
    Calls Tryz.prog 38 #[.pointer (some ⟨b, 0, none⟩)] w (Ret4 Ts col w b bd N x s.serve (.tuple #[])) := by
  obtain ⟨p0, e0, n0, q0⟩ := h.ptr 0 (by omega)
  obtain ⟨p1, e1, n1, q1⟩ := h.ptr 1 (by omega)
  obtain ⟨p2, e2, n2, q2⟩ := h.ptr 2 (by omega)
  have HR : Hid (w.rangeAt b 11 [.pointer p0, .pointer p1, .pointer p2]) := asks_range h e0 e1 e2
  have E0 := Lib.hid e0
  have E1 := Lib.hid e1
  have E2 := Lib.hid e2
  have N0 := Lib.hid n0
  have N1 := Lib.hid n1
  have N2 := Lib.hid n2
  have Q0 := Lib.hid q0
  have Q1 := Lib.hid q1
  have Q2 := Lib.hid q2
  have H := Lib.hid h
  have HI := Lib.hid hI
  have HB := Lib.hid hB
  have Hs : Hid ((Tryz.prog.info? 70).map (·.size) = some 3) := show _ = _ by kernel_rfl
  clear h hI hB e0 e1 e2 n0 n1 n2 q0 q1 q2
  go_enter Tryz.func38, Tryz.ntmps38
  go_wp2_with (refine wpList_load_mid rfl 70 (.tmp 6) rfl b 11 rfl [.pointer p0, .pointer p1, .pointer p2] _ HR.out Tryz.underlying70 rfl Hs.out ?_)
  go_loopw [8] (fun i wr => ∃ (k : Nat) (y : Sv), k ≤ 3 ∧ i = .int .i64 k ∧ Hid (StAt Ts col wr b bd N y (serveN s k)) ∧ Hid (Chg (Fl col) w wr) ∧ Hid (Avs x y (serveN s k))) (fun i _ => 3 - (intOf i).toNat)
  case atStart => exact ⟨0, x, by omega, rfl, H.out, Chg.refl, Avs.refl⟩
  case round =>
    obtain ⟨k, y, hk, rfl, HS, HC, HA⟩ := hrel
    by_cases h3 : k < 3
    · match k, h3 with
      | 0, _ =>
        have hk0 : ((0 : Nat) : Int) = 0 := rfl
        have i0 := idx_0
        cases ho : s.askAt 0 with
        | none =>
          obtain rfl := N0.out ho
          have Ho := Lib.hid ho
          clear ho
          go_wp2_with fail
          go_roundw
          case rel =>
            have e : serveN s (0 + 1) = serveN s 0 := serve1_none (serveN_nn s 0 0 Ho.out)
            exact ⟨0 + 1, y, by omega, by go_num, e ▸ HS.out, HC.out, e ▸ HA.out⟩
          case measure => simp [intOf]
        | some a =>
          obtain ⟨ba, rfl⟩ := Q0.out a ho
          have Ho : Hid ((serveN s 0).askAt 0 = some a) := show _ = _ from (serveN_ge s 0 0 (by omega)).trans ho
          have Hy : Hid (y.av 0 = .pointer (some ⟨ba, 0, none⟩)) := show _ = _ from ((HA.out 0 (by omega)).elim id (fun h => by rw [Ho.out] at h; cases h)).trans E0.out
          obtain ⟨lv, hrow, _, _⟩ := HS.out.askc (by omega) Ho.out Hy.out
          have k0 : wr.cell? ⟨ba, 0, none⟩ = some (.int .i64 a.kind) := cell_of_row _ _ 0 _ _ _ hrow
          have HIn := Lib.hid (HI.out.serveN 0)
          have HBn := Lib.hid (HB.out.serveN h0 0)
          have Hkd := Lib.hid ((HIn.out.ask 0 a Ho.out).kind)
          clear ho hrow
          rcases Hkd.out with hkd | hkd | hkd
          · have He : Hid (serveN s (0 + 1) = (serveN s 0).read 0 a) := show _ = _ from serve1_read Ho.out hkd
            rw [hkd] at k0
            clear hkd
            go_wp2_with fail
            refine (read_any col wr b bd N 0 y _ a ba HS.out HIn.out ⟨by have := HBn.out.use; omega, by have := HBn.out.tag; omega⟩ (by omega) Ho.out Hy.out).mono ?_
            rintro e w1 ⟨y1, rfl, hst1, hc1, hav1⟩
            have Hst1 := Lib.hid hst1
            have HC1 := Lib.hid (HS.out.chg1 hc1)
            have HA1 := Lib.hid hav1
            clear hst1 hc1 hav1 k0
            go_wp2_with fail
            go_roundw
            case rel => exact ⟨0 + 1, y1, by omega, by go_num, He.out ▸ Hst1.out, HC.out.two HC1.out, HA.out.trans (He.out ▸ HA1.out) (fun j hj => serve1_nn _ _ hj)⟩
            case measure => simp [intOf]
          · have He : Hid (serveN s (0 + 1) = (serveN s 0).write 0 a) := show _ = _ from serve1_write Ho.out hkd
            rw [hkd] at k0
            clear hkd
            go_wp2_with fail
            refine (write_any col wr b bd N 0 y _ a ba HS.out HIn.out ⟨by have := HBn.out.use; omega, by have := HBn.out.tag; omega⟩ (by omega) Ho.out Hy.out).mono ?_
            rintro e w1 ⟨y1, rfl, hst1, hc1, hav1⟩
            have Hst1 := Lib.hid hst1
            have HC1 := Lib.hid (HS.out.chg1 hc1)
            have HA1 := Lib.hid hav1
            clear hst1 hc1 hav1 k0
            go_wp2_with fail
            go_roundw
            case rel => exact ⟨0 + 1, y1, by omega, by go_num, He.out ▸ Hst1.out, HC.out.two HC1.out, HA.out.trans (He.out ▸ HA1.out) (fun j hj => serve1_nn _ _ hj)⟩
            case measure => simp [intOf]
          · have He : Hid (serveN s (0 + 1) = (serveN s 0).sync 0 a) := show _ = _ from serve1_sync Ho.out hkd
            rw [hkd] at k0
            clear hkd
            go_wp2_with fail
            refine (sync_any col wr b bd N 0 y _ a ba HS.out HIn.out (by omega) Ho.out Hy.out).mono ?_
            rintro e w1 ⟨y1, rfl, hst1, hc1, hav1⟩
            have Hst1 := Lib.hid hst1
            have HC1 := Lib.hid hc1
            have HA1 := Lib.hid hav1
            clear hst1 hc1 hav1 k0
            go_wp2_with fail
            go_roundw
            case rel => exact ⟨0 + 1, y1, by omega, by go_num, He.out ▸ Hst1.out, HC.out.two HC1.out, HA.out.trans (He.out ▸ HA1.out) (fun j hj => serve1_nn _ _ hj)⟩
            case measure => simp [intOf]
      | 1, _ =>
        have hk0 : ((1 : Nat) : Int) = 1 := rfl
        have i0 := idx_1
        cases ho : s.askAt 1 with
        | none =>
          obtain rfl := N1.out ho
          have Ho := Lib.hid ho
          clear ho
          go_wp2_with fail
          go_roundw
          case rel =>
            have e : serveN s (1 + 1) = serveN s 1 := serve1_none (serveN_nn s 1 1 Ho.out)
            exact ⟨1 + 1, y, by omega, by go_num, e ▸ HS.out, HC.out, e ▸ HA.out⟩
          case measure => simp [intOf]
        | some a =>
          obtain ⟨ba, rfl⟩ := Q1.out a ho
          have Ho : Hid ((serveN s 1).askAt 1 = some a) := show _ = _ from (serveN_ge s 1 1 (by omega)).trans ho
          have Hy : Hid (y.av 1 = .pointer (some ⟨ba, 0, none⟩)) := show _ = _ from ((HA.out 1 (by omega)).elim id (fun h => by rw [Ho.out] at h; cases h)).trans E1.out
          obtain ⟨lv, hrow, _, _⟩ := HS.out.askc (by omega) Ho.out Hy.out
          have k0 : wr.cell? ⟨ba, 0, none⟩ = some (.int .i64 a.kind) := cell_of_row _ _ 0 _ _ _ hrow
          have HIn := Lib.hid (HI.out.serveN 1)
          have HBn := Lib.hid (HB.out.serveN h0 1)
          have Hkd := Lib.hid ((HIn.out.ask 1 a Ho.out).kind)
          clear ho hrow
          rcases Hkd.out with hkd | hkd | hkd
          · have He : Hid (serveN s (1 + 1) = (serveN s 1).read 1 a) := show _ = _ from serve1_read Ho.out hkd
            rw [hkd] at k0
            clear hkd
            go_wp2_with fail
            refine (read_any col wr b bd N 1 y _ a ba HS.out HIn.out ⟨by have := HBn.out.use; omega, by have := HBn.out.tag; omega⟩ (by omega) Ho.out Hy.out).mono ?_
            rintro e w1 ⟨y1, rfl, hst1, hc1, hav1⟩
            have Hst1 := Lib.hid hst1
            have HC1 := Lib.hid (HS.out.chg1 hc1)
            have HA1 := Lib.hid hav1
            clear hst1 hc1 hav1 k0
            go_wp2_with fail
            go_roundw
            case rel => exact ⟨1 + 1, y1, by omega, by go_num, He.out ▸ Hst1.out, HC.out.two HC1.out, HA.out.trans (He.out ▸ HA1.out) (fun j hj => serve1_nn _ _ hj)⟩
            case measure => simp [intOf]
          · have He : Hid (serveN s (1 + 1) = (serveN s 1).write 1 a) := show _ = _ from serve1_write Ho.out hkd
            rw [hkd] at k0
            clear hkd
            go_wp2_with fail
            refine (write_any col wr b bd N 1 y _ a ba HS.out HIn.out ⟨by have := HBn.out.use; omega, by have := HBn.out.tag; omega⟩ (by omega) Ho.out Hy.out).mono ?_
            rintro e w1 ⟨y1, rfl, hst1, hc1, hav1⟩
            have Hst1 := Lib.hid hst1
            have HC1 := Lib.hid (HS.out.chg1 hc1)
            have HA1 := Lib.hid hav1
            clear hst1 hc1 hav1 k0
            go_wp2_with fail
            go_roundw
            case rel => exact ⟨1 + 1, y1, by omega, by go_num, He.out ▸ Hst1.out, HC.out.two HC1.out, HA.out.trans (He.out ▸ HA1.out) (fun j hj => serve1_nn _ _ hj)⟩
            case measure => simp [intOf]
          · have He : Hid (serveN s (1 + 1) = (serveN s 1).sync 1 a) := show _ = _ from serve1_sync Ho.out hkd
            rw [hkd] at k0
            clear hkd
            go_wp2_with fail
            refine (sync_any col wr b bd N 1 y _ a ba HS.out HIn.out (by omega) Ho.out Hy.out).mono ?_
            rintro e w1 ⟨y1, rfl, hst1, hc1, hav1⟩
            have Hst1 := Lib.hid hst1
            have HC1 := Lib.hid hc1
            have HA1 := Lib.hid hav1
            clear hst1 hc1 hav1 k0
            go_wp2_with fail
            go_roundw
            case rel => exact ⟨1 + 1, y1, by omega, by go_num, He.out ▸ Hst1.out, HC.out.two HC1.out, HA.out.trans (He.out ▸ HA1.out) (fun j hj => serve1_nn _ _ hj)⟩
            case measure => simp [intOf]
      | 2, _ =>
        have hk0 : ((2 : Nat) : Int) = 2 := rfl
        have i0 := idx_2
        cases ho : s.askAt 2 with
        | none =>
          obtain rfl := N2.out ho
          have Ho := Lib.hid ho
          clear ho
          go_wp2_with fail
          go_roundw
          case rel =>
            have e : serveN s (2 + 1) = serveN s 2 := serve1_none (serveN_nn s 2 2 Ho.out)
            exact ⟨2 + 1, y, by omega, by go_num, e ▸ HS.out, HC.out, e ▸ HA.out⟩
          case measure => simp [intOf]
        | some a =>
          obtain ⟨ba, rfl⟩ := Q2.out a ho
          have Ho : Hid ((serveN s 2).askAt 2 = some a) := show _ = _ from (serveN_ge s 2 2 (by omega)).trans ho
          have Hy : Hid (y.av 2 = .pointer (some ⟨ba, 0, none⟩)) := show _ = _ from ((HA.out 2 (by omega)).elim id (fun h => by rw [Ho.out] at h; cases h)).trans E2.out
          obtain ⟨lv, hrow, _, _⟩ := HS.out.askc (by omega) Ho.out Hy.out
          have k0 : wr.cell? ⟨ba, 0, none⟩ = some (.int .i64 a.kind) := cell_of_row _ _ 0 _ _ _ hrow
          have HIn := Lib.hid (HI.out.serveN 2)
          have HBn := Lib.hid (HB.out.serveN h0 2)
          have Hkd := Lib.hid ((HIn.out.ask 2 a Ho.out).kind)
          clear ho hrow
          rcases Hkd.out with hkd | hkd | hkd
          · have He : Hid (serveN s (2 + 1) = (serveN s 2).read 2 a) := show _ = _ from serve1_read Ho.out hkd
            rw [hkd] at k0
            clear hkd
            go_wp2_with fail
            refine (read_any col wr b bd N 2 y _ a ba HS.out HIn.out ⟨by have := HBn.out.use; omega, by have := HBn.out.tag; omega⟩ (by omega) Ho.out Hy.out).mono ?_
            rintro e w1 ⟨y1, rfl, hst1, hc1, hav1⟩
            have Hst1 := Lib.hid hst1
            have HC1 := Lib.hid (HS.out.chg1 hc1)
            have HA1 := Lib.hid hav1
            clear hst1 hc1 hav1 k0
            go_wp2_with fail
            go_roundw
            case rel => exact ⟨2 + 1, y1, by omega, by go_num, He.out ▸ Hst1.out, HC.out.two HC1.out, HA.out.trans (He.out ▸ HA1.out) (fun j hj => serve1_nn _ _ hj)⟩
            case measure => simp [intOf]
          · have He : Hid (serveN s (2 + 1) = (serveN s 2).write 2 a) := show _ = _ from serve1_write Ho.out hkd
            rw [hkd] at k0
            clear hkd
            go_wp2_with fail
            refine (write_any col wr b bd N 2 y _ a ba HS.out HIn.out ⟨by have := HBn.out.use; omega, by have := HBn.out.tag; omega⟩ (by omega) Ho.out Hy.out).mono ?_
            rintro e w1 ⟨y1, rfl, hst1, hc1, hav1⟩
            have Hst1 := Lib.hid hst1
            have HC1 := Lib.hid (HS.out.chg1 hc1)
            have HA1 := Lib.hid hav1
            clear hst1 hc1 hav1 k0
            go_wp2_with fail
            go_roundw
            case rel => exact ⟨2 + 1, y1, by omega, by go_num, He.out ▸ Hst1.out, HC.out.two HC1.out, HA.out.trans (He.out ▸ HA1.out) (fun j hj => serve1_nn _ _ hj)⟩
            case measure => simp [intOf]
          · have He : Hid (serveN s (2 + 1) = (serveN s 2).sync 2 a) := show _ = _ from serve1_sync Ho.out hkd
            rw [hkd] at k0
            clear hkd
            go_wp2_with fail
            refine (sync_any col wr b bd N 2 y _ a ba HS.out HIn.out (by omega) Ho.out Hy.out).mono ?_
            rintro e w1 ⟨y1, rfl, hst1, hc1, hav1⟩
            have Hst1 := Lib.hid hst1
            have HC1 := Lib.hid hc1
            have HA1 := Lib.hid hav1
            clear hst1 hc1 hav1 k0
            go_wp2_with fail
            go_roundw
            case rel => exact ⟨2 + 1, y1, by omega, by go_num, He.out ▸ Hst1.out, HC.out.two HC1.out, HA.out.trans (He.out ▸ HA1.out) (fun j hj => serve1_nn _ _ hj)⟩
            case measure => simp [intOf]
    · obtain rfl : k = 3 := by omega
      have hi : ((3 : Nat) : Int) = 3 := rfl
      go_wp2_with fail
      go_end0
      exact ⟨_, rfl, serveN_3 s ▸ HS.out, HC.out, serveN_3 s ▸ HA.out⟩
end Go.Proofs.YtinknleckppciaaGreatDoor
namespace Go.Proofs.YtinknleckppciaaGreatDoor
set_option linter.unusedSimpArgs false
set_option linter.unusedVariables false
open Go.RowKit Go.Sort

theorem StAt.nowd {T : Tys} {col : Nat → Nat} {w w' : World} {b bd N : Nat} {x : Sv} {s : St} (h : StAt T col w b bd N x s) (hb : Same1 b w w') {n : Int} (hrow : w'.heap[b]? = some (.cells (x.row { s with now := n } bd) T.S (0, 0))) : StAt T col w' b bd N x { s with now := n } :=
  h.turn1 hb hrow rfl rfl rfl rfl h.bufs h.wait h.asks h.ask h.done h.errs
theorem StAt.deadd {T : Tys} {col : Nat → Nat} {w w' : World} {b bd N : Nat} {x : Sv} {s : St} (h : StAt T col w b bd N x s) (hb : Same1 b w w') {n : Bool} (hrow : w'.heap[b]? = some (.cells (x.row { s with dead := n } bd) T.S (0, 0))) : StAt T col w' b bd N x { s with dead := n } :=
  h.turn1 hb hrow rfl rfl rfl rfl h.bufs h.wait h.asks h.ask h.done h.errs
set_option maxRecDepth 100000 in
set_option maxHeartbeats 1000000 in
theorem tick_any (col : Nat → Nat) (w : World) (b bd N : Nat) (x : Sv) (s : St) (K : Int) (h : StAt Ts col w b bd N x s) (hI : Inv s) (hB : Bd K s) (h0 : 0 ≤ K) (hK : K ≤ 800000000) :
    Calls Tryz.prog 22 #[.pointer (some ⟨b, 0, none⟩)] w (Ret4 Ts col w b bd N x s.tick (.tuple #[])) := by
  have H := Lib.hid h
  have HI := Lib.hid hI
  have HB := Lib.hid hB
  have c8 : w.cell? ⟨b, 8, none⟩ = some (.int .i64 s.now) := h.cell 8
  have f8 := h.frozen 8
  have hn := hI.now
  have hw : IntKind.i64.wrap (s.now + 1) = s.now + 1 := by rw [IntKind.wrap_i64]; omega
  clear h hI hB
  go_enter Tryz.func22, Tryz.ntmps22
  have HI1 : Hid (Inv { s with now := min (s.now + 1) 1000000000 }) := show Inv _ from { HI.out with now := by have := HI.out.now; simp only; omega }
  have HB1 : Hid (Bd K { s with now := min (s.now + 1) 1000000000 }) := show Bd _ _ from ⟨HB.out.use, HB.out.tag, HB.out.waits⟩
  by_cases hlt : s.now + 1 ≤ 1000000000
  · have HE : Hid (s.now + 1 = min (s.now + 1) 1000000000) := show _ = _ by omega
    go_wp2_with fail
    try rw [← HE.out]
    have hS := (Same1.refl (b := b) (w := w)).setCell 8 (.int .i64 (s.now + 1))
    have H1 := Lib.hid (H.out.nowd hS (n := s.now + 1) (heap_setCell_same _ _ 8 _ _ _ H.out.row))
    have HC := Lib.hid (H.out.chg1 (hS.chg (F := fun k => k = b) rfl))
    clear hS c8 f8 hw
    generalize World.setCell _ _ _ = w1 at H1 HC ⊢
    have H1' := H1.out
    rw [HE.out] at H1'
    have H2 := Lib.hid H1'
    clear H1'
    refine (serve_any col w1 b bd N x _ K H2.out HI1.out HB1.out h0 hK).mono ?_
    rintro e w2 ⟨y2, rfl, hst2, hc2, hav2⟩
    have Hst2 := Lib.hid hst2
    have Hc2 := Lib.hid hc2
    have Hav2 := Lib.hid hav2
    clear hst2 hc2 hav2
    go_wp2_with fail
    go_end0
    exact ⟨_, rfl, Hst2.out, HC.out.two Hc2.out, Hav2.out⟩
  · have HE : Hid (1000000000 = min (s.now + 1) 1000000000) := show _ = _ by omega
    go_wp2_with fail
    try rw [← HE.out]
    have hS := (Same1.refl (b := b) (w := w)).setCell 8 (.int .i64 (1000000000))
    have H1 := Lib.hid (H.out.nowd hS (n := 1000000000) (heap_setCell_same _ _ 8 _ _ _ H.out.row))
    have HC := Lib.hid (H.out.chg1 (hS.chg (F := fun k => k = b) rfl))
    clear hS c8 f8 hw
    generalize World.setCell _ _ _ = w1 at H1 HC ⊢
    have H1' := H1.out
    rw [HE.out] at H1'
    have H2 := Lib.hid H1'
    clear H1'
    refine (serve_any col w1 b bd N x _ K H2.out HI1.out HB1.out h0 hK).mono ?_
    rintro e w2 ⟨y2, rfl, hst2, hc2, hav2⟩
    have Hst2 := Lib.hid hst2
    have Hc2 := Lib.hid hc2
    have Hav2 := Lib.hid hav2
    clear hst2 hc2 hav2
    go_wp2_with fail
    go_end0
    exact ⟨_, rfl, Hst2.out, HC.out.two Hc2.out, Hav2.out⟩
-- TELL BEGIN
theorem tell1_hit {s : St} {c : Nat} {a : Ak} {p : Int} {d : ByteArray} (h : s.askAt c = some a) (hk : a.kind = 1) (hp : a.pos = p) : St.tell1 p d s c = s.answer c d 0 := by unfold St.tell1; rw [h]; simp [hk, hp]
theorem tell1_miss {s : St} {c : Nat} {a : Ak} {p : Int} {d : ByteArray} (h : s.askAt c = some a) (hn : ¬ (a.kind = 1 ∧ a.pos = p)) : St.tell1 p d s c = s := by unfold St.tell1; rw [h]; exact if_neg hn
/-- The first clients are told. -/
def tellN (p : Int) (d : ByteArray) (s : St) : Nat → St
  | 0 => s
  | n + 1 => St.tell1 p d (tellN p d s n) n
theorem tellN_3 (p : Int) (d : ByteArray) (s : St) : tellN p d s 3 = s.tell p d := rfl
theorem tellN_ge (p : Int) (d : ByteArray) (s : St) : ∀ (n j : Nat), n ≤ j → (tellN p d s n).askAt j = s.askAt j
  | 0, _, _ => rfl
  | n + 1, j, h => by rw [tellN, tell1_ne _ (by omega), tellN_ge p d s n j (by omega)]
theorem tell1_nn (p : Int) (d : ByteArray) (s : St) (c : Nat) {j : Nat} (h : s.askAt j = none) : (St.tell1 p d s c).askAt j = none := by
  by_cases hj : j = c
  · subst hj; rw [tell1_none h]; exact h
  · rw [tell1_ne s hj]; exact h
theorem tellN_nn (p : Int) (d : ByteArray) (s : St) : ∀ (n j : Nat), s.askAt j = none → (tellN p d s n).askAt j = none
  | 0, _, h => h
  | n + 1, j, h => by rw [tellN]; exact tell1_nn _ _ _ _ (tellN_nn p d s n j h)
set_option maxRecDepth 100000 in
set_option maxHeartbeats 4000000 in
theorem tell_any (col : Nat → Nat) (w : World) (b bd N : Nat) (x : Sv) (s : St) (p : Int) (d : ByteArray) (h : StAt Ts col w b bd N x s) (hI : Inv s) :
    Calls Tryz.prog 54 #[.pointer (some ⟨b, 0, none⟩), .int .i64 p, .string d] w (Ret2 Ts col w b bd N x (s.tell p d) (.tuple #[])) := by
  obtain ⟨p0, e0, n0, q0⟩ := h.ptr 0 (by omega)
  obtain ⟨p1, e1, n1, q1⟩ := h.ptr 1 (by omega)
  obtain ⟨p2, e2, n2, q2⟩ := h.ptr 2 (by omega)
  have HR : Hid (w.rangeAt b 11 [.pointer p0, .pointer p1, .pointer p2]) := asks_range h e0 e1 e2
  have E0 := Lib.hid e0
  have E1 := Lib.hid e1
  have E2 := Lib.hid e2
  have N0 := Lib.hid n0
  have N1 := Lib.hid n1
  have N2 := Lib.hid n2
  have Q0 := Lib.hid q0
  have Q1 := Lib.hid q1
  have Q2 := Lib.hid q2
  have H := Lib.hid h
  have HI := Lib.hid hI
  have Hs : Hid ((Tryz.prog.info? 70).map (·.size) = some 3) := show _ = _ by kernel_rfl
  clear h hI e0 e1 e2 n0 n1 n2 q0 q1 q2
  go_enter Tryz.func54, Tryz.ntmps54
  go_wp2_with (refine wpList_load_mid rfl 70 (.tmp 10) rfl b 11 rfl [.pointer p0, .pointer p1, .pointer p2] _ HR.out Tryz.underlying70 rfl Hs.out ?_)
  go_loopw [12] (fun i wr => ∃ (k : Nat) (y : Sv), k ≤ 3 ∧ i = .int .i64 k ∧ Hid (StAt Ts col wr b bd N y (tellN p d s k)) ∧ Hid (Chg (fun k => k = b) w wr) ∧ Hid (Avs x y (tellN p d s k))) (fun i _ => 3 - (intOf i).toNat)
  case atStart => exact ⟨0, x, by omega, rfl, H.out, Chg.refl, Avs.refl⟩
  case round =>
    obtain ⟨k, y, hk, rfl, HS, HC, HA⟩ := hrel
    by_cases h3 : k < 3
    · match k, h3 with
      | 0, _ =>
        have hk0 : ((0 : Nat) : Int) = 0 := rfl
        have i0 := idx_0
        cases ho : s.askAt 0 with
        | none =>
          obtain rfl := N0.out ho
          have Ho := Lib.hid ho
          clear ho
          go_wp2_with fail
          go_roundw
          case rel =>
            have e : tellN p d s (0 + 1) = tellN p d s 0 := tell1_none (tellN_nn p d s 0 0 Ho.out)
            exact ⟨0 + 1, y, by omega, by go_num, e ▸ HS.out, HC.out, e ▸ HA.out⟩
          case measure => simp [intOf]
        | some a =>
          obtain ⟨ba, rfl⟩ := Q0.out a ho
          have Ho : Hid ((tellN p d s 0).askAt 0 = some a) := show _ = _ from (tellN_ge p d s 0 0 (by omega)).trans ho
          have Hy : Hid (y.av 0 = .pointer (some ⟨ba, 0, none⟩)) := show _ = _ from ((HA.out 0 (by omega)).elim id (fun h => by rw [Ho.out] at h; cases h)).trans E0.out
          obtain ⟨lv, hrow, _, _⟩ := HS.out.askc (by omega) Ho.out Hy.out
          have k0 : wr.cell? ⟨ba, 0, none⟩ = some (.int .i64 a.kind) := cell_of_row _ _ 0 _ _ _ hrow
          have k1 : wr.cell? ⟨ba, 1, none⟩ = some (.int .i64 a.pos) := cell_of_row _ _ 1 _ _ _ hrow
          have Hkd := Lib.hid ((HI.out.ask 0 a ho).kind)
          clear ho hrow
          by_cases hh : a.kind = 1 ∧ a.pos = p
          · have He : Hid (tellN p d s (0 + 1) = (tellN p d s 0).answer 0 d 0) := show _ = _ from tell1_hit Ho.out hh.1 hh.2
            rw [hh.1] at k0
            rw [hh.2] at k1
            clear hh
            go_wp2_with fail
            refine (answer_any col wr b bd N y _ 0 d 0 HS.out (by omega)).mono ?_
            rintro e w1 ⟨rfl, hs1, hst1⟩
            have Hst1 := Lib.hid hst1
            have HC1 := Lib.hid (hs1.chg (F := fun k => k = b) rfl)
            clear hst1 hs1 k0 k1
            go_wp2_with fail
            go_roundw
            case rel => exact ⟨0 + 1, _, by omega, by go_num, He.out ▸ Hst1.out, HC.out.two HC1.out, He.out ▸ Avs.ans HA.out HS.out.asks (by omega)⟩
            case measure => simp [intOf]
          · have He : Hid (tellN p d s (0 + 1) = tellN p d s 0) := show _ = _ from tell1_miss Ho.out hh
            by_cases h1 : a.kind = 1
            · have h2 : (a.pos == p) = false := by simp only [beq_eq_false_iff_ne]; exact fun e => hh ⟨h1, e⟩
              rw [h1] at k0
              clear hh h1
              go_wp2_with fail
              go_roundw
              case rel => exact ⟨0 + 1, y, by omega, by go_num, He.out ▸ HS.out, HC.out, He.out ▸ HA.out⟩
              case measure => simp [intOf]
            · have h2 : (a.kind == 1) = false := by simp only [beq_eq_false_iff_ne]; exact h1
              clear hh h1
              go_wp2_with fail
              go_roundw
              case rel => exact ⟨0 + 1, y, by omega, by go_num, He.out ▸ HS.out, HC.out, He.out ▸ HA.out⟩
              case measure => simp [intOf]
      | 1, _ =>
        have hk0 : ((1 : Nat) : Int) = 1 := rfl
        have i0 := idx_1
        cases ho : s.askAt 1 with
        | none =>
          obtain rfl := N1.out ho
          have Ho := Lib.hid ho
          clear ho
          go_wp2_with fail
          go_roundw
          case rel =>
            have e : tellN p d s (1 + 1) = tellN p d s 1 := tell1_none (tellN_nn p d s 1 1 Ho.out)
            exact ⟨1 + 1, y, by omega, by go_num, e ▸ HS.out, HC.out, e ▸ HA.out⟩
          case measure => simp [intOf]
        | some a =>
          obtain ⟨ba, rfl⟩ := Q1.out a ho
          have Ho : Hid ((tellN p d s 1).askAt 1 = some a) := show _ = _ from (tellN_ge p d s 1 1 (by omega)).trans ho
          have Hy : Hid (y.av 1 = .pointer (some ⟨ba, 0, none⟩)) := show _ = _ from ((HA.out 1 (by omega)).elim id (fun h => by rw [Ho.out] at h; cases h)).trans E1.out
          obtain ⟨lv, hrow, _, _⟩ := HS.out.askc (by omega) Ho.out Hy.out
          have k0 : wr.cell? ⟨ba, 0, none⟩ = some (.int .i64 a.kind) := cell_of_row _ _ 0 _ _ _ hrow
          have k1 : wr.cell? ⟨ba, 1, none⟩ = some (.int .i64 a.pos) := cell_of_row _ _ 1 _ _ _ hrow
          have Hkd := Lib.hid ((HI.out.ask 1 a ho).kind)
          clear ho hrow
          by_cases hh : a.kind = 1 ∧ a.pos = p
          · have He : Hid (tellN p d s (1 + 1) = (tellN p d s 1).answer 1 d 0) := show _ = _ from tell1_hit Ho.out hh.1 hh.2
            rw [hh.1] at k0
            rw [hh.2] at k1
            clear hh
            go_wp2_with fail
            refine (answer_any col wr b bd N y _ 1 d 0 HS.out (by omega)).mono ?_
            rintro e w1 ⟨rfl, hs1, hst1⟩
            have Hst1 := Lib.hid hst1
            have HC1 := Lib.hid (hs1.chg (F := fun k => k = b) rfl)
            clear hst1 hs1 k0 k1
            go_wp2_with fail
            go_roundw
            case rel => exact ⟨1 + 1, _, by omega, by go_num, He.out ▸ Hst1.out, HC.out.two HC1.out, He.out ▸ Avs.ans HA.out HS.out.asks (by omega)⟩
            case measure => simp [intOf]
          · have He : Hid (tellN p d s (1 + 1) = tellN p d s 1) := show _ = _ from tell1_miss Ho.out hh
            by_cases h1 : a.kind = 1
            · have h2 : (a.pos == p) = false := by simp only [beq_eq_false_iff_ne]; exact fun e => hh ⟨h1, e⟩
              rw [h1] at k0
              clear hh h1
              go_wp2_with fail
              go_roundw
              case rel => exact ⟨1 + 1, y, by omega, by go_num, He.out ▸ HS.out, HC.out, He.out ▸ HA.out⟩
              case measure => simp [intOf]
            · have h2 : (a.kind == 1) = false := by simp only [beq_eq_false_iff_ne]; exact h1
              clear hh h1
              go_wp2_with fail
              go_roundw
              case rel => exact ⟨1 + 1, y, by omega, by go_num, He.out ▸ HS.out, HC.out, He.out ▸ HA.out⟩
              case measure => simp [intOf]
      | 2, _ =>
        have hk0 : ((2 : Nat) : Int) = 2 := rfl
        have i0 := idx_2
        cases ho : s.askAt 2 with
        | none =>
          obtain rfl := N2.out ho
          have Ho := Lib.hid ho
          clear ho
          go_wp2_with fail
          go_roundw
          case rel =>
            have e : tellN p d s (2 + 1) = tellN p d s 2 := tell1_none (tellN_nn p d s 2 2 Ho.out)
            exact ⟨2 + 1, y, by omega, by go_num, e ▸ HS.out, HC.out, e ▸ HA.out⟩
          case measure => simp [intOf]
        | some a =>
          obtain ⟨ba, rfl⟩ := Q2.out a ho
          have Ho : Hid ((tellN p d s 2).askAt 2 = some a) := show _ = _ from (tellN_ge p d s 2 2 (by omega)).trans ho
          have Hy : Hid (y.av 2 = .pointer (some ⟨ba, 0, none⟩)) := show _ = _ from ((HA.out 2 (by omega)).elim id (fun h => by rw [Ho.out] at h; cases h)).trans E2.out
          obtain ⟨lv, hrow, _, _⟩ := HS.out.askc (by omega) Ho.out Hy.out
          have k0 : wr.cell? ⟨ba, 0, none⟩ = some (.int .i64 a.kind) := cell_of_row _ _ 0 _ _ _ hrow
          have k1 : wr.cell? ⟨ba, 1, none⟩ = some (.int .i64 a.pos) := cell_of_row _ _ 1 _ _ _ hrow
          have Hkd := Lib.hid ((HI.out.ask 2 a ho).kind)
          clear ho hrow
          by_cases hh : a.kind = 1 ∧ a.pos = p
          · have He : Hid (tellN p d s (2 + 1) = (tellN p d s 2).answer 2 d 0) := show _ = _ from tell1_hit Ho.out hh.1 hh.2
            rw [hh.1] at k0
            rw [hh.2] at k1
            clear hh
            go_wp2_with fail
            refine (answer_any col wr b bd N y _ 2 d 0 HS.out (by omega)).mono ?_
            rintro e w1 ⟨rfl, hs1, hst1⟩
            have Hst1 := Lib.hid hst1
            have HC1 := Lib.hid (hs1.chg (F := fun k => k = b) rfl)
            clear hst1 hs1 k0 k1
            go_wp2_with fail
            go_roundw
            case rel => exact ⟨2 + 1, _, by omega, by go_num, He.out ▸ Hst1.out, HC.out.two HC1.out, He.out ▸ Avs.ans HA.out HS.out.asks (by omega)⟩
            case measure => simp [intOf]
          · have He : Hid (tellN p d s (2 + 1) = tellN p d s 2) := show _ = _ from tell1_miss Ho.out hh
            by_cases h1 : a.kind = 1
            · have h2 : (a.pos == p) = false := by simp only [beq_eq_false_iff_ne]; exact fun e => hh ⟨h1, e⟩
              rw [h1] at k0
              clear hh h1
              go_wp2_with fail
              go_roundw
              case rel => exact ⟨2 + 1, y, by omega, by go_num, He.out ▸ HS.out, HC.out, He.out ▸ HA.out⟩
              case measure => simp [intOf]
            · have h2 : (a.kind == 1) = false := by simp only [beq_eq_false_iff_ne]; exact h1
              clear hh h1
              go_wp2_with fail
              go_roundw
              case rel => exact ⟨2 + 1, y, by omega, by go_num, He.out ▸ HS.out, HC.out, He.out ▸ HA.out⟩
              case measure => simp [intOf]
    · obtain rfl : k = 3 := by omega
      have hi : ((3 : Nat) : Int) = 3 := rfl
      go_wp2_with fail
      go_end0
      exact ⟨_, rfl, tellN_3 p d s ▸ HS.out, HC.out, tellN_3 p d s ▸ HA.out⟩
-- TELL END
end Go.Proofs.YtinknleckppciaaGreatDoor
