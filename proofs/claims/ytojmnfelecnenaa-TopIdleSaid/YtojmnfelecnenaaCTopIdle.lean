/- The laws TopEnabled, TopGoesOn, TopIdle: their walks. For all lists of steps: the law TopIdle returns true, and its argument reads as it did. No condition. -/
import Derived.Test.YtojmnfelecnenaaJ13
import Derived.Test.YtojmnfelecnenaaJ14
import Derived.Test.YtojmnfelecnenaaJ1
namespace Go.Proofs.Ytojmnfelecnenaa
set_option linter.unusedSimpArgs false
set_option linter.unusedVariables false
open Go.RowKit Go.Sort

theorem inv2_0 : Inv2 st0 := Inv2.new rfl
set_option maxRecDepth 100000 in
set_option maxHeartbeats 2000000 in
theorem enabled_walk (l : List Sp) (v : Value) (w : World) (h : StepsAt Any w v l) : Calls Try.prog 10 #[v] w (Ret (.bool true) w) := by
  have H := Lib.hid h
  clear h
  go_enter Try.func10, Try.ntmps10
  go_wp2_with fail
  refine (works_any w).mono ?_
  rintro e w0 ⟨rfl, hb0⟩
  have HB0 := Lib.hid hb0
  clear hb0
  go_wp2_with fail
  refine (stepped_any _ l v w0 (H.out.below HB0.out)).mono ?_
  rintro e w1 (⟨_, rfl, rfl⟩ | ⟨_, b, bd, col, y, rfl, hL⟩)
  · go_wp2_with fail
    go_ret
    exact ⟨rfl, HB0.out⟩
  have HL := Lib.hid hL
  have HI2 := Lib.hid (inv2_0.stepsM inv0 l)
  generalize stepsM st0 l = s at HL HI2
  clear hL
  go_wp2_with fail
  refine (quiet_any col w1 b bd 120 y s HL.out.st HL.out.inv).mono ?_
  rintro e w2 ⟨rfl, hb2⟩
  have H2 := Lib.hid (HL.out.step hb2)
  clear hb2
  cases hq : s.quiet with
  | true =>
    go_wp2_with fail
    go_ret
    exact ⟨rfl, HB0.out.trans (H2.out.below.mono HB0.out.size)⟩
  | false =>
    have Hq := Lib.hid hq
    clear hq
    go_wp2_with fail
    refine (stbusy_any col w2 b bd 120 y s H2.out.st H2.out.inv.dv.two).mono ?_
    rintro e w3 ⟨v3, rfl, hv3, hb3⟩
    obtain ⟨A3, c3, e3, _, _⟩ := hv3.form
    subst e3
    have H3 := Lib.hid (H2.out.step hb3)
    clear hv3 hb3
    by_cases hl : s.v.d.l = []
    rotate_left
    · have hl0 : (0 : Int) < ((s.v.d.l.length : Nat) : Int) := by have := List.length_pos_iff.2 hl; omega
      go_wp2_with fail
      go_ret
      exact ⟨rfl, HB0.out.trans (H3.out.below.mono HB0.out.size)⟩
    have Hl := Lib.hid hl
    have hl0 : s.v.d.l.length = 0 := by rw [hl]; rfl
    rw [hl0]
    clear hl hl0
    go_wp2_with fail
    refine (clean_st col w3 b bd 120 y s H3.out.st H3.out.inv ⟨by have := H3.out.bnd.use; omega, by have := H3.out.bnd.tag; omega⟩).mono ?_
    rintro e w4 hr
    obtain ⟨rfl, col4, y4, h4⟩ := H3.out.two hr H3.out.inv.clean H3.out.bnd.clean (by omega)
    cases hc : s.clean.2 with
    | true =>
      have H4 := Lib.hid h4
      clear hr h4 hc
      go_wp2_with fail
      go_ret
      exact ⟨rfl, HB0.out.trans (H4.out.below.mono HB0.out.size)⟩
    | false =>
      rw [clean_no hc] at h4
      have H4 := Lib.hid h4
      clear hr h4 hc
      go_wp2_with fail
      refine (tick_any col4 w4 b bd 120 y4 s (1800 + 1) H4.out.st H4.out.inv H4.out.bnd (by omega) (by omega)).mono ?_
      rintro e w5 hr
      obtain ⟨rfl, col5, y5, h5⟩ := H4.out.four hr H4.out.inv.tick (H4.out.bnd.tick (by omega)) (by omega)
      have H5 := Lib.hid h5
      have HI5 := Lib.hid (pt_tick H4.out.inv HI2.out).2.2
      have HX := Lib.hid (fun hf => tick_idle H4.out.inv HI2.out hf)
      have Htl : Hid (s.tick.v.d.l = []) := show _ = _ by
        have h1 : ∀ u : St, ∀ c, (u.serve1 c).v.d.l = u.v.d.l := fun u c => by
          unfold St.serve1
          split
          · rfl
          · split
            · unfold St.read; split
              · rfl
              · split
                · rfl
                · unfold St.queue; split <;> rfl
            · split
              · unfold St.write; split
                · rfl
                · split
                  · rfl
                  · split <;> rfl
              · split
                · unfold St.sync; split
                  · rfl
                  · split <;> rfl
                · rfl
        show (((St.serve1 _ 0).serve1 1).serve1 2).v.d.l = []
        rw [h1, h1, h1]; exact Hl.out
      clear hr h5
      go_wp2_with fail
      refine (dispatch_any col5 w5 b bd 120 y5 s.tick H5.out.st H5.out.inv).mono ?_
      rintro e w6 hr
      obtain ⟨rfl, col6, y6, h6⟩ := H5.out.five hr H5.out.inv.dispatch H5.out.bnd.dispatch (by omega)
      by_cases hw : s.tick.wait = []
      · have Hd := Lib.hid (Inv.dispatch_no (s := s.tick) (.inl hw))
        have Hw := Lib.hid hw
        rw [Hd.out] at h6 ⊢
        have H6 := Lib.hid h6
        clear hr h6 hw
        go_wp2_with fail
        refine (clean_st col6 w6 b bd 120 y6 s.tick H6.out.st H6.out.inv ⟨by have := H6.out.bnd.use; omega, by have := H6.out.bnd.tag; omega⟩).mono ?_
        rintro e w7 hr
        obtain ⟨rfl, col7, y7, h7⟩ := H6.out.two hr H6.out.inv.clean H6.out.bnd.clean (by omega)
        rcases HX.out (flS_nil.2 ⟨Hw.out, Htl.out⟩) with hcl | hno
        · have H7 := Lib.hid h7
          rw [hcl]
          clear hr h7 hcl
          go_wp2_with fail
          go_ret
          exact ⟨rfl, HB0.out.trans (H7.out.below.mono HB0.out.size)⟩
        · cases hcl : s.tick.clean.2 with
          | true =>
            have H7 := Lib.hid h7
            clear hr h7 hcl hno
            go_wp2_with fail
            go_ret
            exact ⟨rfl, HB0.out.trans (H7.out.below.mono HB0.out.size)⟩
          | false =>
            rw [clean_no hcl] at h7
            have H7 := Lib.hid h7
            have Hqq : Hid (s.tick.quiet = true) := show _ = _ from (quiet_iff H7.out.st.asks).2 ⟨hno, Hw.out, Htl.out⟩
            clear hr h7 hcl hno
            go_wp2_with fail
            refine (stqueue_any col7 w7 b bd 120 y7 s.tick H7.out.st H7.out.inv.wait6).mono ?_
            rintro e w8 ⟨v8, rfl, hv8, hb8⟩
            obtain ⟨A8, c8, e8, _, _⟩ := hv8.form
            subst e8
            have H8 := Lib.hid (H7.out.step hb8)
            have hl8 : s.tick.wait.length = 0 := by rw [Hw.out]; rfl
            rw [hl8]
            clear hv8 hb8 hl8
            go_wp2_with fail
            refine (quiet_any col7 w8 b bd 120 y7 s.tick H8.out.st H8.out.inv).mono ?_
            rintro e w9 ⟨rfl, hb9⟩
            have H9 := Lib.hid (H8.out.step hb9)
            rw [Hqq.out]
            clear hb9
            go_wp2_with fail
            go_ret
            exact ⟨rfl, HB0.out.trans (H9.out.below.mono HB0.out.size)⟩
      · have H6 := Lib.hid h6
        have hd2 : s.tick.dispatch.2 = true := by
          obtain ⟨j, r, t', _, e⟩ := H5.out.inv.dispatched hw (by rw [Htl.out]; simp)
          rw [e]
        rw [hd2]
        clear hr h6 hw hd2
        go_wp2_with fail
        go_ret
        exact ⟨rfl, HB0.out.trans (H6.out.below.mono HB0.out.size)⟩
set_option maxRecDepth 100000 in
set_option maxHeartbeats 2000000 in
theorem goeson_walk (l : List Sp) (v : Value) (w : World) (h : StepsAt Any w v l) : Calls Try.prog 12 #[v] w (Ret (.bool true) w) := by
  have H := Lib.hid h
  clear h
  go_enter Try.func12, Try.ntmps12
  go_wp2_with fail
  refine (works_any w).mono ?_
  rintro e w0 ⟨rfl, hb0⟩
  have HB0 := Lib.hid hb0
  clear hb0
  go_wp2_with fail
  refine (stepped_any _ l v w0 (H.out.below HB0.out)).mono ?_
  rintro e w1 (⟨_, rfl, rfl⟩ | ⟨_, b, bd, col, y, rfl, hL⟩)
  · go_wp2_with fail
    go_ret
    exact ⟨rfl, HB0.out⟩
  have HL := Lib.hid hL
  have HI2 := Lib.hid (inv2_0.stepsM inv0 l)
  generalize stepsM st0 l = s at HL HI2
  clear hL
  go_wp2_with fail
  refine (settle_any col w1 b bd 120 y s 1800 50 HL.out.st HL.out.inv HL.out.bnd (by omega) (by omega) (by omega) (by omega)).mono ?_
  rintro e w2 hr
  obtain ⟨rfl, col2, y2, h2⟩ := HL.out.five hr (HL.out.inv.settle) (HL.out.bnd.settle (by omega) HL.out.inv) (by omega)
  obtain ⟨hq, hn⟩ := settle_50 HL.out.inv HI2.out
  obtain ⟨t, ht⟩ : ∃ t, (St.settle 50 s).1 = t := ⟨_, rfl⟩
  obtain ⟨n, hnn⟩ : ∃ n, (St.settle 50 s).2 = n := ⟨_, rfl⟩
  rw [ht] at h2 hq ⊢
  rw [hnn] at hn ⊢
  rw [hq]
  have H2 := Lib.hid h2
  have Hq := Lib.hid hq
  have hn50 : ¬ (50 : Int) < ((n : Nat) : Int) := by omega
  clear hr h2 hq ht hnn
  go_wp2_with fail
  go_loop [8] (fun i => ∃ k : Nat, k ≤ 3 ∧ i = .int .i64 k) (fun i => 3 - (intOf i).toNat)
  case atStart => exact ⟨0, by omega, rfl⟩
  case round =>
    obtain ⟨k, hk, rfl⟩ := hrel
    by_cases hlt : k < 3
    · have hlt2 : (k : Int) < 3 := by omega
      go_wp2_with fail
      refine (waits_any col2 w2 b bd (120 + 50) y2 t k H2.out.st hlt).mono ?_
      rintro e w3 ⟨rfl, rfl⟩
      rw [((quiet_iff H2.out.st.asks).1 Hq.out).1 k hlt]
      simp only [Option.isSome_none]
      go_wp2_with fail
      go_round
      case rel => exact ⟨k + 1, by omega, by go_num⟩
      case measure => simp [intOf]; omega
    · obtain rfl : k = 3 := by omega
      have h33 : ((3 : Nat) : Int) = 3 := rfl
      go_wp2_with fail
      refine (settle_any col2 w2 b bd (120 + 50) y2 t (1800 + 15 * 50) 50 H2.out.st H2.out.inv H2.out.bnd (by omega) (by omega) (by omega) (by omega)).mono ?_
      rintro e w3 hr
      rw [settle_quiet Hq.out] at hr
      obtain ⟨rfl, col3, y3, h3⟩ := H2.out.five hr H2.out.inv H2.out.bnd (by omega)
      simp only
      rw [Hq.out]
      have H3 := Lib.hid h3
      clear hr h3
      go_wp2_with fail
      go_ret
      exact ⟨rfl, HB0.out.trans (H3.out.below.mono HB0.out.size)⟩
set_option maxRecDepth 100000 in
set_option maxHeartbeats 2000000 in
theorem idle_walk (l : List Sp) (v : Value) (w : World) (h : StepsAt Any w v l) : Calls Try.prog 13 #[v] w (Ret (.bool true) w) := by
  have H := Lib.hid h
  clear h
  go_enter Try.func13, Try.ntmps13
  go_wp2_with fail
  refine (works_any w).mono ?_
  rintro e w0 ⟨rfl, hb0⟩
  have HB0 := Lib.hid hb0
  clear hb0
  go_wp2_with fail
  refine (stepped_any _ l v w0 (H.out.below HB0.out)).mono ?_
  rintro e w1 (⟨_, rfl, rfl⟩ | ⟨_, b, bd, col, y, rfl, hL⟩)
  · go_wp2_with fail
    go_ret
    exact ⟨rfl, HB0.out⟩
  have HL := Lib.hid hL
  have HI2 := Lib.hid (inv2_0.stepsM inv0 l)
  generalize stepsM st0 l = s at HL HI2
  clear hL
  go_wp2_with fail
  refine (settle_any col w1 b bd 120 y s 1800 50 HL.out.st HL.out.inv HL.out.bnd (by omega) (by omega) (by omega) (by omega)).mono ?_
  rintro e w2 hr
  obtain ⟨rfl, col2, y2, h2⟩ := HL.out.five hr (HL.out.inv.settle) (HL.out.bnd.settle (by omega) HL.out.inv) (by omega)
  obtain ⟨hq, hn⟩ := settle_50 HL.out.inv HI2.out
  have HIt := Lib.hid (HI2.out.settle (n := 50) HL.out.inv)
  obtain ⟨t, ht⟩ : ∃ t, (St.settle 50 s).1 = t := ⟨_, rfl⟩
  obtain ⟨n, hnn⟩ : ∃ n, (St.settle 50 s).2 = n := ⟨_, rfl⟩
  rw [ht] at h2 hq HIt ⊢
  rw [hnn]
  rw [hq]
  have H2 := Lib.hid h2
  have Hq := Lib.hid hq
  clear hr h2 hq ht hnn hn
  go_wp2_with fail
  refine (stdirty_any col2 w2 b bd (120 + 50) y2 t H2.out.st H2.out.inv.len8).mono ?_
  rintro e w3 ⟨rfl, hb3⟩
  have H3 := Lib.hid (H2.out.step hb3)
  clear hb3
  go_wp2_with fail
  go_loopw [8, 9] (fun d i wr => ∃ (k : Nat) (col : Nat → Nat) (y : Sv) (u : St), k ≤ 40 ∧ i = .int .i64 k ∧ d = .int .i64 ((dirtyB u.bufs : Nat) : Int) ∧ Hid (Lst w0 wr col b bd (120 + 50 + k) (1800 + 15 * 50 + 15 * (k : Int)) y u []) ∧ Hid (Inv2 u) ∧ Hid (u.quiet = true) ∧ Hid (dirtyB u.bufs + k ≤ 6 ∨ dirtyB u.bufs ≤ 2 ∨ u.dead = true)) (fun _ i _ => 40 - (intOf i).toNat)
  case atStart => exact ⟨0, col2, y2, t, by omega, rfl, rfl, H3.out.cast' (by omega) (by omega), HIt.out, Hq.out, .inl (by have := H3.out.inv.dirty; omega)⟩
  case round =>
    obtain ⟨k, col, y, u, hk, rfl, rfl, HU, HUI, HUQ, HUD⟩ := hrel
    by_cases hlt : k < 40
    · have hlt2 : (k : Int) < 40 := by omega
      go_wp2_with fail
      refine (round_any col wr b bd (120 + 50 + k) y u (1800 + 15 * 50 + 15 * (k : Int)) HU.out.st HU.out.inv HU.out.bnd (by omega) (by omega) (by omega)).mono ?_
      rintro e w4 hr
      obtain ⟨rfl, col4, y4, h4⟩ := HU.out.five hr HU.out.inv.round (HU.out.bnd.round (by omega) HU.out.inv) (by omega)
      have hid := round_idle HU.out.inv HUI.out HUQ.out
      have Hid4 := Lib.hid hid
      have HI4 := Lib.hid (HUI.out.round HU.out.inv)
      have H4 := Lib.hid h4
      have hle : ¬ ((dirtyB u.bufs : Nat) : Int) < ((dirtyB u.round.bufs : Nat) : Int) := by have := hid.le; omega
      clear hr h4 hid
      go_wp2_with fail
      refine (stdirty_any col4 w4 b bd (120 + 50 + k + 1) y4 u.round H4.out.st H4.out.inv.len8).mono ?_
      rintro e w5 ⟨rfl, hb5⟩
      have H5 := Lib.hid (H4.out.step hb5)
      clear hb5
      go_wp2_with fail
      refine (stdirty_any col4 w5 b bd (120 + 50 + k + 1) y4 u.round H5.out.st H5.out.inv.len8).mono ?_
      rintro e w6 ⟨rfl, hb6⟩
      have H6 := Lib.hid (H5.out.step hb6)
      have HD6 : Hid (dirtyB u.round.bufs + (k + 1) ≤ 6 ∨ dirtyB u.round.bufs ≤ 2 ∨ u.round.dead = true) := show _ ∨ _ by
        have h1 := Hid4.out.le
        have h2 := Hid4.out.less
        have h3 := Hid4.out.dead
        by_cases hd : u.dead = true
        · right; right; rw [h3]; exact hd
        · by_cases h33 : 3 ≤ dirtyB u.bufs
          · have h4 := h2 h33 (by simpa using hd)
            rcases HUD.out with h5 | h5 | h5
            · left; omega
            · omega
            · exact absurd h5 hd
          · right; left; omega
      clear hb6 hle
      go_wp2_with fail
      go_roundw
      case rel => exact ⟨k + 1, col4, y4, u.round, by omega, by go_num, rfl, H6.out.cast' (by omega) (by omega), HI4.out, Hid4.out.quiet, HD6.out⟩
      case measure => simp [intOf]; omega
    · obtain rfl : k = 40 := by omega
      have h40 : ((40 : Nat) : Int) = 40 := rfl
      go_wp2_with fail
      refine (quiet_any col wr b bd (120 + 50 + 40) y u HU.out.st HU.out.inv).mono ?_
      rintro e w4 ⟨rfl, hb4⟩
      have H4 := Lib.hid (HU.out.step hb4)
      rw [HUQ.out]
      clear hb4
      by_cases hd2 : dirtyB u.bufs ≤ 2
      · have hd3 : ((dirtyB u.bufs : Nat) : Int) < 3 := by omega
        go_wp2_with fail
        go_ret
        exact ⟨rfl, HB0.out.trans (H4.out.below.mono HB0.out.size)⟩
      · have hd3 : ¬ ((dirtyB u.bufs : Nat) : Int) < 3 := by omega
        have hdd : u.dead = true := by
          rcases HUD.out with h5 | h5 | h5
          · omega
          · exact absurd h5 hd2
          · exact h5
        have Hdd := Lib.hid hdd
        clear hdd
        go_wp2_with fail
        refine (dead_any col w4 b bd (120 + 50 + 40) y u H4.out.st).mono ?_
        rintro e w5 ⟨rfl, rfl⟩
        rw [Hdd.out]
        go_wp2_with fail
        go_ret
        exact ⟨rfl, HB0.out.trans (H4.out.below.mono HB0.out.size)⟩
end Go.Proofs.Ytojmnfelecnenaa
namespace Go.Proofs.Ytojmnfelecnenaa.topIdle
open Go.ChangeShapes Go.WideShapes Go.ChangeAt Go.RowKit Go.Joins

set_option maxRecDepth 100000 in
theorem lifted (os : Os) (started : os.Started) (H : Type) (enc : TypeId × Value → H) :
    ReturnsInHanded {} Try.checked os 13 .any (Rows.topIdleSpec.pre6 enc Try.prog Try.f13 Rows.topIdleRow.domain false) (Rows.topIdleSpec.post enc Try.prog Try.f13 false true false false) := by
  refine returnsInHanded_of_change (C := Try.checked) own started (by kernel_rfl) Try.func13
    (ChangeSpec.witness6 (enc := enc) (C := Try.checked) false ⟨#[], #[.slice none 0 0], []⟩ 8 (by kernel_rfl) (by kernel_rfl) (by kernel_rfl) (by kernel_rfl)) ?_
  intro W base args ds gs before hval0 hW _ _
  have hval : ∀ (j : Nat) t v, Try.f13.params[j]? = some t → args[j]? = some v → Value.okWide Try.prog W .any base t v := hval0
  refine law_contract (fn := Try.f13) rfl rfl (fun ds h => ?_) (by rw [Try.params13]; intro t ht; simp at ht; subst ht; exact ⟨by kernel_rfl, of_decide_eq_true (by kernel_rfl)⟩) hW ?_
  · match ds, h with
    | [_], _ => rfl
  · intro p hA hlt
    rw [Try.params13] at hA hval
    obtain ⟨v0, vs0, d0, ds0, p0, q0, hargs, rfl, rfl, h0, r0⟩ := trodAll_cons hA
    obtain ⟨rfl, rfl, rfl⟩ := trodAll_nil r0
    obtain rfl : args = #[v0] := by cases args; simp_all
    obtain ⟨l0, hl0⟩ := steps_of h0 (okWide_slice Try.underlying22 (hval 0 22 v0 rfl rfl))
    exact idle_walk l0 v0 W hl0

theorem over : Rows.topIdleRow.holds Try.pinned (OpenSpec.ofChange Rows.topIdleSpec) :=
  OpenClaim.holds_of_wide 13 Try.f13 rfl rfl rfl rfl rfl rfl rfl ⟨rfl, rfl, rfl, rfl, rfl⟩ rfl rfl rfl rfl rfl (by kernel_rfl) Try.func13 (by kernel_rfl)
    (of_decide_eq_true (by kernel_rfl)) (by unfold Func.isWrapper; rw [if_neg (of_decide_eq_false (by kernel_rfl))]; exact ⟨rfl, rfl⟩)
    (fun os started H enc _ => lifted os started H enc)

theorem proved : Rows.TopIdleSaid :=
  over
#print axioms proved
end Go.Proofs.Ytojmnfelecnenaa.topIdle
