/- The laws TopHard, TopSoft, TopBusy: their walks. For all lists of steps: the law TopSoft returns true, and its argument reads as it did. No condition. -/
import Derived.Test.YtojmnfelecnenaaJ13
import Derived.Test.YtojmnfelecnenaaJ14
import Derived.Test.YtojmnfelecnenaaJ1
namespace Go.Proofs.Ytojmnfelecnenaa
set_option linter.unusedSimpArgs false
set_option linter.unusedVariables false
open Go.RowKit Go.Sort

set_option maxRecDepth 100000 in
set_option maxHeartbeats 2000000 in
theorem hard_walk (l : List Sp) (v : Value) (w : World) (h : StepsAt Any w v l) : Calls Try.prog 3 #[v] w (Ret (.bool true) w) := by
  obtain ⟨A, cap, rfl, hcl, hcap⟩ := h.form
  have H := Lib.hid h
  unfold maxLen at hcap
  clear h
  go_enter Try.func3, Try.ntmps3
  go_wp2_with fail
  refine (works_any w).mono ?_
  rintro e w0 ⟨rfl, hb0⟩
  have HB0 := Lib.hid hb0
  clear hb0
  go_wp2_with fail
  refine (lightsteps_any _ l _ 120 w0 (H.out.below HB0.out) (by omega)).mono ?_
  rintro e w1 ⟨rfl, rfl⟩
  cases hl : lightSp l 120 with
  | false =>
    clear hl
    go_wp2_with fail
    go_ret
    exact ⟨rfl, HB0.out⟩
  | true =>
    have hlen := lightSp_len hl
    clear hl
    go_wp2_with fail
    refine (devnew_any w0).mono ?_
    rintro e w1 ⟨rfl, hd1, hb1, hs1⟩
    go_wp2_with fail
    refine (stnew_any (fun _ => False) (fun k => k = w0.heap.size) w1 w0.heap.size Dv.new (hd1 _) (fun k hk => by omega) (fun k hk => hk.elim) (fun k hk => hk.elim)).mono ?_
    rintro e w2 ⟨b, col, y, rfl, hst, hb2, hfl, _⟩
    have hL := Lst.begin HB0.out (hd1 _) hb1 hs1 hst hb2 hfl
    obtain ⟨bd, hbd⟩ : ∃ n, w0.heap.size = n := ⟨_, rfl⟩
    rw [hbd] at hL
    have H2 := Lib.hid hL
    clear hd1 hb1 hs1 hst hb2 hfl hL hbd
    go_wp2_with fail
    go_loopw [5] (fun i wr => ∃ (k : Nat) (col : Nat → Nat) (y : Sv), k ≤ l.length ∧ i = .int .i64 k ∧ Hid (Lst w wr col b bd k (15 * (k : Int)) y (stepsM st0 (l.take k)) [])) (fun i _ => l.length - (intOf i).toNat)
    case atStart => exact ⟨0, col, y, by omega, rfl, H2.out⟩
    case round =>
      obtain ⟨k, col, y, hk, rfl, HL⟩ := hrel
      by_cases hlt : k < l.length
      · have hlt2 : (k : Int) < (l.length : Int) := by omega
        obtain ⟨g, off, z, rfl, hgl, hx, c0, c1, c2, c3⟩ := (H.out.below HL.out.below).cells hlt
        have Hx := Lib.hid hx
        clear hx
        go_wp2_with fail
        refine (step_any col wr b bd k y _ z (15 * (k : Int)) HL.out.st HL.out.inv HL.out.bnd (by omega) (by omega) (by omega)).mono ?_
        rintro e w3 hr
        obtain ⟨rfl, col3, y3, h3⟩ := HL.out.five hr (HL.out.inv.stepM z) (HL.out.bnd.stepM (by omega) HL.out.inv z) (by omega)
        rw [← stepsM_succ _ Hx.out] at h3
        have H3 : Hid (Lst w w3 col3 b bd (k + 1) (15 * ((k + 1 : Nat) : Int)) y3 (stepsM st0 (l.take (k + 1))) []) := by
          have e : 15 * (k : Int) + 15 = 15 * ((k + 1 : Nat) : Int) := by omega
          rw [← e]; exact h3
        clear hr h3 c0 c1 c2 c3
        go_wp2_with fail
        refine (stdirty_any col3 w3 b bd (k + 1) y3 _ H3.out.st H3.out.inv.len8).mono ?_
        rintro e w4 ⟨rfl, hb4⟩
        have H4 := Lib.hid (H3.out.step hb4)
        have hd6 : ¬ (6 : Int) < ((dirtyB (stepsM st0 (l.take (k + 1))).bufs : Nat) : Int) := by have := H3.out.inv.dirty; omega
        clear hb4
        go_wp2_with fail
        refine (stqueue_any col3 w4 b bd (k + 1) y3 _ H4.out.st H4.out.inv.wait6).mono ?_
        rintro e w5 ⟨v5, rfl, hv5, hb5⟩
        obtain ⟨A5, c5, e5, _, _⟩ := hv5.form
        subst e5
        have H5 := Lib.hid (H4.out.step hb5)
        have hq6 : ¬ (6 : Int) < (((stepsM st0 (l.take (k + 1))).wait.length : Nat) : Int) := by have := H4.out.inv.wait6; omega
        clear hv5 hb5
        go_wp2_with fail
        refine (stbusy_any col3 w5 b bd (k + 1) y3 _ H5.out.st H5.out.inv.dv.two).mono ?_
        rintro e w6 ⟨v6, rfl, hv6, hb6⟩
        obtain ⟨A6, c6, e6, _, _⟩ := hv6.form
        subst e6
        have H6 := Lib.hid (H5.out.step hb6)
        have hb2 : ¬ (2 : Int) < (((stepsM st0 (l.take (k + 1))).v.d.l.length : Nat) : Int) := by have := H5.out.inv.dv.two; omega
        clear hv6 hb6
        go_wp2_with fail
        go_roundw
        case rel => exact ⟨k + 1, col3, y3, by omega, by go_num, H6.out⟩
        case measure => simp [intOf]; omega
      · obtain rfl : k = l.length := by omega
        have hlt2 : ¬ (l.length : Int) < (l.length : Int) := by omega
        go_wp2_with fail
        go_ret
        exact ⟨rfl, HL.out.below⟩
set_option maxRecDepth 100000 in
set_option maxHeartbeats 2000000 in
theorem soft_walk (l : List Sp) (v : Value) (w : World) (h : StepsAt Any w v l) : Calls Try.prog 11 #[v] w (Ret (.bool true) w) := by
  have H := Lib.hid h
  clear h
  go_enter Try.func11, Try.ntmps11
  go_wp2_with fail
  refine (works_any w).mono ?_
  rintro e w0 ⟨rfl, hb0⟩
  have HB0 := Lib.hid hb0
  clear hb0
  go_wp2_with fail
  refine (stepped_any _ l v w0 (H.out.below HB0.out)).mono ?_
  rintro e w1 (⟨_, rfl, rfl⟩ | ⟨_, b, bd, col, y, rfl, hL⟩)
  · go_wp2_with fail
    go_ret
    exact ⟨rfl, HB0.out⟩
  have HL := Lib.hid hL
  generalize stepsM st0 l = s at HL
  clear hL
  go_wp2_with fail
  refine (quiet_any col w1 b bd 120 y s HL.out.st HL.out.inv).mono ?_
  rintro e w2 ⟨rfl, hb2⟩
  have H2 := Lib.hid (HL.out.step hb2)
  clear hb2
  cases hq : s.quiet with
  | false =>
    go_wp2_with fail
    go_ret
    exact ⟨rfl, HB0.out.trans (H2.out.below.mono HB0.out.size)⟩
  | true =>
    have Hq := Lib.hid hq
    clear hq
    go_wp2_with fail
    refine (stdirty_any col w2 b bd 120 y s H2.out.st H2.out.inv.len8).mono ?_
    rintro e w3 ⟨rfl, hb3⟩
    have H3 := Lib.hid (H2.out.step hb3)
    clear hb3
    by_cases hd : 3 ≤ dirtyB s.bufs
    · have hd3 : (3 : Int) ≤ ((dirtyB s.bufs : Nat) : Int) := by omega
      go_wp2_with fail
      go_ret
      exact ⟨rfl, HB0.out.trans (H3.out.below.mono HB0.out.size)⟩
    · have hd3 : ¬ (3 : Int) ≤ ((dirtyB s.bufs : Nat) : Int) := by omega
      have Hd := Lib.hid hd
      clear hd
      have HI := Lib.hid H3.out.inv
      have Hp : Hid (s.pressed = false) := show _ = _ by
        have h1 := (quiet_iff H3.out.st.asks).1 Hq.out
        unfold St.pressed
        rw [show decide (3 ≤ dirtyB s.bufs) = false by simpa using Hd.out, Bool.false_or, List.any_eq_false]
        intro o ho
        obtain ⟨j, hj⟩ := List.mem_iff_getElem?.1 ho
        have h3 := (List.getElem?_eq_some_iff.1 hj).1
        rw [H3.out.st.asks] at h3
        have h2 := h1.1 j h3
        unfold St.askAt at h2
        rw [List.getD_eq_getElem?_getD, hj] at h2
        simp only [Option.getD_some] at h2
        subst h2
        simp [isKind]
      have Hc : Hid (s.clean = (s, false)) := show _ = _ by unfold St.clean; rw [Hp.out]; simp
      go_wp2_with fail
      refine (clean_st col w3 b bd 120 y s H3.out.st HI.out ⟨by have := H3.out.bnd.use; omega, by have := H3.out.bnd.tag; omega⟩).mono ?_
      rintro e w4 hr
      rw [Hc.out] at hr
      obtain ⟨rfl, col4, y4, h4⟩ := H3.out.two hr HI.out H3.out.bnd (by omega)
      have H4 := Lib.hid h4
      clear hr h4
      go_wp2_with fail
      refine (stqueue_any col4 w4 b bd 120 y4 s H4.out.st H4.out.inv.wait6).mono ?_
      rintro e w5 ⟨v5, rfl, hv5, hb5⟩
      obtain ⟨A5, c5, e5, _, _⟩ := hv5.form
      subst e5
      have H5 := Lib.hid (H4.out.step hb5)
      have hq0 : s.wait.length = 0 := by rw [((quiet_iff H4.out.st.asks).1 Hq.out).2.1]; rfl
      clear hv5 hb5
      rw [hq0]
      clear hq0
      go_wp2_with fail
      go_ret
      exact ⟨rfl, HB0.out.trans (H5.out.below.mono HB0.out.size)⟩
end Go.Proofs.Ytojmnfelecnenaa
namespace Go.Proofs.Ytojmnfelecnenaa.topSoft
open Go.ChangeShapes Go.WideShapes Go.ChangeAt Go.RowKit Go.Joins

set_option maxRecDepth 100000 in
theorem lifted (os : Os) (started : os.Started) (H : Type) (enc : TypeId × Value → H) :
    ReturnsInHanded {} Try.checked os 11 .any (Rows.topSoftSpec.pre6 enc Try.prog Try.f11 Rows.topSoftRow.domain false) (Rows.topSoftSpec.post enc Try.prog Try.f11 false true false false) := by
  refine returnsInHanded_of_change (C := Try.checked) own started (by kernel_rfl) Try.func11
    (ChangeSpec.witness6 (enc := enc) (C := Try.checked) false ⟨#[], #[.slice none 0 0], []⟩ 8 (by kernel_rfl) (by kernel_rfl) (by kernel_rfl) (by kernel_rfl)) ?_
  intro W base args ds gs before hval0 hW _ _
  have hval : ∀ (j : Nat) t v, Try.f11.params[j]? = some t → args[j]? = some v → Value.okWide Try.prog W .any base t v := hval0
  refine law_contract (fn := Try.f11) rfl rfl (fun ds h => ?_) (by rw [Try.params11]; intro t ht; simp at ht; subst ht; exact ⟨by kernel_rfl, of_decide_eq_true (by kernel_rfl)⟩) hW ?_
  · match ds, h with
    | [_], _ => rfl
  · intro p hA hlt
    rw [Try.params11] at hA hval
    obtain ⟨v0, vs0, d0, ds0, p0, q0, hargs, rfl, rfl, h0, r0⟩ := trodAll_cons hA
    obtain ⟨rfl, rfl, rfl⟩ := trodAll_nil r0
    obtain rfl : args = #[v0] := by cases args; simp_all
    obtain ⟨l0, hl0⟩ := steps_of h0 (okWide_slice Try.underlying22 (hval 0 22 v0 rfl rfl))
    exact soft_walk l0 v0 W hl0

theorem over : Rows.topSoftRow.holds Try.pinned (OpenSpec.ofChange Rows.topSoftSpec) :=
  OpenClaim.holds_of_wide 11 Try.f11 rfl rfl rfl rfl rfl rfl rfl ⟨rfl, rfl, rfl, rfl, rfl⟩ rfl rfl rfl rfl rfl (by kernel_rfl) Try.func11 (by kernel_rfl)
    (of_decide_eq_true (by kernel_rfl)) (by unfold Func.isWrapper; rw [if_neg (of_decide_eq_false (by kernel_rfl))]; exact ⟨rfl, rfl⟩)
    (fun os started H enc _ => lifted os started H enc)

theorem proved : Rows.TopSoftSaid :=
  over
#print axioms proved
end Go.Proofs.Ytojmnfelecnenaa.topSoft
