/- The law TopOne: its walk. For all lists of steps: the law TopOne returns true, and its argument reads as it did. No condition. -/
import Derived.Test.YtojmnfelecnenaaJ13
import Derived.Test.YtojmnfelecnenaaJ4
import Derived.Test.YtojmnfelecnenaaJ1
namespace Go.Proofs.Ytojmnfelecnenaa
set_option linter.unusedSimpArgs false
set_option linter.unusedVariables false
open Go.RowKit Go.Sort

set_option maxRecDepth 100000 in
set_option maxHeartbeats 2000000 in
theorem one_walk (l : List Sp) (v : Value) (w : World) (h : StepsAt Any w v l) : Calls Try.prog 4 #[v] w (Ret (.bool true) w) := by
  obtain ⟨A, cap, rfl, hcl, hcap⟩ := h.form
  have H := Lib.hid h
  unfold maxLen at hcap
  clear h
  go_enter Try.func4, Try.ntmps4
  go_wp2_with fail
  refine (works_any w).mono ?_
  rintro e w0 ⟨rfl, hb0⟩
  have HB0 := Lib.hid hb0
  clear hb0
  go_wp2_with fail
  refine (lightsteps_any Any l _ 120 w0 (H.out.below HB0.out) (by omega)).mono ?_
  rintro e w1 ⟨rfl, rfl⟩
  cases hl : lightSp l 120 with
  | false =>
    clear hl
    go_wp2_with fail
    go_ret
    exact ⟨rfl, HB0.out⟩
  | true =>
    have hlen := lightSp_len hl
    clear hl
    go_wp2_with fail
    refine (devnew_any w0).mono ?_
    rintro e w1 ⟨rfl, hd1, hb1, hs1⟩
    go_wp2_with fail
    refine (stnew_any (fun _ => False) (fun k => k = w0.heap.size) w1 w0.heap.size Dv.new (hd1 _) (fun k hk => by omega) (fun k hk => hk.elim) (fun k hk => hk.elim)).mono ?_
    rintro e w2 ⟨b, col, y, rfl, hst, hb2, hfl, _⟩
    have hL := Lst.begin HB0.out (hd1 _) hb1 hs1 hst hb2 hfl
    obtain ⟨bd, hbd⟩ : ∃ n, w0.heap.size = n := ⟨_, rfl⟩
    rw [hbd] at hL
    have H2 := Lib.hid hL
    clear hd1 hb1 hs1 hst hb2 hfl hL hbd
    go_wp2_with fail
    go_loopw [5, 6, 7, 8] (fun i _ _ _ wr => ∃ (k : Nat) (col : Nat → Nat) (y : Sv), k ≤ l.length ∧ i = .int .i64 k ∧ Hid (Lst w wr col b bd k (15 * (k : Int)) y (stepsM st0 (l.take k)) [])) (fun i _ _ _ _ => l.length - (intOf i).toNat)
    case atStart => exact ⟨0, col, y, by omega, rfl, H2.out⟩
    case round =>
      obtain ⟨k, col, y, hk, rfl, HL⟩ := hrel
      by_cases hlt : k < l.length
      · have hlt2 : (k : Int) < (l.length : Int) := by omega
        obtain ⟨g, off, z, rfl, hgl, hx, c0, c1, c2, c3⟩ := (H.out.below HL.out.below).cells hlt
        have Hx := Lib.hid hx
        clear hx
        go_wp2_with fail
        refine (step_any col wr b bd k y _ z (15 * (k : Int)) HL.out.st HL.out.inv HL.out.bnd (by omega) (by omega) (by omega)).mono ?_
        rintro e w3 hr
        obtain ⟨rfl, col3, y3, h3⟩ := HL.out.five hr (HL.out.inv.stepM z) (HL.out.bnd.stepM (by omega) HL.out.inv z) (by omega)
        rw [← stepsM_succ _ Hx.out] at h3
        have H3 : Hid (Lst w w3 col3 b bd (k + 1) (15 * ((k + 1 : Nat) : Int)) y3 (stepsM st0 (l.take (k + 1))) []) := by
          have e : 15 * (k : Int) + 15 = 15 * ((k + 1 : Nat) : Int) := by omega
          rw [← e]; exact h3
        clear hr h3 c0 c1 c2 c3
        obtain ⟨s, hs⟩ : ∃ s, stepsM st0 (l.take (k + 1)) = s := ⟨_, rfl⟩
        rw [hs] at H3
        have Hs := Lib.hid hs
        clear hs
        obtain ⟨i0, hi0, hz0, hz1, hz2⟩ := info_parts reqInfo
        have h6 := H3.out.inv.wait6
        have h2 := H3.out.inv.dv.two
        go_wp2_with fail
        refine (stqueue_any col3 w3 b bd (k + 1) y3 s H3.out.st H3.out.inv.wait6).mono ?_
        rintro e w4 ⟨v4, rfl, ⟨cs4, hcs4, hrd4, hok4⟩, hb4⟩
        have H4 := Lib.hid (H3.out.step hb4)
        have hl4 : cs4.length = s.wait.length := by rw [← hcs4, List.length_map]
        have H14 : Hid (∀ u ∈ cs4.flatMap Rc.cells, u.oneCell' = true) := fun u hu => by obtain ⟨c, hc, hu⟩ := List.mem_flatMap.1 hu; exact rc_one _ (hok4 c hc) u hu
        have Hcs4 := Lib.hid hcs4
        have Hrd4 := Lib.hid hrd4
        have Hok4 := Lib.hid hok4
        clear hcs4 hrd4 hok4 hb4
        go_wp2_with (at_builtin; refine wpList_append_rd _ rfl _ (.tmp 30) _ rfl w4.heap.size 44 i0 _ 6 80 Try.underlying35 hi0 hz0 hz1 hz2 rfl (by omega) (.slice none 0 0) 0 [] rfl ⟨rfl, .inl ⟨rfl, rfl⟩⟩ _ cs4.length _ rfl Hrd4.out H14.out (by simp only [maxLen]; omega) (by omega) (Nat.le_refl _) ?_; intro v5 w5 hown5 hg5 hat5)
        have hb5 : Below w4.heap.size w4 w5 := (Below.refl _ _).grown hg5 (Nat.le_refl _) (fun k hk => by cases hk)
        have H5 := Lib.hid (H4.out.step hb5)
        have Hb5 := Lib.hid hb5
        have Ho5 := Lib.hid hown5
        have Hs5 := Lib.hid hb5.size
        clear hown5 hg5 hat5 hb5 Hok4 Hrd4
        go_wp2_with fail
        refine (stbusy_any col3 w5 b bd (k + 1) y3 s H5.out.st H5.out.inv.dv.two).mono ?_
        rintro e w6 ⟨v6, rfl, ⟨cs6, hcs6, hrd6, hok6⟩, hb6⟩
        have H6 := Lib.hid (H5.out.step hb6)
        have hl6 : cs6.length = s.v.d.l.length := by rw [← hcs6, List.length_map]
        have H16 : Hid (∀ u ∈ cs6.flatMap Rc.cells, u.oneCell' = true) := fun u hu => by obtain ⟨c, hc, hu⟩ := List.mem_flatMap.1 hu; exact rc_one _ (hok6 c hc) u hu
        have Hcs6 := Lib.hid hcs6
        have Hrd6 := Lib.hid hrd6
        have Ho6 := Lib.hid (own_below Ho5.out hb6)
        have HB6 : Hid (Below w4.heap.size w4 w6) := Hb5.out.trans (hb6.mono Hs5.out)
        have Hs6 : Hid (w4.heap.size ≤ w6.heap.size) := Nat.le_trans Hs5.out hb6.size
        clear hcs6 hrd6 hok6 hb6 Ho5 Hs5 Hb5
        go_wp2_with (at_builtin; refine wpList_append_rd _ rfl (.tmp 31) (.tmp 33) _ rfl w4.heap.size 44 i0 _ 6 80 Try.underlying35 hi0 hz0 hz1 hz2 rfl (by omega) v5 (0 + cs4.length) _ rfl Ho6.out _ cs6.length _ rfl Hrd6.out H16.out (by simp only [maxLen]; omega) (by omega) Hs6.out ?_; intro v7 w7 hown7 hg7 hat7)
        have hb7 : Below w4.heap.size w6 w7 := (Below.refl _ _).grown hg7 Hs6.out (fun k hk => (Ho6.out.lt k hk).1)
        have hrd7 : Rd (fun _ => True) w7 6 v7 (cs4 ++ cs6).length ((cs4 ++ cs6).flatMap Rc.cells) := by
          have h := Rd.of_own (S := fun _ => True) w7 (fun _ _ => trivial) hown7
          rw [List.nil_append, Nat.zero_add, ← List.flatMap_append, ← List.length_append] at h
          exact h
        have hmap : (cs4 ++ cs6).map (·.r) = s.wait ++ s.v.d.l := by rw [List.map_append, Hcs4.out, Hcs6.out]
        have hq8 : (cs4 ++ cs6).length ≤ 8 := by rw [List.length_append]; omega
        have Hb7 : Hid (Lst w w7 col3 b bd (k + 1) (15 * ((k + 1 : Nat) : Int)) y3 s []) := H4.out.step (HB6.out.trans hb7)
        generalize cs4 ++ cs6 = cs at hrd7 hmap hq8
        obtain ⟨A7, cap7, rfl, hcl7, hcm7⟩ := hrd7.form
        have Hrd7 := Lib.hid hrd7
        have Hmap := Lib.hid hmap
        have Hgood := Lib.hid ((good_iff _).1 H4.out.inv.good)
        have Hokq := Lib.hid (good_oks H4.out.inv.good)
        clear hrd7 hmap hown7 hg7 hat7 hb7 Ho6 Hs6 HB6 Hrd6 Hcs6 H16 hl6 hl4 H14 Hcs4 H6 H5 H4 H3 hi0 hz0 hz1 hz2 h6 h2
        unfold maxLen at hcm7
        go_wp2_with fail
        go_loopw [7, 8] (fun i _ wr => ∃ (a : Nat), a ≤ cs.length ∧ i = .int .i64 a ∧ Hid (Below w7.heap.size w7 wr)) (fun i _ _ => cs.length - (intOf i).toNat)
        case atStart => exact ⟨0, by omega, rfl, Below.refl _ _⟩
        case round =>
          obtain ⟨a, ha, rfl, HBa⟩ := hrel
          by_cases halt : a < cs.length
          · have halt2 : (a : Int) < (cs.length : Int) := by omega
            go_wp2_with fail
            go_loopw [8] (fun i wr => ∃ (m : Nat), m ≤ a ∧ i = .int .i64 m ∧ Hid (Below w7.heap.size w7 wr)) (fun i _ => a - (intOf i).toNat)
            case atStart => exact ⟨0, by omega, rfl, HBa.out⟩
            case round =>
              obtain ⟨m, hm, rfl, HBm⟩ := hrel
              by_cases hma : m < a
              · have hma2 : (m : Int) < (a : Int) := by omega
                obtain ⟨g7, off7, rfl, _, _, hc7⟩ := (Hrd7.out.below HBm.out).at_ (by omega) (by omega)
                have hca : cs[a]? = some cs[a] := List.getElem?_eq_getElem halt
                have hcmm : cs[m]? = some cs[m] := List.getElem?_eq_getElem (by omega)
                have n1 := hc7 _ _ (flat_get cs a 1 _ hca (by omega))
                have n2 := hc7 _ _ (flat_get cs a 2 _ hca (by omega))
                have m1 := hc7 _ _ (flat_get cs m 1 _ hcmm (by omega))
                have m2 := hc7 _ _ (flat_get cs m 2 _ hcmm (by omega))
                rw [← Nat.add_assoc] at n1 n2 m1 m2
                have hra : cs[a].r ∈ s.wait ++ s.v.d.l := by rw [← Hmap.out]; exact List.mem_map.2 ⟨_, List.mem_of_getElem? hca, rfl⟩
                have hrm : cs[m].r ∈ s.wait ++ s.v.d.l := by rw [← Hmap.out]; exact List.mem_map.2 ⟨_, List.mem_of_getElem? hcmm, rfl⟩
                have hap : Apart cs[m].r cs[a].r := by
                  have h := Hgood.out.2
                  rw [← Hmap.out, List.pairwise_map, List.pairwise_iff_getElem] at h
                  exact h m a (by omega) halt hma
                obtain ⟨a1, a2, a3, _, a5⟩ := (Hokq.out _ hra).span
                obtain ⟨b1, b2, b3, _, b5⟩ := (Hokq.out _ hrm).span
                unfold Apart at hap
                have Hap := Lib.hid hap
                clear hca hcmm hra hrm hap hc7
                change wr.cell? _ = some (Value.int .i64 cs[a].r.lo) at n1
                change wr.cell? _ = some (Value.int .i64 cs[a].r.many) at n2
                change wr.cell? _ = some (Value.int .i64 cs[m].r.lo) at m1
                change wr.cell? _ = some (Value.int .i64 cs[m].r.many) at m2
                generalize cs[a].r = ra at *
                generalize cs[m].r = rm at *
                have g1 : ∀ d os, (grow (redrawn wr d) os).cell? ⟨g7, off7 + m * 6 + 1, none⟩ = some (.int .i64 rm.lo) := fun _ _ => cell_regrown m1 _ _
                have g2 : ∀ d os, (grow (redrawn wr d) os).cell? ⟨g7, off7 + m * 6 + 2, none⟩ = some (.int .i64 rm.many) := fun _ _ => cell_regrown m2 _ _
                have g3 : ∀ d os, (grow (redrawn wr d) os).cell? ⟨g7, off7 + a * 6 + 1, none⟩ = some (.int .i64 ra.lo) := fun _ _ => cell_regrown n1 _ _
                have g4 : ∀ d os, (grow (redrawn wr d) os).cell? ⟨g7, off7 + a * 6 + 2, none⟩ = some (.int .i64 ra.many) := fun _ _ => cell_regrown n2 _ _
                have hml : (m : Int) < (cs.length : Int) := by omega
                clear n1 n2 m1 m2
                go_wp2_with fail
                refine wp_region_quiet_below mixed (by kernel_rfl) ?_
                repeat (quiet_step (first | (go_at_call 22; exact Calls.rg (meet_any _ _ _ _ _ (by omega) (by omega) (by omega) (by omega) (by omega) (by omega) (by omega) (by omega)))))
                refine wpQuiet_nil ?_
                intro _ hw'
                obtain ⟨⟨dq, osq⟩, hw''⟩ := hw'
                subst hw''
                have HB4 : Hid (Below w7.heap.size w7 (grow (redrawn wr dq) osq)) := HBm.out.trans (Below.mono (below_regrown wr dq osq) HBm.out.size)
                clear g1 g2 g3 g4
                generalize grow (redrawn wr dq) osq = w8 at HB4 ⊢
                rw [Hap.out]
                go_wp2_with fail
                go_roundw
                case rel => exact ⟨m + 1, by omega, by go_num, HB4.out⟩
                case measure => simp [intOf]; omega
              · obtain rfl : m = a := by omega
                have hmm : ¬ (m : Int) < (m : Int) := by omega
                go_wp2_with fail
                go_roundw
                case rel => exact ⟨m + 1, by omega, by go_num, HBm.out⟩
                case measure => simp [intOf]; omega
          · obtain rfl : a = cs.length := by omega
            have hmm : ¬ (cs.length : Int) < (cs.length : Int) := by omega
            go_wp2_with fail
            go_roundw
            case rel =>
              rw [← Hs.out] at Hb7
              exact ⟨k + 1, col3, y3, by omega, by go_num, Hb7.out.step HBa.out⟩
            case measure => simp [intOf]; omega
      · obtain rfl : k = l.length := by omega
        have hlt2 : ¬ (l.length : Int) < (l.length : Int) := by omega
        go_wp2_with fail
        go_ret
        exact ⟨rfl, HL.out.below⟩
end Go.Proofs.Ytojmnfelecnenaa
namespace Go.Proofs.Ytojmnfelecnenaa.topOne
open Go.ChangeShapes Go.WideShapes Go.ChangeAt Go.RowKit Go.Joins

set_option maxRecDepth 100000 in
theorem lifted (os : Os) (started : os.Started) (H : Type) (enc : TypeId × Value → H) :
    ReturnsInHanded {} Try.checked os 4 .any (Rows.topOneSpec.pre6 enc Try.prog Try.f4 Rows.topOneRow.domain false) (Rows.topOneSpec.post enc Try.prog Try.f4 false true false false) := by
  refine returnsInHanded_of_change (C := Try.checked) own started (by kernel_rfl) Try.func4
    (ChangeSpec.witness6 (enc := enc) (C := Try.checked) false ⟨#[], #[.slice none 0 0], []⟩ 8 (by kernel_rfl) (by kernel_rfl) (by kernel_rfl) (by kernel_rfl)) ?_
  intro W base args ds gs before hval0 hW _ _
  have hval : ∀ (j : Nat) t v, Try.f4.params[j]? = some t → args[j]? = some v → Value.okWide Try.prog W .any base t v := hval0
  refine law_contract (fn := Try.f4) rfl rfl (fun ds h => ?_) (by rw [Try.params4]; intro t ht; simp at ht; subst ht; exact ⟨by kernel_rfl, of_decide_eq_true (by kernel_rfl)⟩) hW ?_
  · match ds, h with
    | [_], _ => rfl
  · intro p hA hlt
    rw [Try.params4] at hA hval
    obtain ⟨v0, vs0, d0, ds0, p0, q0, hargs, rfl, rfl, h0, r0⟩ := trodAll_cons hA
    obtain ⟨rfl, rfl, rfl⟩ := trodAll_nil r0
    obtain rfl : args = #[v0] := by cases args; simp_all
    obtain ⟨l0, hl0⟩ := steps_of h0 (okWide_slice Try.underlying22 (hval 0 22 v0 rfl rfl))
    exact one_walk l0 v0 W hl0

theorem over : Rows.topOneRow.holds Try.pinned (OpenSpec.ofChange Rows.topOneSpec) :=
  OpenClaim.holds_of_wide 4 Try.f4 rfl rfl rfl rfl rfl rfl rfl ⟨rfl, rfl, rfl, rfl, rfl⟩ rfl rfl rfl rfl rfl (by kernel_rfl) Try.func4 (by kernel_rfl)
    (of_decide_eq_true (by kernel_rfl)) (by unfold Func.isWrapper; rw [if_neg (of_decide_eq_false (by kernel_rfl))]; exact ⟨rfl, rfl⟩)
    (fun os started H enc _ => lifted os started H enc)

theorem proved : Rows.TopOneSaid :=
  over
#print axioms proved
end Go.Proofs.Ytojmnfelecnenaa.topOne
