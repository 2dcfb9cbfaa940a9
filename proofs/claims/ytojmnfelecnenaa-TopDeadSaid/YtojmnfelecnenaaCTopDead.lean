/- The laws TopBusy, TopDead: their walks. For all lists of steps, and all steps behind them: the law TopDead returns true, and its arguments read as they did. No condition. -/
import Derived.Test.YtojmnfelecnenaaJ13
import Derived.Test.YtojmnfelecnenaaJ14
import Derived.Test.YtojmnfelecnenaaJ1
namespace Go.Proofs.Ytojmnfelecnenaa
set_option linter.unusedSimpArgs false
set_option linter.unusedVariables false
open Go.RowKit Go.Sort

set_option maxRecDepth 100000 in
set_option maxHeartbeats 2000000 in
theorem busy_walk (l : List Sp) (v : Value) (client p : Int) (w : World) (h : StepsAt Any w v l) : Calls Try.prog 7 #[v, .int .i64 client, .int .i64 p] w (Ret (.bool true) w) := by
  have H := Lib.hid h
  clear h
  go_enter Try.func7, Try.ntmps7
  go_wp2_with fail
  refine (works_any w).mono ?_
  rintro e w0 ⟨rfl, hb0⟩
  have HB0 := Lib.hid hb0
  clear hb0
  go_wp2_with fail
  refine (stepped_any _ l v w0 (H.out.below HB0.out)).mono ?_
  rintro e w1 (⟨_, rfl, rfl⟩ | ⟨_, b, bd, col, y, rfl, hL⟩)
  · go_wp2_with fail
    go_ret
    exact ⟨rfl, HB0.out⟩
  have HL := Lib.hid hL
  generalize stepsM st0 l = s at HL
  clear hL
  have HF : Hid (Below w.heap.size w w1) := HB0.out.trans (HL.out.below.mono HB0.out.size)
  by_cases h1 : client < 0
  · go_wp2_with fail
    go_ret
    exact ⟨rfl, HF.out⟩
  by_cases h2 : 3 ≤ client
  · go_wp2_with fail
    go_ret
    exact ⟨rfl, HF.out⟩
  by_cases h3 : p < 0
  · go_wp2_with fail
    go_ret
    exact ⟨rfl, HF.out⟩
  by_cases h4 : 32 ≤ p
  · go_wp2_with fail
    go_ret
    exact ⟨rfl, HF.out⟩
  obtain ⟨c, rfl⟩ : ∃ c : Nat, client = (c : Int) := ⟨client.toNat, by omega⟩
  have hc : c < 3 := by omega
  go_wp2_with fail
  refine (waits_any col w1 b bd 120 y s c HL.out.st hc).mono ?_
  rintro e w2 ⟨rfl, rfl⟩
  cases ha : s.askAt c with
  | none =>
    simp only [Option.isSome_none]
    go_wp2_with fail
    go_ret
    exact ⟨rfl, HF.out⟩
  | some a =>
    have Ha := Lib.hid ha
    simp only [Option.isSome_some]
    clear ha
    go_wp2_with fail
    refine (stqueue_any col w1 b bd 120 y s HL.out.st HL.out.inv.wait6).mono ?_
    rintro e w2 ⟨v2, rfl, hv2, hb2⟩
    obtain ⟨Aq, cq, eq, _, _⟩ := hv2.form
    subst eq
    have HV2 : Hid (ReqsAt (S0 col) w2 (.slice Aq s.wait.length cq) s.wait) := hv2.more (fun k hk => hk.elim (fun h => h.2) (fun h => HL.out.st.s0 k h))
    have H2 := Lib.hid (HL.out.step hb2)
    clear hv2 hb2
    go_wp2_with fail
    refine (stdirty_any col w2 b bd 120 y s H2.out.st H2.out.inv.len8).mono ?_
    rintro e w3 ⟨rfl, hb3⟩
    have H3 := Lib.hid (H2.out.step hb3)
    have HV3 := Lib.hid (HV2.out.below hb3)
    clear hb3
    go_wp2_with fail
    have He : Hid (s.ask (c : Int) 2 p ⟨#[120]⟩ = (s, 6)) := ask_busy (by omega) (by
      have : (⟨#[120]⟩ : ByteArray).size = 1 := rfl
      omega) (by rw [Int.toNat_natCast, Ha.out]; rfl)
    refine (ask_any col w3 b bd 120 y s (c : Int) 2 p ⟨#[120]⟩ 1800 H3.out.st H3.out.inv H3.out.bnd (by omega) (by omega)).mono ?_
    rintro e w4 hr
    rw [He.out] at hr
    obtain ⟨col4, y4, rfl, g1, g2, g3⟩ := hr
    have H4 := Lib.hid (H3.out.call g1 H3.out.inv H3.out.bnd (by omega) g2 g3)
    have HV4 : Hid (ReqsAt (S0 col) w4 (.slice Aq s.wait.length cq) s.wait) := HV3.out.keep (fun k hk hlt => g2.block k hlt (fun hf => hf hk))
    clear g1 g2 g3
    go_wp2_with fail
    refine (number_any 6 w4).mono ?_
    rintro e w5 ⟨rfl, rfl⟩
    go_wp2_with fail
    refine (waits_any col4 w4 b bd 120 y4 s c H4.out.st hc).mono ?_
    rintro e w5 ⟨rfl, rfl⟩
    rw [Ha.out]
    simp only [Option.isSome_some]
    go_wp2_with fail
    refine (stqueue_any col4 w4 b bd 120 y4 s H4.out.st H4.out.inv.wait6).mono ?_
    rintro e w5 ⟨v5, rfl, hv5, hb5⟩
    obtain ⟨A5, c5, e5, _, _⟩ := hv5.form
    subst e5
    have HV5 := Lib.hid (HV4.out.below hb5)
    have HX5 := Lib.hid hv5
    have H5 := Lib.hid (H4.out.step hb5)
    clear hv5 hb5
    go_wp2_with fail
    refine (samereqs_any (fun _ => True) s.wait s.wait _ _ w5 (HV5.out.more (fun _ _ => trivial)) (HX5.out.more (fun _ _ => trivial))).mono ?_
    rintro e w6 ⟨rfl, hb6⟩
    have H6 := Lib.hid (H5.out.step hb6)
    have hsm : sameLB s.wait s.wait = true := sameLB_true.2 rfl
    rw [hsm]
    clear hb6 hsm
    go_wp2_with fail
    refine (stdirty_any col4 w6 b bd 120 y4 s H6.out.st H6.out.inv.len8).mono ?_
    rintro e w7 ⟨rfl, hb7⟩
    have H7 := Lib.hid (H6.out.step hb7)
    clear hb7
    go_wp2_with fail
    go_ret
    exact ⟨rfl, HB0.out.trans (H7.out.below.mono HB0.out.size)⟩
set_option maxRecDepth 100000 in
set_option maxHeartbeats 2000000 in
theorem dead_walk (l more : List Sp) (v v' : Value) (w : World) (h : StepsAt Any w v l) (h' : StepsAt Any w v' more) : Calls Try.prog 6 #[v, v'] w (Ret (.bool true) w) := by
  obtain ⟨A', cap', rfl, hcl', hcap'⟩ := h'.form
  have H := Lib.hid h
  have H' := Lib.hid h'
  unfold maxLen at hcap'
  clear h h'
  go_enter Try.func6, Try.ntmps6
  go_wp2_with fail
  refine (works_any w).mono ?_
  rintro e w0 ⟨rfl, hb0⟩
  have HB0 := Lib.hid hb0
  clear hb0
  go_wp2_with fail
  refine (stepped_any _ l v w0 (H.out.below HB0.out)).mono ?_
  rintro e w1 (⟨_, rfl, rfl⟩ | ⟨_, b, bd, col, y, rfl, hL⟩)
  · go_wp2_with fail
    go_ret
    exact ⟨rfl, HB0.out⟩
  have HL := Lib.hid hL
  generalize stepsM st0 l = s at HL
  clear hL
  have HF : Hid (Below w.heap.size w w1) := HB0.out.trans (HL.out.below.mono HB0.out.size)
  go_wp2_with fail
  refine (lightsteps_any _ more _ 60 w1 (H'.out.below HF.out) (by omega)).mono ?_
  rintro e w2 ⟨rfl, rfl⟩
  cases hl : lightSp more 60 with
  | false =>
    clear hl
    go_wp2_with fail
    go_ret
    exact ⟨rfl, HF.out⟩
  | true =>
    have hlen := lightSp_len hl
    clear hl
    go_wp2_with fail
    refine (dead_any col w1 b bd 120 y s HL.out.st).mono ?_
    rintro e w2 ⟨rfl, rfl⟩
    cases hd : s.dead with
    | false =>
      clear hd
      go_wp2_with fail
      go_ret
      exact ⟨rfl, HF.out⟩
    | true =>
      have Hd0 := Lib.hid hd
      clear hd
      go_wp2_with fail
      go_loopw [8] (fun i wr => ∃ (k : Nat) (col : Nat → Nat) (y : Sv) (t : St), k ≤ more.length ∧ i = .int .i64 k ∧ Hid (Lst w0 wr col b bd (120 + k) (1800 + 15 * (k : Int)) y t []) ∧ Hid (t.dead = true)) (fun i _ => more.length - (intOf i).toNat)
      case atStart => exact ⟨0, col, y, s, by omega, rfl, HL.out.cast' (by omega) (by omega), Hd0.out⟩
      case round =>
        obtain ⟨k, col, y, t, hk, rfl, HT, Hd⟩ := hrel
        have HFr : Hid (Below w.heap.size w wr) := HB0.out.trans (HT.out.below.mono HB0.out.size)
        by_cases hlt : k < more.length
        · have hlt2 : (k : Int) < (more.length : Int) := by omega
          obtain ⟨g, off, z, rfl, hgl, hx, c0, c1, c2, c3⟩ := (H'.out.below HFr.out).cells hlt
          have Hx := Lib.hid hx
          clear hx
          go_wp2_with fail
          obtain ⟨n, hn⟩ : ∃ n, wr.heap.size = n := ⟨_, rfl⟩
          have hLa := HT.out.alloc n #[.string z.word, .int .i64 z.a, .int .i64 z.b, .string z.data] 33 hn
          rw [hn]
          have HA := Lib.hid hLa
          clear hLa c0 c1 c2 c3
          generalize World.alloc _ _ = w2 at HA ⊢
          have HI := Lib.hid HA.out.inv
          refine (step_any col w2 b bd (120 + k) y t z (1800 + 15 * (k : Int)) HA.out.st HA.out.inv HA.out.bnd (by omega) (by omega) (by omega)).mono ?_
          rintro e w3 hr
          obtain ⟨rfl, col3, y3, h3⟩ := HA.out.five hr (HA.out.inv.stepM z) (HA.out.bnd.stepM (by omega) HA.out.inv z) (by omega)
          have H3 := Lib.hid h3
          have HD3 := Lib.hid (stepM_dead HI.out Hd.out z)
          clear hr h3
          have q0 : w3.cell? ⟨n, 0, none⟩ = some (.string z.word) := H3.out.cell 0 rfl 0
          have q1 : w3.cell? ⟨n, 1, none⟩ = some (.int .i64 z.a) := H3.out.cell 0 rfl 1
          go_wp2_with fail
          refine (dead_any col3 w3 b bd (120 + k + 1) y3 _ H3.out.st).mono ?_
          rintro e w4 ⟨rfl, rfl⟩
          rw [HD3.out]
          by_cases he0 : (stepM t z).2 = 0
          · rcases Bool.eq_false_or_eq_true (z.word.toList == [119, 114, 105, 116, 101]) with hw | hw
            · have hcm : cmdOf z.word = .write := cmd_write (by have e := eq_of_beq hw; rw [e]; rfl) hw
              obtain ⟨ha0, ha3, han, hag⟩ := dead_step HI.out Hd.out (.inl hcm) he0
              obtain ⟨c, hca⟩ : ∃ c : Nat, z.a = (c : Int) := ⟨z.a.toNat, by omega⟩
              rw [hca, Int.toNat_natCast] at han hag
              rw [hca] at q1 ha3
              have hc3 : c < 3 := by omega
              have Han := Lib.hid han
              have Hag := Lib.hid hag
              have He0 := Lib.hid he0
              clear han hag hca ha0 ha3 hcm
              rw [he0]
              clear he0
              go_wp2_with fail
              refine (got_any col3 w3 b bd (120 + k + 1) y3 _ c H3.out.st hc3).mono ?_
              rintro e w4 ⟨rfl, hb4⟩
              rw [Hag.out]
              have H4 := Lib.hid (H3.out.step hb4)
              have q1 : w4.cell? ⟨n, 1, none⟩ = some (.int .i64 (c : Int)) := cell_b hb4 q1
              clear hb4 q0
              go_wp2_with fail
              refine (waits_any col3 w4 b bd (120 + k + 1) y3 _ c H4.out.st hc3).mono ?_
              rintro e w5 ⟨rfl, rfl⟩
              rw [Han.out]
              simp only [Option.isSome_none]
              go_wp2_with fail
              refine (number_any 9 w4).mono ?_
              rintro e w5 ⟨rfl, rfl⟩
              clear q1
              go_wp2_with fail
              go_roundw
              case rel => exact ⟨k + 1, col3, y3, _, by omega, by go_num, (H4.out.drop).cast' (by omega) (by omega), HD3.out⟩
              case measure => simp [intOf]; omega
            · rcases Bool.eq_false_or_eq_true (z.word.toList == [115, 121, 110, 99]) with hs | hs
              · have hcm : cmdOf z.word = .sync := cmd_sync (by have e := eq_of_beq hs; rw [e]; rfl) hw hs
                obtain ⟨ha0, ha3, han, hag⟩ := dead_step HI.out Hd.out (.inr hcm) he0
                obtain ⟨c, hca⟩ : ∃ c : Nat, z.a = (c : Int) := ⟨z.a.toNat, by omega⟩
                rw [hca, Int.toNat_natCast] at han hag
                rw [hca] at q1 ha3
                have hc3 : c < 3 := by omega
                have Han := Lib.hid han
                have Hag := Lib.hid hag
                have He0 := Lib.hid he0
                clear han hag hca ha0 ha3 hcm
                rw [he0]
                clear he0
                go_wp2_with fail
                refine (got_any col3 w3 b bd (120 + k + 1) y3 _ c H3.out.st hc3).mono ?_
                rintro e w4 ⟨rfl, hb4⟩
                rw [Hag.out]
                have H4 := Lib.hid (H3.out.step hb4)
                have q1 : w4.cell? ⟨n, 1, none⟩ = some (.int .i64 (c : Int)) := cell_b hb4 q1
                clear hb4 q0
                go_wp2_with fail
                refine (waits_any col3 w4 b bd (120 + k + 1) y3 _ c H4.out.st hc3).mono ?_
                rintro e w5 ⟨rfl, rfl⟩
                rw [Han.out]
                simp only [Option.isSome_none]
                go_wp2_with fail
                refine (number_any 9 w4).mono ?_
                rintro e w5 ⟨rfl, rfl⟩
                clear q1
                go_wp2_with fail
                go_roundw
                case rel => exact ⟨k + 1, col3, y3, _, by omega, by go_num, (H4.out.drop).cast' (by omega) (by omega), HD3.out⟩
                case measure => simp [intOf]; omega
              · rw [he0]
                go_wp2_with fail
                go_roundw
                case rel => exact ⟨k + 1, col3, y3, _, by omega, by go_num, (H3.out.drop).cast' (by omega) (by omega), HD3.out⟩
                case measure => simp [intOf]; omega
          · have hb : ((stepM t z).2 == 0) = false := by simpa using he0
            clear he0
            go_wp2_with fail
            go_roundw
            case rel => exact ⟨k + 1, col3, y3, _, by omega, by go_num, (H3.out.drop).cast' (by omega) (by omega), HD3.out⟩
            case measure => simp [intOf]; omega
        · obtain rfl : k = more.length := by omega
          have hlt2 : ¬ (more.length : Int) < (more.length : Int) := by omega
          go_wp2_with fail
          go_ret
          exact ⟨rfl, HFr.out⟩
end Go.Proofs.Ytojmnfelecnenaa
namespace Go.Proofs.Ytojmnfelecnenaa.topDead
open Go.ChangeShapes Go.WideShapes Go.ChangeAt Go.RowKit Go.Joins

set_option maxRecDepth 100000 in
theorem lifted (os : Os) (started : os.Started) (H : Type) (enc : TypeId × Value → H) :
    ReturnsInHanded {} Try.checked os 6 .any (Rows.topDeadSpec.pre6 enc Try.prog Try.f6 Rows.topDeadRow.domain false) (Rows.topDeadSpec.post enc Try.prog Try.f6 false true false false) := by
  refine returnsInHanded_of_change (C := Try.checked) own started (by kernel_rfl) Try.func6
    (ChangeSpec.witness6 (enc := enc) (C := Try.checked) false ⟨#[], #[.slice none 0 0, .slice none 0 0], []⟩ 8 (by kernel_rfl) (by kernel_rfl) (by kernel_rfl) (by kernel_rfl)) ?_
  intro W base args ds gs before hval0 hW _ _
  have hval : ∀ (j : Nat) t v, Try.f6.params[j]? = some t → args[j]? = some v → Value.okWide Try.prog W .any base t v := hval0
  refine law_contract (fn := Try.f6) rfl rfl (fun ds h => ?_) (by rw [Try.params6]; intro t ht; simp at ht; subst ht; exact ⟨by kernel_rfl, of_decide_eq_true (by kernel_rfl)⟩) hW ?_
  · match ds, h with
    | [_, _], _ => rfl
  · intro p hA hlt
    rw [Try.params6] at hA hval
    obtain ⟨v0, vs0, d0, ds0, p0, q0, hargs, rfl, rfl, h0, r0⟩ := trodAll_cons hA
    obtain ⟨v1, vs1, d1, ds1, p1, q1, rfl, rfl, rfl, h1, r1⟩ := trodAll_cons r0
    obtain ⟨rfl, rfl, rfl⟩ := trodAll_nil r1
    obtain rfl : args = #[v0, v1] := by cases args; simp_all
    obtain ⟨l0, hl0⟩ := steps_of h0 (okWide_slice Try.underlying22 (hval 0 22 v0 rfl rfl))
    obtain ⟨l1, hl1⟩ := steps_of h1 (okWide_slice Try.underlying22 (hval 1 22 v1 rfl rfl))
    exact dead_walk l0 l1 v0 v1 W hl0 hl1

theorem over : Rows.topDeadRow.holds Try.pinned (OpenSpec.ofChange Rows.topDeadSpec) :=
  OpenClaim.holds_of_wide 6 Try.f6 rfl rfl rfl rfl rfl rfl rfl ⟨rfl, rfl, rfl, rfl, rfl⟩ rfl rfl rfl rfl rfl (by kernel_rfl) Try.func6 (by kernel_rfl)
    (of_decide_eq_true (by kernel_rfl)) (by unfold Func.isWrapper; rw [if_neg (of_decide_eq_false (by kernel_rfl))]; exact ⟨rfl, rfl⟩)
    (fun os started H enc _ => lifted os started H enc)

theorem proved : Rows.TopDeadSaid :=
  over
#print axioms proved
end Go.Proofs.Ytojmnfelecnenaa.topDead
