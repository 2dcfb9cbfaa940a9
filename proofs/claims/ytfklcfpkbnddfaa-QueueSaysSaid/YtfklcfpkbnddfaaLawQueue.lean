/- The law TopQueue: its walk. -/
import Derived.Test.YtfklcfpkbnddfaaMod5
import Derived.Test.YtfklcfpkbnddfaaLawMerge
import Derived.Test.YtfklcfpkbnddfaaGood
namespace Go.Proofs.Ytfklcfpkbnddfaa
set_option linter.unusedSimpArgs false
set_option linter.unusedVariables false
open Go.RowKit Go.Sort

theorem add_lit : addM [] litA = ([litA], 0) := by decide
theorem many_of {l : List Rq} (h : goodReqs l = true) (x : Rq) (hx : x ∈ l) : 1 ≤ x.many ∧ x.many ≤ 4 := by
  obtain ⟨i, hi⟩ := List.mem_iff_getElem?.1 hx
  have := (good_mem h hi).span
  exact ⟨this.2.2.1, this.2.2.2.1⟩
theorem light_len' {l : List Rq} (h : lightReqs l = true) : l.length ≤ 10 := by
  unfold lightReqs at h; simp at h; exact h.1
set_option maxRecDepth 100000 in
set_option maxHeartbeats 4000000 in
theorem topqueue_walk (l : List Rq) (r : Rq) (v rv : Value) (w : World) (h : ReqsAt Any w v l) (hr : ReqAt Any w rv r) :
    Calls Try.prog 11 #[v, rv] w (Ret (.bool true) w) := by
  obtain ⟨Ad, cd, At, ct, rfl, _, _, _, _, _, _, _⟩ := hr.opened
  obtain ⟨A, cap, rfl, hc1, hcap⟩ := h.form
  unfold maxLen at hcap
  have H := Lib.hid h
  have Hr := Lib.hid hr
  have HS : Hid (∀ w : World, ∀ b, w.heap.size ≤ b → Any b) := fun _ _ _ => trivial
  clear h hr
  go_enter Try.func11, Try.ntmps11
  go_wp2_with fail
  have L := ((Lay.refl w).alloc' w.heap.size #[Value.bool r.write, Value.int IntKind.i64 r.lo, Value.int IntKind.i64 r.many, Value.slice Ad r.data.length cd, Value.slice At r.tags.length ct, Value.int IntKind.i64 r.born] 45 rfl).alloc' (w.heap.size + 1) #[Value.int IntKind.i64 1] 3 (by simp)
  generalize World.alloc _ _ = W1 at L ⊢
  refine (add_any Any [] litA _ _ _ (HS.out _) reqs_nil (req_lit (L.at_ 0 rfl) (by unfold i64; omega) (by unfold i64; omega) (by unfold i64; omega) (by unfold i64; omega)) (by simp) (by simp)).mono ?_
  rintro e w2 ⟨v2, rfl, hv2, hb2⟩
  rw [add_lit] at hv2 ⊢
  obtain ⟨A2, c2, rfl, _, _⟩ := hv2.form
  have L2 := L.step hb2
  simp only [List.length_cons, List.length_nil]
  clear hv2 L hb2
  go_wp2_with fail
  refine (lightreqs_any Any l _ _ (H.out.below L2.below)).mono ?_
  rintro e w3 ⟨rfl, hb3⟩
  have L3 := L2.step hb3
  clear L2 hb3
  cases g1 : lightReqs l with
  | false =>
    go_wp2
    go_ret
    exact ⟨rfl, L3.below⟩
  | true =>
    have G1 := Lib.hid g1
    have hl10 := light_len' g1
    clear g1
    obtain ⟨c0, c1, c2, c3, c4, c5⟩ := L3.c6 1 rfl
    go_wp2_with fail
    refine (lightreq_any Any r _ _ (Hr.out.below L3.below)).mono ?_
    rintro e w4 ⟨rfl, hb4⟩
    have L4 := L3.step hb4
    clear L3 hb4 c0 c1 c2 c3 c4 c5
    cases g2 : lightReq r with
    | false =>
      go_wp2
      go_ret
      exact ⟨rfl, L4.below⟩
    | true =>
      have G2 := Lib.hid g2
      clear g2
      go_wp2_with fail
      refine (goodreqs_any Any l _ _ (H.out.below L4.below)).mono ?_
      rintro e w5 ⟨rfl, hb5⟩
      have L5 := L4.step hb5
      clear L4 hb5
      cases g3 : goodReqs l with
      | false =>
        go_wp2
        go_ret
        exact ⟨rfl, L5.below⟩
      | true =>
        have G3 := Lib.hid g3
        clear g3
        obtain ⟨c0, c1, c2, c3, c4, c5⟩ := L5.c6 1 rfl
        go_wp2_with fail
        refine (add_any Any l r _ _ _ (HS.out _) (H.out.below L5.below) (Hr.out.below L5.below) (fun x hx => by
          obtain ⟨i, hi⟩ := List.mem_iff_getElem?.1 hx
          exact good_mem G3.out hi) (by omega)).mono ?_
        rintro e w6 ⟨v6, rfl, hv6, hb6⟩
        have L6 := L5.step hb6
        clear L5 hb6 c0 c1 c2 c3 c4 c5
        by_cases g4 : (addM l r).2 = 0
        rotate_left
        · have g4' : ((addM l r).2 == 0) = false := by simpa using g4
          rw [add_err g4] at hv6
          obtain ⟨A6, c6, rfl, _, _⟩ := hv6.form
          simp only [List.length_nil]
          clear g4
          go_wp2
          go_ret
          exact ⟨rfl, L6.below⟩
        obtain ⟨q, hq⟩ : ∃ q, addM l r = (q, 0) := ⟨(addM l r).1, by rw [← g4]⟩
        rw [hq] at hv6 ⊢
        have ha := add_facts G3.out hq
        obtain ⟨r1, r2, r3, r4, r5⟩ := (add_ok hq).span
        clear g4 hq
        obtain ⟨A6, c6, rfl, hc61, hc62⟩ := hv6.form
        unfold maxLen at hc62
        have Hq := Lib.hid hv6
        have hql := ha.len
        have Ha := Lib.hid ha
        simp only at hql ⊢
        clear hv6 ha
        have hw1 : IntKind.i64.wrap ((l.length : Int) + 1) = (l.length : Int) + 1 := IntWalk.i64_in _ (by omega)
        go_wp2_with fail
        refine (goodreqs_any Any q _ _ Hq.out).mono ?_
        rintro e w7 ⟨rfl, hb7⟩
        rw [Ha.out.good]
        have L7 := L6.step hb7
        have Hq7 := Lib.hid (Hq.out.below hb7)
        clear L6 hb7 Hq
        have hlq : decide ((l.length : Int) + 1 < (q.length : Int)) = false := by simp; omega
        obtain ⟨c0, c1, c2, c3, c4, c5⟩ := L7.c6 1 rfl
        go_wp2_with fail
        have Hmq := Lib.hid (fun x hx => (many_of Ha.out.good x hx) : ∀ x ∈ q, 1 ≤ x.many ∧ x.many ≤ 4)
        have Hml := Lib.hid (fun x hx => (many_of G3.out x hx) : ∀ x ∈ l, 1 ≤ x.many ∧ x.many ≤ 4)
        have Hl7 := Lib.hid (H.out.below L7.below)
        have Hrm := Lib.hid L7.below
        go_loop [7, 9] (fun n i => ∃ k : Nat, k ≤ q.length ∧ i = .int .i64 k ∧ n = .int .i64 (sumMany (q.take k))) (fun _ i => q.length - (intOf i).toNat)
        case atStart => exact ⟨0, by omega, rfl, by simp [sumMany]⟩
        case round =>
          obtain ⟨k, hk, rfl, rfl⟩ := hrel
          by_cases hlt : k < q.length
          · obtain ⟨b, off, rfl, _, _, hc⟩ := Hq7.out.at_ (by omega)
            have hx : q[k]? = some q[k] := List.getElem?_eq_getElem hlt
            obtain ⟨_, _, _, _, _, k0, k1, k2, k3, k4, k5⟩ := hc k _ hx
            have hs := sum_take_succ hx
            have hm := Hmq.out _ (List.mem_of_getElem? hx)
            have hbd := sum_bound (l := q.take k) (fun x hx => Hmq.out x (List.mem_of_mem_take hx))
            rw [List.length_take, Nat.min_eq_left (by omega)] at hbd
            generalize q[k] = x at *
            have hwr : IntKind.i64.wrap (sumMany (q.take k) + x.many) = sumMany (q.take (k + 1)) := by rw [hs]; exact IntWalk.i64_in _ (by omega)
            clear hs hc hx hm hbd
            go_wp2
            go_round
            case rel => exact ⟨k + 1, by omega, by go_num, rfl⟩
            case measure => simp [intOf]; omega
          · obtain rfl : k = q.length := by omega
            rw [List.take_length]
            rw [Ha.out.sum]
            go_wp2_with fail
            go_loop [8, 10] (fun n i => ∃ k : Nat, k ≤ l.length ∧ i = .int .i64 k ∧ n = .int .i64 (r.many + sumMany (l.take k))) (fun _ i => l.length - (intOf i).toNat)
            case atStart => exact ⟨0, by omega, rfl, by simp [sumMany]⟩
            case round =>
              obtain ⟨k, hk, rfl, rfl⟩ := hrel
              by_cases hlt : k < l.length
              · obtain ⟨b, off, rfl, _, _, hc⟩ := Hl7.out.at_ (by omega)
                have hx : l[k]? = some l[k] := List.getElem?_eq_getElem hlt
                obtain ⟨_, _, _, _, _, k0, k1, k2, k3, k4, k5⟩ := hc k _ hx
                have hs := sum_take_succ hx
                have hm := Hml.out _ (List.mem_of_getElem? hx)
                have hbd := sum_bound (l := l.take k) (fun x hx => Hml.out x (List.mem_of_mem_take hx))
                rw [List.length_take, Nat.min_eq_left (by omega)] at hbd
                generalize l[k] = x at *
                have hwr : IntKind.i64.wrap (r.many + sumMany (l.take k) + x.many) = r.many + sumMany (l.take (k + 1)) := by rw [hs]; rw [← Int.add_assoc]; exact IntWalk.i64_in _ (by omega)
                clear hs hc hx hm hbd
                go_wp2
                go_round
                case rel => exact ⟨k + 1, by omega, by go_num, rfl⟩
                case measure => simp [intOf]; omega
              · obtain rfl : k = l.length := by omega
                rw [List.take_length]
                go_wp2_with fail
                have HL7 := Lib.hid L7
                clear L7 c0 c1 c2 c3 c4 c5
                go_loopw [11] (fun i wr => ∃ k : Nat, k ≤ q.length ∧ i = .int .i64 k ∧ Below w7.heap.size w7 wr ∧ Hid (∀ (j : Nat) (y : Rq), j < k → q[j]? = some y → hasB y.lo y.many r.lo = false)) (fun i _ => q.length - (intOf i).toNat)
                case atStart => exact ⟨0, by omega, rfl, Below.refl _ _, fun j y h => by omega⟩
                case round =>
                  obtain ⟨k, hk, rfl, hw, hno⟩ := hrel
                  by_cases hlt : k < q.length
                  · obtain ⟨b, off, rfl, _, _, hc⟩ := (Hq7.out.below hw).at_ (by omega)
                    have hx : q[k]? = some q[k] := List.getElem?_eq_getElem hlt
                    obtain ⟨Xd, xd, Xt, xt, _, k0, k1, k2, k3, k4, k5⟩ := hc k _ hx
                    obtain ⟨s1, s2, s3, s4, s5⟩ := (good_mem Ha.out.good hx).span
                    have Hx := Lib.hid hx
                    clear hc hx
                    generalize q[k] = x at *
                    obtain ⟨c0, c1, c2, c3, c4, c5⟩ := (HL7.out.step hw).c6 1 rfl
                    have hk1 : (k : Int) < (q.length : Int) := by omega
                    have Hk := Lib.hid (And.intro k0 k4)
                    have Hc := Lib.hid (And.intro c0 c4)
                    have k1 := cell_regrown k1
                    have k2 := cell_regrown k2
                    have c1 := cell_regrown c1
                    clear k0 k3 k4 k5 c0 c2 c3 c4 c5
                    go_wp2_with fail
                    refine wp_region_quiet_below mixed (by kernel_rfl) ?_
                    repeat (quiet_step (first | (go_at_call 20; exact Calls.rg (has_any _ _ _ _ s1 (by omega) (by omega) (by omega)))))
                    refine wpQuiet_nil ?_
                    intro _ hw'
                    obtain ⟨⟨dq, osq⟩, hw''⟩ := hw'
                    subst hw''
                    have hbq := below_regrown wr dq osq
                    generalize grow (redrawn wr dq) osq = w8 at hbq ⊢
                    have hw8 := hw.trans (hbq.mono hw.size)
                    clear k1 k2 c1
                    cases hhas : hasB x.lo x.many r.lo with
                    | false =>
                      have Hh := Lib.hid hhas
                      clear hhas
                      go_wp2_with fail
                      go_roundw
                      case rel => exact ⟨k + 1, by omega, by go_num, hw8, fun j y hj hy => by
                        rcases Nat.lt_or_ge j k with h | h
                        · exact hno.out j y h hy
                        · obtain rfl : j = k := by omega
                          have h1 := Hx.out
                          rw [hy] at h1
                          cases h1
                          exact Hh.out⟩
                      case measure => simp [intOf]; omega
                    | true =>
                      have Hh := Lib.hid hhas
                      clear hhas
                      obtain ⟨i, x', hi, hih, hiw, hit⟩ := Ha.out.one
                      obtain rfl : i = k := good_only Ha.out.good hi Hx.out hih Hh.out
                      obtain rfl : x' = x := by have := Hx.out; rw [hi] at this; cases this; rfl
                      obtain ⟨k0, k4⟩ := Hk.out
                      obtain ⟨c0, c4⟩ := Hc.out
                      have k0 := cell_below hbq k0
                      have k4 := cell_below hbq k4
                      have c0 := cell_below hbq c0
                      have c4 := cell_below hbq c4
                      rw [hiw] at k0
                      clear hi hih hiw hno
                      by_cases hq1 : q.length = l.length + 1
                      · have e1 : ((q.length : Int) == (l.length : Int) + 1) = true := by simp; omega
                        clear hq1 hit
                        go_wp2_with fail
                        go_quiet (fail)
                        go_wp2_with fail
                        go_ret
                        exact ⟨rfl, HL7.out.below.trans (Below.mono (hw8.trans (drewN_below _ _ _)) HL7.out.size)⟩
                      · have e1 : ((q.length : Int) == (l.length : Int) + 1) = false := by simp; omega
                        have Ht := Lib.hid (hit.resolve_left hq1)
                        clear hq1 hit
                        go_wp2_with fail
                        go_quiet (fail)
                        go_wp2_with fail
                        go_ret
                        exact ⟨congrArg (fun t => Ending.returned (Value.bool t)) (decide_eq_true (p := r.tags.length < x'.tags.length) Ht.out), HL7.out.below.trans (Below.mono (hw8.trans (drewN_below _ _ _)) HL7.out.size)⟩
                  · exfalso
                    obtain ⟨i, x', hi, hih, hiw, hit⟩ := Ha.out.one
                    have := hno.out i x' (by have := (List.getElem?_eq_some_iff.1 hi).1; omega) hi
                    rw [hih] at this
                    cases this
end Go.Proofs.Ytfklcfpkbnddfaa
