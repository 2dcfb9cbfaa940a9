/- GoodReqs: may each be, and have no two a sector in common? -/
import Derived.Test.YtfklcfpkbnddfaaCheck
import Derived.Test.YtfklcfpkbnddfaaSpan2
namespace Go.Proofs.Ytfklcfpkbnddfaa
open Go.RowKit Go.Sort

set_option maxRecDepth 100000 in
set_option maxHeartbeats 2000000 in
theorem goodreqs_any (S : Nat → Prop) (l : List Rq) (v : Value) (w : World) (h : ReqsAt S w v l) :
    Calls Try.prog 24 #[v] w (Ret (.bool (goodReqs l)) w) := by
  obtain ⟨A, cap, rfl, h1, h2⟩ := h.form
  unfold maxLen at h2
  have Hl := Lib.hid h
  clear h
  go_enter Try.func24, Try.ntmps24
  go_wp2
  go_loopw [3, 4, 5] (fun i _ _ wr => ∃ k : Nat, k ≤ l.length ∧ i = .int .i64 k ∧ Below w.heap.size w wr ∧ Hid ((List.range k).all (okAt l) = true)) (fun i _ _ _ => l.length - (intOf i).toNat)
  case atStart => exact ⟨0, by omega, rfl, Below.refl _ _, rfl⟩
  case round =>
    obtain ⟨k, hk, rfl, hb, hall⟩ := hrel
    by_cases hlt : k < l.length
    · have hkl : (k : Int) < (l.length : Int) := by omega
      have Hm := Lib.hid (Hl.out.below hb)
      obtain ⟨b, off, rfl, _, hbl, hc⟩ := Hm.out.at_ (by omega)
      have hx : l[k]? = some l[k] := List.getElem?_eq_getElem hlt
      obtain ⟨Ad, cd, At, ct, hok, k0, k1, k2, k3, k4, k5⟩ := hc k _ hx
      have Hx := Lib.hid hx
      clear hx
      generalize l[k] = r at hok k0 k1 k2 k3 k4 k5 Hx
      have Hc := Lib.hid hc
      clear hc
      by_cases hf : reqF r = 0
      · have Hr := Lib.hid (reqF_zero hf)
        go_wp2_with (go_at_call 40; refine (reqfault_any S r _ _ hok).mono ?_; rintro e w1 ⟨rfl, hb1⟩; have hb2 := hb.trans (hb1.mono hb.size))
        obtain ⟨wo, rfl⟩ : ∃ wo : World, wo = w1 := ⟨_, rfl⟩
        clear k0 k1 k2 k3 k4 k5
        go_loopw [4, 5] (fun j _ wr2 => ∃ m : Nat, m ≤ k ∧ j = .int .i64 m ∧ Below w.heap.size w wr2 ∧ Hid (apartFrom r (l.take m) = true)) (fun j _ _ => k - (intOf j).toNat)
        case atStart => exact ⟨0, by omega, rfl, hb2, rfl⟩
        case round =>
          obtain ⟨m, hm, rfl, hb3, hap⟩ := hrel
          by_cases hmk : m < k
          · obtain ⟨b', off', e, _, hbl2, hc2⟩ := (Hl.out.below hb3).at_ (by omega)
            cases e
            have hxm : l[m]? = some l[m] := List.getElem?_eq_getElem (by omega)
            obtain ⟨_, _, _, _, _, _, m1, m2, _, _, _⟩ := hc2 m _ hxm
            obtain ⟨_, _, _, _, _, _, n1, n2, _, _, _⟩ := hc2 k _ Hx.out
            clear hc2
            have Hxm := Lib.hid hxm
            clear hxm
            generalize l[m] = q at m1 m2 Hxm
            have g1 : ∀ d os, (grow (redrawn wr d) os).cell? ⟨b, off + m * 6 + 1, none⟩ = some (.int .i64 q.lo) := fun _ _ => cell_regrown m1 _ _
            have g2 : ∀ d os, (grow (redrawn wr d) os).cell? ⟨b, off + m * 6 + 2, none⟩ = some (.int .i64 q.many) := fun _ _ => cell_regrown m2 _ _
            have g3 : ∀ d os, (grow (redrawn wr d) os).cell? ⟨b, off + k * 6 + 1, none⟩ = some (.int .i64 r.lo) := fun _ _ => cell_regrown n1 _ _
            have g4 : ∀ d os, (grow (redrawn wr d) os).cell? ⟨b, off + k * 6 + 2, none⟩ = some (.int .i64 r.many) := fun _ _ => cell_regrown n2 _ _
            have hml : (m : Int) < (l.length : Int) := by omega
            have Hq : Hid (ReqOk q) := by
              have h3 := hall.out
              rw [List.all_eq_true] at h3
              have h4 := h3 m (List.mem_range.2 hmk)
              rw [okAt_some Hxm.out] at h4
              simp at h4
              exact reqF_zero h4.1
            clear m1 m2 n1 n2
            go_wp2_with fail
            refine wp_region_quiet_below mixed (by kernel_rfl) ?_
            repeat (quiet_step (first | (go_at_call 19; exact Calls.rg (rmeet_any _ _ _ _ _ (Hr.out.span.more (by omega)) (Hq.out.span.more (by omega))))))
            refine wpQuiet_nil ?_
            intro _ hw'
            obtain ⟨⟨dq, osq⟩, hw''⟩ := hw'
            subst hw''
            have hb4 := hb3.trans (Below.mono (below_regrown wr dq osq) hb3.size)
            clear g1 g2 g3 g4
            generalize grow (redrawn wr dq) osq = w4 at hb4 ⊢
            cases hmeet : meetB r.lo r.many q.lo q.many with
            | true =>
              go_wp2
              go_ret
              refine ⟨?_, hb4⟩
              have e : goodReqs l = false := by
                unfold goodReqs
                rw [List.all_eq_false]
                refine ⟨k, List.mem_range.2 hlt, ?_⟩
                rw [okAt_some Hx.out]
                have : apartFrom r (l.take k) = false := by
                  unfold apartFrom
                  rw [List.all_eq_false]
                  exact ⟨q, List.mem_of_getElem? (i := m) (by rw [List.getElem?_take, if_pos hmk]; exact Hxm.out), by simp [hmeet]⟩
                rw [this]; simp
              rw [e]; rfl
            | false =>
              go_wp2
              go_roundw
              case rel =>
                refine ⟨m + 1, by omega, by go_num, hb4, ?_⟩
                show _ = true
                unfold apartFrom
                rw [all_take_succ _ _ _ _ Hxm.out]
                have := hap.out
                unfold apartFrom at this
                rw [this, hmeet]; rfl
              case measure => simp [intOf]; omega
          · go_wp2
            go_roundw
            case rel =>
              refine ⟨k + 1, by omega, by go_num, hb3, ?_⟩
              show _ = true
              rw [range_all_succ, hall.out, okAt_some Hx.out]
              obtain rfl : m = k := by omega
              rw [hap.out]; simp [hf]
            case measure => simp [intOf]; omega
      · have hpos : 0 < (reqF r : Int) := by omega
        go_wp2_with (go_at_call 40; refine (reqfault_any S r _ _ hok).mono ?_; rintro e w1 ⟨rfl, hb1⟩; have hb2 := hb.trans (hb1.mono hb.size))
        go_ret
        refine ⟨?_, hb2⟩
        have e : goodReqs l = false := by
          unfold goodReqs
          rw [List.all_eq_false]
          refine ⟨k, List.mem_range.2 hlt, ?_⟩
          rw [okAt_some Hx.out]
          simp [hf]
        rw [e]; rfl
    · go_wp2
      go_ret
      refine ⟨?_, hb⟩
      have e : goodReqs l = true := by
        obtain rfl : k = l.length := by omega
        exact hall.out
      rw [e]; rfl
end Go.Proofs.Ytfklcfpkbnddfaa
