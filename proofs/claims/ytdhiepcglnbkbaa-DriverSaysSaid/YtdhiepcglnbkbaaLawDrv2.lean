
/- The law DriverSays: its walk. -/
import Derived.Test.YtdhiepcglnbkbaaLawDrv
namespace Go.Proofs.Ytdhiepcglnbkbaa
set_option linter.unusedSimpArgs false
set_option linter.unusedVariables false
open Go.RowKit

theorem room_test (x : Nat) : (!decide (x < 2) == decide ((x : Int) < 2)) = false := by
  by_cases h : x < 2
  · have : (x : Int) < 2 := by omega
    simp [h, this]
  · have : ¬ (x : Int) < 2 := by omega
    simp [h, this]

set_option maxRecDepth 100000 in
set_option maxHeartbeats 4000000 in
theorem drvsays_walk (l : List Ac) (v : Value) (w : World) (h : ActsAt (fun _ => True) w v l) : Calls Try.prog 4 #[v] w (Ret (.bool true) w) := by
  obtain ⟨A, cap, rfl, hc1, hc2⟩ := h.1.form
  unfold maxLen at hc2
  have H := Lib.hid (h.lt.more (S' := fun k => k < w.heap.size) (fun b hb => hb.2))
  clear h
  have hmm := @run_makeMap Try.prog
  go_enter Try.func4, Try.ntmps4
  go_wp2_with fail
  refine (drivers_any _).mono ?_
  rintro e w1 ⟨rfl, hb1⟩
  go_wp2_with fail
  refine (lightacts_any _ l 60 _ _ (H.out.below hb1) (by omega)).mono ?_
  rintro e w2 ⟨rfl, hb2'⟩
  have hb2 := hb1.trans (hb2'.mono hb1.size)
  clear hb2'
  cases g1 : lightActs l 60 with
  | false =>
    go_wp2
    go_ret
    exact ⟨rfl, hb2⟩
  | true =>
    have hlen : l.length ≤ 60 := by unfold lightActs at g1; simp at g1; exact g1.1
    have L2 := (Lay.refl w).step hb2
    clear g1 hb1 hb2
    go_wp2_with fail
    refine (devnew_any _).mono ?_
    rintro e w3 ⟨rfl, hd3, hb3, hs3⟩
    go_wp2_with fail
    refine (drvnew_any (fun k => k < w.heap.size) (fun k => k = w2.heap.size) w3 _ _ (hd3 _) (fun k hk => by omega) (fun k hk => by have := L2.size; omega)).mono ?_
    rintro e w4 ⟨rfl, hp4, hb4, hs4⟩
    have hO := Dr.begin L2 (hd3 _) hb3 hs3 hp4 hb4 hs4
    obtain ⟨bv, hbv⟩ : ∃ x, w3.heap.size + 1 = x := ⟨_, rfl⟩
    obtain ⟨bd, hbd⟩ : ∃ x, w2.heap.size = x := ⟨_, rfl⟩
    obtain ⟨bt, hbt⟩ : ∃ x, w3.heap.size = x := ⟨_, rfl⟩
    rw [hbv, hbd, hbt] at hO
    rw [hbv]
    have HO4 := Lib.hid hO
    obtain ⟨cd, hcd⟩ : ∃ x, w4.heap.size = x := ⟨_, rfl⟩
    obtain ⟨T, G, hDd⟩ := Dd.begin hO (fun k hk => hk) hcd
    have HDd := Lib.hid hDd
    clear hO L2 hd3 hb3 hs3 hp4 hb4 hs4 hDd HO4
    go_wp2_with fail
    generalize World.alloc _ _ = W4 at HDd ⊢
    go_loopw [8] (fun j wr => ∃ (i : Nat) (S F : Nat → Prop) (n : Nat) (T G : Nat → Prop) (m : Nat) (v : Drv), i ≤ l.length ∧ j = .int .i64 i ∧ Hid (Dd w wr S F bv bd bt n T G (cd + 2) cd (cd + 1) m v v []) ∧ v.d.waits.length ≤ 4 * i ∧ n ≤ 3 * i ∧ m ≤ 3 * i) (fun j _ => l.length - (intOf j).toNat)
    case atStart => exact ⟨0, _, _, _, _, _, _, _, by omega, rfl, HDd.out, by simp [drvNew, Dv.new], by omega, by omega⟩
    case round =>
      obtain ⟨i, S, F, nn, T, G, mm, v, hi, rfl, hT, hwl, hnn, hmm2⟩ := hrel
      by_cases hlt : i < l.length
      · have hx : l[i]? = some l[i] := List.getElem?_eq_getElem hlt
        generalize l[i] = a at hx
        obtain ⟨b, off, rfl, _, _, k0, k1, k2, k3, k4, k5, k6, k7, k8⟩ := (H.out.below hT.out.below).at_ hx
        have hok := H.out.2 a (List.mem_of_getElem? hx)
        obtain ⟨Ad, cd1, e1, _, _⟩ := hok.rc.data.form
        obtain ⟨At, ct1, e2, _, _⟩ := hok.rc.tags.form
        rw [e1] at k4
        rw [e2] at k5
        have Hrc := Lib.hid hok.rc.req
        rw [e1, e2] at Hrc
        have Hn := Lib.hid hok.n
        have Hk := Lib.hid hok.k
        obtain ⟨kind, ⟨r, dv, tv⟩, n, kk⟩ := a
        simp only at *
        have hi1 : (i : Int) < (l.length : Int) := by omega
        clear hx hok e1 e2
        have hT0 := Lib.hid ((hT.out.alloc wr.heap.size #[Value.string kind, Value.bool r.write, Value.int IntKind.i64 r.lo, Value.int IntKind.i64 r.many, Value.slice Ad r.data.length cd1, Value.slice At r.tags.length ct1, Value.int IntKind.i64 r.born, Value.int IntKind.i64 n, Value.int IntKind.u64 (kk : Int)] 41 rfl))
        have hcut : kk < 18446744073709551616 := Hk.out
        obtain ⟨W0, hW0⟩ : ∃ u, wr.alloc (Obj.cells #[Value.string kind, Value.bool r.write, Value.int IntKind.i64 r.lo, Value.int IntKind.i64 r.many, Value.slice Ad r.data.length cd1, Value.slice At r.tags.length ct1, Value.int IntKind.i64 r.born, Value.int IntKind.i64 n, Value.int IntKind.u64 (kk : Int)] 41) = u := ⟨_, rfl⟩
        rw [hW0] at hT0
        clear hT
        obtain ⟨q0, q1, q2, q3, q4, q5, q6, q7, q8⟩ := hT0.out.a.lay.c9 0 rfl
        rcases Bool.eq_false_or_eq_true (kind.toList == [115, 116, 97, 114, 116]) with e1 | e1
        · go_wp2_with fail
          refine (reqfault_any _ r _ _ (Hrc.out.below hT0.out.below)).mono ?_
          rintro e w5 ⟨rfl, hb5⟩
          have hT5 := Lib.hid (hT0.out.step hb5)
          clear hT0 hb5 hW0 q0 q1 q2 q3 q4 q5 q6 q7 q8
          by_cases hf : reqF r = 0
          · rw [hf]
            have Hf := Lib.hid hf
            clear hf
            go_wp2_with fail
            have hTd := Lib.hid (hT5.out.step (Below.refl _ _).drew)
            have Hrd := Lib.hid ((Hrc.out.below hTd.out.below).more (S' := fun _ => True) (fun _ _ => trivial))
            have K0 : w5.drew.cell? ⟨wr.heap.size, 1, none⟩ = some (.bool r.write) ∧ w5.drew.cell? ⟨wr.heap.size, 2, none⟩ = some (.int .i64 r.lo) ∧ w5.drew.cell? ⟨wr.heap.size, 3, none⟩ = some (.int .i64 r.many) ∧ w5.drew.cell? ⟨wr.heap.size, 4, none⟩ = some (.slice Ad r.data.length cd1) ∧ w5.drew.cell? ⟨wr.heap.size, 5, none⟩ = some (.slice At r.tags.length ct1) ∧ w5.drew.cell? ⟨wr.heap.size, 6, none⟩ = some (.int .i64 r.born) := by
              obtain ⟨_, c1, c2, c3, c4, c5, c6, _, _⟩ := hTd.out.a.lay.c9 0 rfl
              exact ⟨c1, c2, c3, c4, c5, c6⟩
            go_region_held3 (fun u => u.cell? ⟨wr.heap.size, 1, none⟩ = some (.bool r.write) ∧ u.cell? ⟨wr.heap.size, 2, none⟩ = some (.int .i64 r.lo) ∧ u.cell? ⟨wr.heap.size, 3, none⟩ = some (.int .i64 r.many) ∧ u.cell? ⟨wr.heap.size, 4, none⟩ = some (.slice Ad r.data.length cd1) ∧ u.cell? ⟨wr.heap.size, 5, none⟩ = some (.slice At r.tags.length ct1) ∧ u.cell? ⟨wr.heap.size, 6, none⟩ = some (.int .i64 r.born))
              (first | exact K2 | exact K1 | exact K0)
              (first
                | (go_at_call 32; refine (drvstart_any _ _ _ bv bd bt _ _ r _ hTd.out.a.p ((Hrc.out.below hTd.out.below).more hTd.out.a.s0) hTd.out.a.flt hTd.out.a.sf hTd.out.a.sl hTd.out.a.ok.two).mono ?_; rintro e u1 ⟨rfl, hd1, hc1⟩; have hT1 := Lib.hid (hTd.out.prog1 hd1 hc1 (hTd.out.a.ok.start Hf.out) rfl); clear hd1 hc1
                   have K1 : u1.cell? ⟨wr.heap.size, 1, none⟩ = some (.bool r.write) ∧ u1.cell? ⟨wr.heap.size, 2, none⟩ = some (.int .i64 r.lo) ∧ u1.cell? ⟨wr.heap.size, 3, none⟩ = some (.int .i64 r.many) ∧ u1.cell? ⟨wr.heap.size, 4, none⟩ = some (.slice Ad r.data.length cd1) ∧ u1.cell? ⟨wr.heap.size, 5, none⟩ = some (.slice At r.tags.length ct1) ∧ u1.cell? ⟨wr.heap.size, 6, none⟩ = some (.int .i64 r.born) := (by
                      obtain ⟨_, c1, c2, c3, c4, c5, c6, _, _⟩ := hT1.out.a.lay.c9 0 rfl
                      exact ⟨c1, c2, c3, c4, c5, c6⟩))
                | (go_at_call 19; refine (rdevstart_any _ _ _ cd _ r _ hT1.out.b.p.dev ((Hrc.out.below hT1.out.below).more hT1.out.b.s0) hT1.out.b.flt hT1.out.b.sf hT1.out.b.ok.two).mono ?_; rintro e u2 ⟨rfl, hd2, hc2⟩; have hT2 := Lib.hid (hT1.out.ref1 hd2 hc2 (hT1.out.b.ok.start Hf.out)); clear hd2 hc2
                   have K2 : u2.cell? ⟨wr.heap.size, 1, none⟩ = some (.bool r.write) ∧ u2.cell? ⟨wr.heap.size, 2, none⟩ = some (.int .i64 r.lo) ∧ u2.cell? ⟨wr.heap.size, 3, none⟩ = some (.int .i64 r.many) ∧ u2.cell? ⟨wr.heap.size, 4, none⟩ = some (.slice Ad r.data.length cd1) ∧ u2.cell? ⟨wr.heap.size, 5, none⟩ = some (.slice At r.tags.length ct1) ∧ u2.cell? ⟨wr.heap.size, 6, none⟩ = some (.int .i64 r.born) := (by
                      obtain ⟨_, c1, c2, c3, c4, c5, c6, _, _⟩ := hT2.out.a.lay.c9 0 rfl
                      exact ⟨c1, c2, c3, c4, c5, c6⟩))
                | (go_at_call 17; refine (same_any _ _ _).mono ?_; rintro e u3 ⟨rfl, rfl⟩; rw [beq_self_eq_true]))
            obtain ⟨WQ, hWQ⟩ : ∃ x, x = u2 := ⟨_, rfl⟩
            subst hWQ
            have hT := hT2.out
            generalize hF' : Grow F w5.drew u1 = F' at hT
            generalize hG' : Grow G u1 WQ = G' at hT
            have hw : (v.d.start r).1.waits.length ≤ 4 * (i + 1) := by rw [start_waits]; omega
            clear K0 K1 K2 hTd hT1 hT2 hF' hG' hT5 Hrd
            obtain ⟨lv, c65, hlv⟩ := hT.b.p.dev.reqs
            obtain ⟨Al, cl, rfl⟩ : ∃ Al cl, lv = .slice Al ((v.d.start r).1).l.length cl := by obtain ⟨A, c, h, _, _⟩ := hlv.form; exact ⟨A, c, h⟩
            have HT := Lib.hid hT
            have Hlv := Lib.hid hlv
            have hbm2 := block_lt_of_cell c65
            have K0 := c65
            clear hT hlv
            go_wp2_with fail
            go_region_held3 (fun u => u.cell? ⟨cd, 65, none⟩ = some (.slice Al ((v.d.start r).1).l.length cl))
              (((with_reducible refine cell_b ?hb c65); case hb => repeat (first | (with_reducible exact hB3) | (with_reducible exact hB2) | (with_reducible exact hB1) | (with_reducible exact Below.refl _ _) | (with_reducible refine Below.drew ?_))))
              (first
                | (go_at_call 28; refine (devbusy_any _ _ _ _ _ (HT.out.a.p.dev.below (Below.refl _ _).drew) HT.out.a.ok.two).mono ?_; rintro e u1 ⟨v1, rfl, hv1, hB1'⟩; have hB1 : Below WQ.heap.size WQ u1 := ((Below.refl _ _).drew).trans hB1'; obtain ⟨Ab, cb, rfl, _, _⟩ := hv1.form)
                | (go_at_call 27; refine (samereqs_any (fun _ => True) _ _ _ _ _ (hv1.more (fun _ _ => trivial)) (Hlv.out.below hB1)).mono ?_; rintro e u2 ⟨rfl, hB2'⟩; rw [sameLB_true.2 rfl]; have hB2 : Below WQ.heap.size WQ u2 := hB1.trans (hB2'.mono hB1.size))
                | (go_at_call 35; refine (drvroom_any _ _ _ _ _ _ _ _ (HT.out.a.p.below hB2) HT.out.a.ok.two).mono ?_; rintro e u3 ⟨rfl, hB3'⟩; have hB3 : Below WQ.heap.size WQ u3 := hB2.trans (hB3'.mono hB2.size)))
            have HTf := Lib.hid (HT.out.step hB3).drop
            clear hB1 hB2 hB3 hB1' hB2' hB3' hv1 Hlv c65 K0 HT hbm2
            have htt : (!decide (((v.d.start r).1).l.length < 2) == decide (((((v.d.start r).1).l.length : Nat) : Int) < 2)) = false := room_test _
            go_wp2_with fail
            · rename_i hx2; exact Bool.noConfusion (hx2.symm.trans htt)
            go_roundw
            case rel =>
              first
                | exact ⟨i + 1, _, _, _, _, _, _, _, by omega, by go_num, HTf.out, hw, by omega, by omega⟩
                | exact ⟨i + 1, by omega, _, _, _, _, _, _, _, rfl, HTf.out, hw, by omega, by omega⟩
                | ((repeat apply Exists.intro)
                   refine ⟨?rel, ?fr⟩
                   case fr => (repeat' (first | rfl | apply And.intro))
                   case rel => exact ⟨i + 1, _, _, _, _, _, _, _, by omega, by go_num, HTf.out, hw, by omega, by omega⟩)
            case measure => simp [intOf]; omega
          · have hf' : decide (0 < reqF r) = true := by simp; omega
            clear hf
            have HTf := Lib.hid hT5.out.drop
            go_wp2_with fail
            go_roundw
            case rel =>
              first
                | exact ⟨i + 1, _, _, _, _, _, _, _, by omega, by go_num, HTf.out, (by omega), by omega, by omega⟩
                | exact ⟨i + 1, by omega, _, _, _, _, _, _, _, rfl, HTf.out, (by omega), by omega, by omega⟩
                | ((repeat apply Exists.intro)
                   refine ⟨?rel, ?fr⟩
                   case fr => (repeat' (first | rfl | apply And.intro))
                   case rel => exact ⟨i + 1, _, _, _, _, _, _, _, by omega, by go_num, HTf.out, (by omega), by omega, by omega⟩)
            case measure => simp [intOf]; omega
        · generalize hfv : (kind.toList == [102, 97, 117, 108, 116]) = fv
          go_wp2_with fail
          obtain ⟨⟨v', rs, dn, er⟩, hq⟩ : ∃ x, v.endAt n fv = x := ⟨_, rfl⟩
          have hok' := Drv.endAt_ok hT0.out.a.ok hT0.out.a.tr n fv
          rw [hq] at hok'
          obtain ⟨hok', htr', hwl'⟩ := hok'
          simp only at hok' htr' hwl'
          refine (drvend_any _ _ W0 bv bd bt _ v n fv hT0.out.a.p hT0.out.a.ok (by omega) (by omega) hT0.out.a.tri hT0.out.a.flt hT0.out.a.sf hT0.out.a.sl).mono ?_
          rw [hq]
          rintro e w5 ⟨v5, F', S', rfl, hrs5, hd5, hc5, hF5, hSS5, hS5, hSF5⟩
          simp only at hrs5 hd5 ⊢
          have hT5 := Lib.hid (hT0.out.prog hd5 hc5 hF5 hSS5 hS5 hSF5 hok' htr')
          obtain ⟨Bd, bd5, Bt, bt5, Bo, bo5, rfl⟩ := hrs5.opened
          have Hrs5 := Lib.hid hrs5
          have Hok' := Lib.hid hok'
          have Htr' := Lib.hid htr'
          clear hrs5 hd5 hc5 hF5 hSS5 hS5 hSF5 hT0 hW0 q0 q1 q2 q3 q4 q5 q6 q7 q8 hok' htr'
          obtain ⟨q0, q1, q2, q3, q4, q5, q6, q7, q8⟩ := hT5.out.a.lay.c9 0 rfl
          have r0 : ∀ o, (w5.alloc o).cell? ⟨wr.heap.size, 0, none⟩ = some (.string kind) := fun o => (World.cell?_alloc_lt _ _ _ (block_lt_of_cell q0)).trans q0
          have r7 : ∀ o, (w5.alloc o).cell? ⟨wr.heap.size, 7, none⟩ = some (.int .i64 n) := fun o => (World.cell?_alloc_lt _ _ _ (block_lt_of_cell q7)).trans q7
          go_wp2_with fail
          generalize hW6 : World.alloc _ _ = W6
          have hT6 := hT5.out.alloc w5.heap.size #[.bool rs.req.write, .int .i64 rs.req.lo, .int .i64 rs.req.many, .slice Bd rs.req.data.length bd5, .slice Bt rs.req.tags.length bt5, .int .i64 rs.req.born, .slice Bo rs.data.length bo5, .int .i64 (rs.err : Int)] 49 rfl
          rw [hW6] at hT6
          have HT6 := Lib.hid hT6
          have hb56 : Below w5.heap.size w5 W6 := hW6 ▸ (Below.refl _ _).alloc (Nat.le_refl _) _
          have Hrs6 := Lib.hid (Hrs5.out.below hb56)
          clear hT6
          refine (rdrvend_any _ _ W6 (cd + 2) cd (cd + 1) _ v n fv HT6.out.b.p HT6.out.b.ok (by omega) (by omega) HT6.out.b.tri HT6.out.b.flt HT6.out.b.sf HT6.out.b.sl).mono ?_
          rw [hq]
          rintro e w7 ⟨v7, G', T', rfl, hrs7, hd7, hc7, hG7, hTT7, hS7, hSF7⟩
          simp only at hrs7 hd7 ⊢
          have hT7 := Lib.hid (HT6.out.ref hd7 hc7 hG7 hTT7 hS7 hSF7 Hok'.out Htr'.out)
          have Hrs7a := Lib.hid (Hrs6.out.keep (w' := w7) (hc7.keep (fun k hk hg => HT6.out.ba k (hg.elim .inl (fun e => .inr (.inl e))) hk)))
          obtain ⟨Cd, cd7, Ct, ct7, Co, co7, rfl⟩ := hrs7.opened
          have Hrs7 := Lib.hid hrs7
          clear hrs7 hd7 hc7 hG7 hTT7 hS7 hSF7 HT6 Hrs6 Hrs5 hT5 hb56 hW6 r0 r7 q0 q1 q2 q3 q4 q5 q6 q7 q8
          go_wp2_with fail
          generalize hW8 : World.alloc _ _ = W8
          have hT8 := hT7.out.alloc w7.heap.size #[.bool rs.req.write, .int .i64 rs.req.lo, .int .i64 rs.req.many, .slice Cd rs.req.data.length cd7, .slice Ct rs.req.tags.length ct7, .int .i64 rs.req.born, .slice Co rs.data.length co7, .int .i64 (rs.err : Int)] 49 rfl
          rw [hW8] at hT8
          have hb78 : Below w7.heap.size w7 W8 := hW8 ▸ (Below.refl _ _).alloc (Nat.le_refl _) _
          have Hrs8a := Lib.hid ((Hrs7a.out.below hb78).more (S' := fun _ => True) (fun _ _ => trivial))
          have Hrs8 := Lib.hid ((Hrs7.out.below hb78).more (S' := fun _ => True) (fun _ _ => trivial))
          have HT8 := Lib.hid hT8
          obtain ⟨x0, x1, x2, x3, x4, x5, x6, x7⟩ := hT8.a.lay.c8 1 rfl
          obtain ⟨y0, y1, y2, y3, y4, y5, y6, y7⟩ := hT8.a.lay.c8 0 rfl
          clear hT8 hb78 hT7 Hrs7 Hrs7a hW8
          refine (same_any er er _).mono ?_
          rintro e w9 ⟨rfl, rfl⟩
          rw [beq_self_eq_true]
          go_wp2_with (go_at_call 22; refine (sameresult_any _ rs _ _ _ Hrs8a.out Hrs8.out).mono ?_; rintro e WQ ⟨rfl, hb9⟩; have hT9 := HT8.out.step hb9; clear hb9 x0 x1 x2 x3 x4 x5 x6 x7 y0 y1 y2 y3 y4 y5 y6 y7)
          have hT := hT9
          have hw : v'.d.waits.length ≤ 4 * (i + 1) := by omega
          clear hT9 Hrs8 Hrs8a HT8 hq
          obtain ⟨lv, c65, hlv⟩ := hT.b.p.dev.reqs
          obtain ⟨Al, cl, rfl⟩ : ∃ Al cl, lv = .slice Al (v'.d).l.length cl := by obtain ⟨A, c, h, _, _⟩ := hlv.form; exact ⟨A, c, h⟩
          have HT := Lib.hid hT
          have Hlv := Lib.hid hlv
          have hbm2 := block_lt_of_cell c65
          have K0 := c65
          clear hT hlv
          go_wp2_with fail
          go_region_held3 (fun u => u.cell? ⟨cd, 65, none⟩ = some (.slice Al (v'.d).l.length cl))
            (((with_reducible refine cell_b ?hb c65); case hb => repeat (first | (with_reducible exact hB3) | (with_reducible exact hB2) | (with_reducible exact hB1) | (with_reducible exact Below.refl _ _) | (with_reducible refine Below.drew ?_))))
            (first
              | (go_at_call 28; refine (devbusy_any _ _ _ _ _ (HT.out.a.p.dev.below (Below.refl _ _).drew) HT.out.a.ok.two).mono ?_; rintro e u1 ⟨v1, rfl, hv1, hB1'⟩; have hB1 : Below WQ.heap.size WQ u1 := ((Below.refl _ _).drew).trans hB1'; obtain ⟨Ab, cb, rfl, _, _⟩ := hv1.form)
              | (go_at_call 27; refine (samereqs_any (fun _ => True) _ _ _ _ _ (hv1.more (fun _ _ => trivial)) (Hlv.out.below hB1)).mono ?_; rintro e u2 ⟨rfl, hB2'⟩; rw [sameLB_true.2 rfl]; have hB2 : Below WQ.heap.size WQ u2 := hB1.trans (hB2'.mono hB1.size))
              | (go_at_call 35; refine (drvroom_any _ _ _ _ _ _ _ _ (HT.out.a.p.below hB2) HT.out.a.ok.two).mono ?_; rintro e u3 ⟨rfl, hB3'⟩; have hB3 : Below WQ.heap.size WQ u3 := hB2.trans (hB3'.mono hB2.size)))
          have HTf := Lib.hid (HT.out.step hB3).drop
          clear hB1 hB2 hB3 hB1' hB2' hB3' hv1 Hlv c65 K0 HT hbm2
          have htt : (!decide ((v'.d).l.length < 2) == decide ((((v'.d).l.length : Nat) : Int) < 2)) = false := room_test _
          go_wp2_with fail
          · rename_i hx2; exact Bool.noConfusion (hx2.symm.trans htt)
          go_roundw
          case rel =>
            first
              | exact ⟨i + 1, _, _, _, _, _, _, _, by omega, by go_num, HTf.out, hw, by omega, by omega⟩
              | exact ⟨i + 1, by omega, _, _, _, _, _, _, _, rfl, HTf.out, hw, by omega, by omega⟩
              | ((repeat apply Exists.intro)
                 refine ⟨?rel, ?fr⟩
                 case fr => (repeat' (first | rfl | apply And.intro))
                 case rel => exact ⟨i + 1, _, _, _, _, _, _, _, by omega, by go_num, HTf.out, hw, by omega, by omega⟩)
          case measure => simp [intOf]; omega
      · obtain rfl : i = l.length := by omega
        have hb := Lib.hid hT.out.below
        go_wp2_with fail
        go_ret
        exact ⟨rfl, hb.out⟩
end Go.Proofs.Ytdhiepcglnbkbaa
