
/- The law DeviceSays: its walk. -/
import Derived.Test.YtdhiepcglnbkbaaTwo
namespace Go.Proofs.Ytdhiepcglnbkbaa
set_option linter.unusedSimpArgs false
set_option linter.unusedVariables false
open Go.RowKit

def sStart : ByteArray := ⟨#[115, 116, 97, 114, 116]⟩
def sEnd : ByteArray := ⟨#[101, 110, 100]⟩
def sFault : ByteArray := ⟨#[102, 97, 117, 108, 116]⟩
def sFlush : ByteArray := ⟨#[102, 108, 117, 115, 104]⟩
theorem zcells : Try.zeroCells32 = (devCells Dv.new (.slice none 0 0) (.slice none 0 0)).toArray := by rfl
set_option maxRecDepth 100000 in
set_option maxHeartbeats 4000000 in
theorem devsays_walk (l : List Ac) (v : Value) (w : World) (h : ActsAt (fun _ => True) w v l) : Calls Try.prog 3 #[v] w (Ret (.bool true) w) := by
  obtain ⟨A, cap, rfl, hc1, hc2⟩ := h.1.form
  unfold maxLen at hc2
  have H := Lib.hid (h.lt.more (S' := fun k => k < w.heap.size) (fun b hb => hb.2))
  clear h
  go_enter Try.func3, Try.ntmps3
  go_wp2_with fail
  refine (devices_any _).mono ?_
  rintro e w1 ⟨rfl, hb1⟩
  go_wp2_with fail
  refine (lightacts_any _ l 60 _ _ (H.out.below hb1) (by omega)).mono ?_
  rintro e w2 ⟨rfl, hb2'⟩
  have hb2 := hb1.trans (hb2'.mono hb1.size)
  clear hb2'
  cases g1 : lightActs l 60 with
  | false =>
    go_wp2
    go_ret
    exact ⟨rfl, hb2⟩
  | true =>
    have hlen : l.length ≤ 60 := by unfold lightActs at g1; simp at g1; exact g1.1
    clear g1 hb1
    go_wp2_with fail
    refine (devnew_any _).mono ?_
    rintro e w3 ⟨rfl, hd3, hb3, hs3⟩
    have hd3 := hd3 (fun k => k < w.heap.size)
    have hz2 := hb2.size
    have Hb2 := Lib.hid hb2
    have Hb3 := Lib.hid hb3
    have Hd3 := Lib.hid hd3
    have Hs3 := Lib.hid hs3
    clear hb2 hb3 hd3 hs3
    obtain ⟨bd, hbd⟩ : ∃ b, w2.heap.size = b := ⟨_, rfl⟩
    obtain ⟨bm, hbm⟩ : ∃ b, w3.heap.size = b := ⟨_, rfl⟩
    go_wp2_with fail
    have h3 : Hid (∃ F G, Two w (w3.alloc (Obj.cells Try.zeroCells32 TDr)) bd bm F G Dv.new Dv.new []) := by
      have hs3 := Hs3.out
      subst hbd hbm
      have hbA : ∀ o, Below w3.heap.size w3 (w3.alloc o) := fun o => (Below.refl w3.heap.size w3).alloc (Nat.le_refl _) o
      have hzA : ∀ o, (w3.alloc o).heap.size = w3.heap.size + 1 := fun o => by simp
      refine ⟨fun k => k = w2.heap.size, fun k => k = w3.heap.size, ⟨((Hb2.out.trans (Hb3.out.mono hz2)).trans ((hbA _).mono (by omega))), by simp, by simp, by simp⟩, Hd3.out.below (hbA _), dev_new _ _ _ _ (by rw [← zcells]; exact heap_alloc_new _ _) rfl, fun k hk => ?_, fun k hk => ?_, fun k hk hg => ?_, DvOk.new, DvOk.new, by simp⟩
      · rw [hzA]; omega
      · rw [hzA]; omega
      · omega
    generalize World.alloc _ _ = W4 at h3 ⊢
    obtain ⟨F0, G0, ht0⟩ := h3.out
    have Ht0 := Lib.hid ht0
    clear ht0 h3 Hd3 Hb3 Hb2 hd3
    go_loopw [6] (fun j wr => ∃ (i : Nat) (F G : Nat → Prop) (d : Dv), i ≤ l.length ∧ j = .int .i64 i ∧ Hid (Two w wr bd bm F G d d []) ∧ d.waits.length ≤ 4 * i) (fun j _ => l.length - (intOf j).toNat)
    case atStart => exact ⟨0, F0, G0, Dv.new, by omega, rfl, Ht0.out, by simp [Dv.new]⟩
    case round =>
      obtain ⟨i, F, G, d, hi, rfl, hT, hwl⟩ := hrel
      by_cases hlt : i < l.length
      · have hx : l[i]? = some l[i] := List.getElem?_eq_getElem hlt
        generalize l[i] = a at hx
        obtain ⟨b, off, rfl, _, _, k0, k1, k2, k3, k4, k5, k6, k7, k8⟩ := (H.out.below hT.out.below).at_ hx
        have hok := H.out.2 a (List.mem_of_getElem? hx)
        obtain ⟨Ad, cd, e1, _, _⟩ := hok.rc.data.form
        obtain ⟨At, ct, e2, _, _⟩ := hok.rc.tags.form
        rw [e1] at k4
        rw [e2] at k5
        have Hrc := Lib.hid hok.rc.req
        rw [e1, e2] at Hrc
        have Hn := Lib.hid hok.n
        have Hk := Lib.hid hok.k
        obtain ⟨kind, ⟨r, dv, tv⟩, n, kk⟩ := a
        simp only at *
        have hi1 : (i : Int) < (l.length : Int) := by omega
        clear hx hok e1 e2
        -- ARMS BEGIN
        have hT0 := Lib.hid ((hT.out.alloc wr.heap.size #[Value.string kind, Value.bool r.write, Value.int IntKind.i64 r.lo, Value.int IntKind.i64 r.many, Value.slice Ad r.data.length cd, Value.slice At r.tags.length ct, Value.int IntKind.i64 r.born, Value.int IntKind.i64 n, Value.int IntKind.u64 (kk : Int)] 41 rfl))
        have hcut : kk < 18446744073709551616 := Hk.out
        obtain ⟨W0, hW0⟩ : ∃ u, wr.alloc (Obj.cells #[Value.string kind, Value.bool r.write, Value.int IntKind.i64 r.lo, Value.int IntKind.i64 r.many, Value.slice Ad r.data.length cd, Value.slice At r.tags.length ct, Value.int IntKind.i64 r.born, Value.int IntKind.i64 n, Value.int IntKind.u64 (kk : Int)] 41) = u := ⟨_, rfl⟩
        rw [hW0] at hT0
        clear hT
        obtain ⟨q0, q1, q2, q3, q4, q5, q6, q7, q8⟩ := hT0.out.lay.c9 0 rfl
        rcases Bool.eq_false_or_eq_true (kind.toList == [115, 116, 97, 114, 116]) with e1 | e1
        · go_wp2_with fail
          refine (reqfault_any _ r _ _ (Hrc.out.below hT0.out.below)).mono ?_
          rintro e w5 ⟨rfl, hb5⟩
          have hT5 := Lib.hid (hT0.out.step hb5)
          clear hT0 hb5 hW0 q0 q1 q2 q3 q4 q5 q6 q7 q8
          by_cases hf : reqF r = 0
          · rw [hf]
            have Hf := Lib.hid hf
            clear hf
            go_wp2_with fail
            have hTd := Lib.hid (hT5.out.step (Below.refl _ _).drew)
            have K0 : w5.drew.cell? ⟨wr.heap.size, 1, none⟩ = some (.bool r.write) ∧ w5.drew.cell? ⟨wr.heap.size, 2, none⟩ = some (.int .i64 r.lo) ∧ w5.drew.cell? ⟨wr.heap.size, 3, none⟩ = some (.int .i64 r.many) ∧ w5.drew.cell? ⟨wr.heap.size, 4, none⟩ = some (.slice Ad r.data.length cd) ∧ w5.drew.cell? ⟨wr.heap.size, 5, none⟩ = some (.slice At r.tags.length ct) ∧ w5.drew.cell? ⟨wr.heap.size, 6, none⟩ = some (.int .i64 r.born) := by
              obtain ⟨_, c1, c2, c3, c4, c5, c6, _, _⟩ := hTd.out.lay.c9 0 rfl
              exact ⟨c1, c2, c3, c4, c5, c6⟩
            go_region_held3 (fun u => u.cell? ⟨wr.heap.size, 1, none⟩ = some (.bool r.write) ∧ u.cell? ⟨wr.heap.size, 2, none⟩ = some (.int .i64 r.lo) ∧ u.cell? ⟨wr.heap.size, 3, none⟩ = some (.int .i64 r.many) ∧ u.cell? ⟨wr.heap.size, 4, none⟩ = some (.slice Ad r.data.length cd) ∧ u.cell? ⟨wr.heap.size, 5, none⟩ = some (.slice At r.tags.length ct) ∧ u.cell? ⟨wr.heap.size, 6, none⟩ = some (.int .i64 r.born))
              (first | exact K2 | exact K1 | exact K0)
              (first
                | (go_at_call 18; refine (devstart_any _ _ _ bd d r _ hTd.out.p (Hrc.out.below hTd.out.below) hTd.out.flt hTd.out.sf hTd.out.ok1.two).mono ?_; rintro e u1 ⟨rfl, hd1, hc1⟩; have hT1 := Lib.hid (hTd.out.prog hd1 hc1 (fun _ h => h) (hTd.out.ok1.start Hf.out)); clear hd1 hc1
                   have K1 : u1.cell? ⟨wr.heap.size, 1, none⟩ = some (.bool r.write) ∧ u1.cell? ⟨wr.heap.size, 2, none⟩ = some (.int .i64 r.lo) ∧ u1.cell? ⟨wr.heap.size, 3, none⟩ = some (.int .i64 r.many) ∧ u1.cell? ⟨wr.heap.size, 4, none⟩ = some (.slice Ad r.data.length cd) ∧ u1.cell? ⟨wr.heap.size, 5, none⟩ = some (.slice At r.tags.length ct) ∧ u1.cell? ⟨wr.heap.size, 6, none⟩ = some (.int .i64 r.born) := (by
                      obtain ⟨_, c1, c2, c3, c4, c5, c6, _, _⟩ := hT1.out.lay.c9 0 rfl
                      exact ⟨c1, c2, c3, c4, c5, c6⟩))
                | (go_at_call 19; refine (rdevstart_any _ _ _ bm d r _ hT1.out.r (Hrc.out.below hT1.out.below) hT1.out.glt hT1.out.sg hT1.out.ok2.two).mono ?_; rintro e u2 ⟨rfl, hd2, hc2⟩; have hT2 := Lib.hid (hT1.out.ref hd2 hc2 (fun _ h => h) (hT1.out.ok2.start Hf.out)); clear hd2 hc2
                   have K2 : u2.cell? ⟨wr.heap.size, 1, none⟩ = some (.bool r.write) ∧ u2.cell? ⟨wr.heap.size, 2, none⟩ = some (.int .i64 r.lo) ∧ u2.cell? ⟨wr.heap.size, 3, none⟩ = some (.int .i64 r.many) ∧ u2.cell? ⟨wr.heap.size, 4, none⟩ = some (.slice Ad r.data.length cd) ∧ u2.cell? ⟨wr.heap.size, 5, none⟩ = some (.slice At r.tags.length ct) ∧ u2.cell? ⟨wr.heap.size, 6, none⟩ = some (.int .i64 r.born) := (by
                      obtain ⟨_, c1, c2, c3, c4, c5, c6, _, _⟩ := hT2.out.lay.c9 0 rfl
                      exact ⟨c1, c2, c3, c4, c5, c6⟩))
                | (go_at_call 17; refine (same_any _ _ _).mono ?_; rintro e u3 ⟨rfl, rfl⟩; rw [beq_self_eq_true]))
            obtain ⟨WQ, hWQ⟩ : ∃ x, x = u2 := ⟨_, rfl⟩
            subst hWQ
            have hT := hT2.out
            generalize hF' : Grow F w5.drew u1 = F' at hT
            generalize hG' : Grow G u1 WQ = G' at hT
            have hw : (d.start r).1.waits.length ≤ 4 * (i + 1) := by rw [start_waits]; omega
            clear K0 K1 K2 hTd hT1 hT2 hF' hG' hT5
            obtain ⟨lv, c65, hlv⟩ := hT.r.reqs
            obtain ⟨Al, cl, rfl⟩ : ∃ Al cl, lv = .slice Al ((d.start r).1).l.length cl := by obtain ⟨A, c, h, _, _⟩ := hlv.form; exact ⟨A, c, h⟩
            have HT := Lib.hid hT
            have Hlv := Lib.hid hlv
            have hbm2 := block_lt_of_cell c65
            have K0 := c65
            clear hT hlv
            go_wp2_with fail
            go_region_held3 (fun u => u.cell? ⟨bm, 65, none⟩ = some (.slice Al ((d.start r).1).l.length cl))
              (((with_reducible refine cell_b ?hb c65); case hb => repeat (first | (with_reducible exact hB2) | (with_reducible exact hB1) | (with_reducible exact Below.refl _ _) | (with_reducible refine Below.drew ?_))))
              (first
                | (go_at_call 28; refine (devbusy_any _ _ _ _ _ (HT.out.p.below (Below.refl _ _).drew) HT.out.ok1.two).mono ?_; rintro e u1 ⟨v1, rfl, hv1, hB1'⟩; have hB1 : Below WQ.heap.size WQ u1 := ((Below.refl _ _).drew).trans hB1'; obtain ⟨Ab, cb, rfl, _, _⟩ := hv1.form)
                | (go_at_call 27; refine (samereqs_any (fun _ => True) _ _ _ _ _ (hv1.more (fun _ _ => trivial)) (Hlv.out.below hB1)).mono ?_; rintro e u2 ⟨rfl, hB2'⟩; rw [sameLB_true.2 rfl]; have hB2 : Below WQ.heap.size WQ u2 := hB1.trans (hB2'.mono hB1.size)))
            have hT2 := Lib.hid (HT.out.step hB2).drop
            clear hB1 hB2 hB1' hB2' hv1 Hlv c65 K0 HT hbm2
            go_wp2_with fail
            go_loopw [13] (fun j wr => ∃ (q : Nat), q ≤ 32 ∧ j = .int .i64 q ∧ Hid (Two w wr bd bm F' G' ((d.start r).1) ((d.start r).1) [])) (fun j _ => 32 - (intOf j).toNat)
            case atStart => exact ⟨0, by omega, rfl, hT2.out⟩
            case round =>
              obtain ⟨q, hq, rfl, hTq⟩ := hrel
              by_cases hq2 : q < 32
              · obtain ⟨wv', lv', hrow'⟩ := hTq.out.r.row
                obtain ⟨y, hy⟩ : ∃ y, ((d.start r).1).now[q]? = some y := ⟨_, List.getElem?_eq_getElem (by rw [hTq.out.p.now]; omega)⟩
                have hcy : wr.cell? ⟨bm, 32 + q, none⟩ = some (.string y) := by rw [cell_of_row _ _ _ _ _ _ hrow']; simpa using devCells_at_now _ _ _ hTq.out.r.kept q y hy
                have hpy : ((d.start r).1).peek q = y := by unfold Dv.peek; rw [List.getD_eq_getElem?_getD, hy]; rfl
                have Hpy := Lib.hid hpy
                have hq3 : (q : Int) < 32 := by omega
                clear hrow' hy hpy
                go_wp2_with fail
                go_region_held3 (fun u => u.cell? ⟨bm, 32 + q, none⟩ = some (.string y))
                  (((with_reducible refine cell_b ?hb hcy); case hb => repeat (first | (with_reducible exact Below.refl _ _) | (with_reducible refine Below.drew ?_))))
                  (first
                    | (go_at_call 29; refine (devpeek_any _ _ _ _ _ q hq2 (hTq.out.p.below (Below.refl _ _).drew)).mono ?_; rintro e u1 ⟨rfl, rfl⟩; rw [Hpy.out]))
                go_wp2_with fail
                have HTd := Lib.hid (hTq.out.step (Below.refl _ _).drew)
                clear hcy hTq
                go_roundw
                case rel => exact ⟨q + 1, by omega, by go_num, HTd.out⟩
                case measure => simp [intOf]; omega
              · obtain rfl : q = 32 := by omega
                go_wp2_with fail
                go_roundw
                case rel =>
                  first
                    | exact ⟨i + 1, F', G', _, by omega, by go_num, hTq.out, by omega⟩
                    | ((repeat apply Exists.intro)
                       refine ⟨?rel, ?fr⟩
                       case fr => (repeat' (first | rfl | apply And.intro))
                       case rel => exact ⟨i + 1, F', G', _, by omega, by go_num, hTq.out, by omega⟩)
                case measure => simp [intOf]; omega
          · have hf' : decide (0 < reqF r) = true := by simp; omega
            clear hf
            have hT6 := Lib.hid hT5.out.drop
            go_wp2_with fail
            go_roundw
            case rel => exact ⟨i + 1, F, G, d, by omega, by go_num, hT6.out, by omega⟩
            case measure => simp [intOf]; omega
        · rcases Bool.eq_false_or_eq_true (kind.toList == [101, 110, 100]) with e2 | e2
          · generalize hfv : (kind.toList == [102, 97, 117, 108, 116]) = fv
            go_wp2_with fail
            obtain ⟨⟨d', rs, er⟩, hq⟩ : ∃ x, d.endAt n fv = x := ⟨_, rfl⟩
            have hok' := hT0.out.ok1.endAt n fv
            rw [hq] at hok'
            obtain ⟨hok', hwl'⟩ := hok'
            simp only at hok' hwl'
            refine (devend_any _ _ W0 bd d n fv hT0.out.p hT0.out.ok1 (by omega) hT0.out.flt hT0.out.sf hT0.out.slt).mono ?_
            rw [hq]
            rintro e w5 ⟨v5, F', S5, rfl, hrs5, hd5, hc5, _, hF5, _, hS5, _⟩
            simp only at hrs5 hd5 ⊢
            have hT5 := Lib.hid (hT0.out.prog hd5 hc5 hF5 hok')
            have hz5 := hc5.size
            obtain ⟨Bd, bd5, Bt, bt5, Bo, bo5, rfl⟩ := hrs5.opened
            have Hrs5 := Lib.hid hrs5
            have HS5 : Hid (∀ k, S5 k → k < w.heap.size ∨ (W0.heap.size ≤ k ∧ k < w5.heap.size)) := fun k hk => hS5 k hk
            have HG0 : Hid (∀ k, G k → w.heap.size ≤ k ∧ k < W0.heap.size) := hT0.out.gl
            clear hrs5 hd5 hc5 hF5 hS5 hT0 hW0 q0 q1 q2 q3 q4 q5 q6 q7 q8 hok'
            obtain ⟨q0, q1, q2, q3, q4, q5, q6, q7, q8⟩ := hT5.out.lay.c9 0 rfl
            have r0 : ∀ o, (w5.alloc o).cell? ⟨wr.heap.size, 0, none⟩ = some (.string kind) := fun o => (World.cell?_alloc_lt _ _ _ (block_lt_of_cell q0)).trans q0
            have r7 : ∀ o, (w5.alloc o).cell? ⟨wr.heap.size, 7, none⟩ = some (.int .i64 n) := fun o => (World.cell?_alloc_lt _ _ _ (block_lt_of_cell q7)).trans q7
            go_wp2_with fail
            generalize hW6 : World.alloc _ _ = W6
            have hT6 := hT5.out.alloc w5.heap.size #[.bool rs.req.write, .int .i64 rs.req.lo, .int .i64 rs.req.many, .slice Bd rs.req.data.length bd5, .slice Bt rs.req.tags.length bt5, .int .i64 rs.req.born, .slice Bo rs.data.length bo5, .int .i64 (rs.err : Int)] 49 rfl
            rw [hW6] at hT6
            have hb56 : Below w5.heap.size w5 W6 := hW6 ▸ (Below.refl _ _).alloc (Nat.le_refl _) _
            have Hrs6 := Lib.hid (Hrs5.out.below hb56)
            have hz6 := hb56.size
            have hok2 : DvOk d' := hT6.ok1
            refine (rdevend_any _ _ W6 bm d n fv hT6.r hT6.ok2 (by omega) hT6.glt hT6.sg hT6.slt).mono ?_
            rw [hq]
            rintro e w7 ⟨v7, G', S7, rfl, hrs7, hd7, hc7, _, hG7, _, hS7, _⟩
            simp only at hrs7 hd7 ⊢
            have hT7 := Lib.hid (hT6.ref hd7 hc7 hG7 hok2)
            have Hrs7a := Lib.hid (Hrs6.out.keep (w' := w7) (hc7.keep (fun k hk hg => by have h1 := HS5.out k hk; have h2 := HG0.out k hg; omega)))
            obtain ⟨Cd, cd7, Ct, ct7, Co, co7, rfl⟩ := hrs7.opened
            have Hrs7 := Lib.hid hrs7
            clear hrs7 hd7 hc7 hG7 hS7 hT6 Hrs6 Hrs5 hT5 hb56 hW6 r0 r7 q0 q1 q2 q3 q4 q5 q6 q7 q8 hok2 HS5 HG0
            go_wp2_with fail
            generalize hW8 : World.alloc _ _ = W8
            have hT8 := hT7.out.alloc w7.heap.size #[.bool rs.req.write, .int .i64 rs.req.lo, .int .i64 rs.req.many, .slice Cd rs.req.data.length cd7, .slice Ct rs.req.tags.length ct7, .int .i64 rs.req.born, .slice Co rs.data.length co7, .int .i64 (rs.err : Int)] 49 rfl
            rw [hW8] at hT8
            have hb78 : Below w7.heap.size w7 W8 := hW8 ▸ (Below.refl _ _).alloc (Nat.le_refl _) _
            have Hrs8a := Lib.hid ((Hrs7a.out.below hb78).more (S' := fun _ => True) (fun _ _ => trivial))
            have Hrs8 := Lib.hid ((Hrs7.out.below hb78).more (S' := fun _ => True) (fun _ _ => trivial))
            have HT8 := Lib.hid hT8
            obtain ⟨x0, x1, x2, x3, x4, x5, x6, x7⟩ := hT8.lay.c8 1 rfl
            obtain ⟨y0, y1, y2, y3, y4, y5, y6, y7⟩ := hT8.lay.c8 0 rfl
            clear hT8 hb78 hT7 Hrs7 Hrs7a hW8
            refine (same_any er er _).mono ?_
            rintro e w9 ⟨rfl, rfl⟩
            rw [beq_self_eq_true]
            go_wp2_with (go_at_call 22; refine (sameresult_any _ rs _ _ _ Hrs8a.out Hrs8.out).mono ?_; rintro e WQ ⟨rfl, hb9⟩; have hT9 := HT8.out.step hb9; clear hb9 x0 x1 x2 x3 x4 x5 x6 x7 y0 y1 y2 y3 y4 y5 y6 y7)
            have hT := hT9
            have hw : d'.waits.length ≤ 4 * (i + 1) := by omega
            clear hT9 Hrs8 Hrs8a HT8 hq
            obtain ⟨lv, c65, hlv⟩ := hT.r.reqs
            obtain ⟨Al, cl, rfl⟩ : ∃ Al cl, lv = .slice Al (d').l.length cl := by obtain ⟨A, c, h, _, _⟩ := hlv.form; exact ⟨A, c, h⟩
            have HT := Lib.hid hT
            have Hlv := Lib.hid hlv
            have hbm2 := block_lt_of_cell c65
            have K0 := c65
            clear hT hlv
            go_wp2_with fail
            go_region_held3 (fun u => u.cell? ⟨bm, 65, none⟩ = some (.slice Al (d').l.length cl))
              (((with_reducible refine cell_b ?hb c65); case hb => repeat (first | (with_reducible exact hB2) | (with_reducible exact hB1) | (with_reducible exact Below.refl _ _) | (with_reducible refine Below.drew ?_))))
              (first
                | (go_at_call 28; refine (devbusy_any _ _ _ _ _ (HT.out.p.below (Below.refl _ _).drew) HT.out.ok1.two).mono ?_; rintro e u1 ⟨v1, rfl, hv1, hB1'⟩; have hB1 : Below WQ.heap.size WQ u1 := ((Below.refl _ _).drew).trans hB1'; obtain ⟨Ab, cb, rfl, _, _⟩ := hv1.form)
                | (go_at_call 27; refine (samereqs_any (fun _ => True) _ _ _ _ _ (hv1.more (fun _ _ => trivial)) (Hlv.out.below hB1)).mono ?_; rintro e u2 ⟨rfl, hB2'⟩; rw [sameLB_true.2 rfl]; have hB2 : Below WQ.heap.size WQ u2 := hB1.trans (hB2'.mono hB1.size)))
            have hT2 := Lib.hid (HT.out.step hB2).drop
            clear hB1 hB2 hB1' hB2' hv1 Hlv c65 K0 HT hbm2
            go_wp2_with fail
            go_loopw [13] (fun j wr => ∃ (q : Nat), q ≤ 32 ∧ j = .int .i64 q ∧ Hid (Two w wr bd bm F' G' (d') (d') [])) (fun j _ => 32 - (intOf j).toNat)
            case atStart => exact ⟨0, by omega, rfl, hT2.out⟩
            case round =>
              obtain ⟨q, hq, rfl, hTq⟩ := hrel
              by_cases hq2 : q < 32
              · obtain ⟨wv', lv', hrow'⟩ := hTq.out.r.row
                obtain ⟨y, hy⟩ : ∃ y, (d').now[q]? = some y := ⟨_, List.getElem?_eq_getElem (by rw [hTq.out.p.now]; omega)⟩
                have hcy : wr.cell? ⟨bm, 32 + q, none⟩ = some (.string y) := by rw [cell_of_row _ _ _ _ _ _ hrow']; simpa using devCells_at_now _ _ _ hTq.out.r.kept q y hy
                have hpy : (d').peek q = y := by unfold Dv.peek; rw [List.getD_eq_getElem?_getD, hy]; rfl
                have Hpy := Lib.hid hpy
                have hq3 : (q : Int) < 32 := by omega
                clear hrow' hy hpy
                go_wp2_with fail
                go_region_held3 (fun u => u.cell? ⟨bm, 32 + q, none⟩ = some (.string y))
                  (((with_reducible refine cell_b ?hb hcy); case hb => repeat (first | (with_reducible exact Below.refl _ _) | (with_reducible refine Below.drew ?_))))
                  (first
                    | (go_at_call 29; refine (devpeek_any _ _ _ _ _ q hq2 (hTq.out.p.below (Below.refl _ _).drew)).mono ?_; rintro e u1 ⟨rfl, rfl⟩; rw [Hpy.out]))
                go_wp2_with fail
                have HTd := Lib.hid (hTq.out.step (Below.refl _ _).drew)
                clear hcy hTq
                go_roundw
                case rel => exact ⟨q + 1, by omega, by go_num, HTd.out⟩
                case measure => simp [intOf]; omega
              · obtain rfl : q = 32 := by omega
                go_wp2_with fail
                go_roundw
                case rel =>
                  first
                    | exact ⟨i + 1, F', G', _, by omega, by go_num, hTq.out, by omega⟩
                    | ((repeat apply Exists.intro)
                       refine ⟨?rel, ?fr⟩
                       case fr => (repeat' (first | rfl | apply And.intro))
                       case rel => exact ⟨i + 1, F', G', _, by omega, by go_num, hTq.out, by omega⟩)
                case measure => simp [intOf]; omega
          · rcases Bool.eq_false_or_eq_true (kind.toList == [102, 97, 117, 108, 116]) with e3 | e3
            · go_wp2_with fail
              obtain ⟨⟨d', rs, er⟩, hq⟩ : ∃ x, d.endAt n true = x := ⟨_, rfl⟩
              have hok' := hT0.out.ok1.endAt n true
              rw [hq] at hok'
              obtain ⟨hok', hwl'⟩ := hok'
              simp only at hok' hwl'
              refine (devend_any _ _ W0 bd d n true hT0.out.p hT0.out.ok1 (by omega) hT0.out.flt hT0.out.sf hT0.out.slt).mono ?_
              rw [hq]
              rintro e w5 ⟨v5, F', S5, rfl, hrs5, hd5, hc5, _, hF5, _, hS5, _⟩
              simp only at hrs5 hd5 ⊢
              have hT5 := Lib.hid (hT0.out.prog hd5 hc5 hF5 hok')
              have hz5 := hc5.size
              obtain ⟨Bd, bd5, Bt, bt5, Bo, bo5, rfl⟩ := hrs5.opened
              have Hrs5 := Lib.hid hrs5
              have HS5 : Hid (∀ k, S5 k → k < w.heap.size ∨ (W0.heap.size ≤ k ∧ k < w5.heap.size)) := fun k hk => hS5 k hk
              have HG0 : Hid (∀ k, G k → w.heap.size ≤ k ∧ k < W0.heap.size) := hT0.out.gl
              clear hrs5 hd5 hc5 hF5 hS5 hT0 hW0 q0 q1 q2 q3 q4 q5 q6 q7 q8 hok'
              obtain ⟨q0, q1, q2, q3, q4, q5, q6, q7, q8⟩ := hT5.out.lay.c9 0 rfl
              have r0 : ∀ o, (w5.alloc o).cell? ⟨wr.heap.size, 0, none⟩ = some (.string kind) := fun o => (World.cell?_alloc_lt _ _ _ (block_lt_of_cell q0)).trans q0
              have r7 : ∀ o, (w5.alloc o).cell? ⟨wr.heap.size, 7, none⟩ = some (.int .i64 n) := fun o => (World.cell?_alloc_lt _ _ _ (block_lt_of_cell q7)).trans q7
              go_wp2_with fail
              generalize hW6 : World.alloc _ _ = W6
              have hT6 := hT5.out.alloc w5.heap.size #[.bool rs.req.write, .int .i64 rs.req.lo, .int .i64 rs.req.many, .slice Bd rs.req.data.length bd5, .slice Bt rs.req.tags.length bt5, .int .i64 rs.req.born, .slice Bo rs.data.length bo5, .int .i64 (rs.err : Int)] 49 rfl
              rw [hW6] at hT6
              have hb56 : Below w5.heap.size w5 W6 := hW6 ▸ (Below.refl _ _).alloc (Nat.le_refl _) _
              have Hrs6 := Lib.hid (Hrs5.out.below hb56)
              have hz6 := hb56.size
              have hok2 : DvOk d' := hT6.ok1
              refine (rdevend_any _ _ W6 bm d n true hT6.r hT6.ok2 (by omega) hT6.glt hT6.sg hT6.slt).mono ?_
              rw [hq]
              rintro e w7 ⟨v7, G', S7, rfl, hrs7, hd7, hc7, _, hG7, _, hS7, _⟩
              simp only at hrs7 hd7 ⊢
              have hT7 := Lib.hid (hT6.ref hd7 hc7 hG7 hok2)
              have Hrs7a := Lib.hid (Hrs6.out.keep (w' := w7) (hc7.keep (fun k hk hg => by have h1 := HS5.out k hk; have h2 := HG0.out k hg; omega)))
              obtain ⟨Cd, cd7, Ct, ct7, Co, co7, rfl⟩ := hrs7.opened
              have Hrs7 := Lib.hid hrs7
              clear hrs7 hd7 hc7 hG7 hS7 hT6 Hrs6 Hrs5 hT5 hb56 hW6 r0 r7 q0 q1 q2 q3 q4 q5 q6 q7 q8 hok2 HS5 HG0
              go_wp2_with fail
              generalize hW8 : World.alloc _ _ = W8
              have hT8 := hT7.out.alloc w7.heap.size #[.bool rs.req.write, .int .i64 rs.req.lo, .int .i64 rs.req.many, .slice Cd rs.req.data.length cd7, .slice Ct rs.req.tags.length ct7, .int .i64 rs.req.born, .slice Co rs.data.length co7, .int .i64 (rs.err : Int)] 49 rfl
              rw [hW8] at hT8
              have hb78 : Below w7.heap.size w7 W8 := hW8 ▸ (Below.refl _ _).alloc (Nat.le_refl _) _
              have Hrs8a := Lib.hid ((Hrs7a.out.below hb78).more (S' := fun _ => True) (fun _ _ => trivial))
              have Hrs8 := Lib.hid ((Hrs7.out.below hb78).more (S' := fun _ => True) (fun _ _ => trivial))
              have HT8 := Lib.hid hT8
              obtain ⟨x0, x1, x2, x3, x4, x5, x6, x7⟩ := hT8.lay.c8 1 rfl
              obtain ⟨y0, y1, y2, y3, y4, y5, y6, y7⟩ := hT8.lay.c8 0 rfl
              clear hT8 hb78 hT7 Hrs7 Hrs7a hW8
              refine (same_any er er _).mono ?_
              rintro e w9 ⟨rfl, rfl⟩
              rw [beq_self_eq_true]
              go_wp2_with (go_at_call 22; refine (sameresult_any _ rs _ _ _ Hrs8a.out Hrs8.out).mono ?_; rintro e WQ ⟨rfl, hb9⟩; have hT9 := HT8.out.step hb9; clear hb9 x0 x1 x2 x3 x4 x5 x6 x7 y0 y1 y2 y3 y4 y5 y6 y7)
              have hT := hT9
              have hw : d'.waits.length ≤ 4 * (i + 1) := by omega
              clear hT9 Hrs8 Hrs8a HT8 hq
              obtain ⟨lv, c65, hlv⟩ := hT.r.reqs
              obtain ⟨Al, cl, rfl⟩ : ∃ Al cl, lv = .slice Al (d').l.length cl := by obtain ⟨A, c, h, _, _⟩ := hlv.form; exact ⟨A, c, h⟩
              have HT := Lib.hid hT
              have Hlv := Lib.hid hlv
              have hbm2 := block_lt_of_cell c65
              have K0 := c65
              clear hT hlv
              go_wp2_with fail
              go_region_held3 (fun u => u.cell? ⟨bm, 65, none⟩ = some (.slice Al (d').l.length cl))
                (((with_reducible refine cell_b ?hb c65); case hb => repeat (first | (with_reducible exact hB2) | (with_reducible exact hB1) | (with_reducible exact Below.refl _ _) | (with_reducible refine Below.drew ?_))))
                (first
                  | (go_at_call 28; refine (devbusy_any _ _ _ _ _ (HT.out.p.below (Below.refl _ _).drew) HT.out.ok1.two).mono ?_; rintro e u1 ⟨v1, rfl, hv1, hB1'⟩; have hB1 : Below WQ.heap.size WQ u1 := ((Below.refl _ _).drew).trans hB1'; obtain ⟨Ab, cb, rfl, _, _⟩ := hv1.form)
                  | (go_at_call 27; refine (samereqs_any (fun _ => True) _ _ _ _ _ (hv1.more (fun _ _ => trivial)) (Hlv.out.below hB1)).mono ?_; rintro e u2 ⟨rfl, hB2'⟩; rw [sameLB_true.2 rfl]; have hB2 : Below WQ.heap.size WQ u2 := hB1.trans (hB2'.mono hB1.size)))
              have hT2 := Lib.hid (HT.out.step hB2).drop
              clear hB1 hB2 hB1' hB2' hv1 Hlv c65 K0 HT hbm2
              go_wp2_with fail
              go_loopw [13] (fun j wr => ∃ (q : Nat), q ≤ 32 ∧ j = .int .i64 q ∧ Hid (Two w wr bd bm F' G' (d') (d') [])) (fun j _ => 32 - (intOf j).toNat)
              case atStart => exact ⟨0, by omega, rfl, hT2.out⟩
              case round =>
                obtain ⟨q, hq, rfl, hTq⟩ := hrel
                by_cases hq2 : q < 32
                · obtain ⟨wv', lv', hrow'⟩ := hTq.out.r.row
                  obtain ⟨y, hy⟩ : ∃ y, (d').now[q]? = some y := ⟨_, List.getElem?_eq_getElem (by rw [hTq.out.p.now]; omega)⟩
                  have hcy : wr.cell? ⟨bm, 32 + q, none⟩ = some (.string y) := by rw [cell_of_row _ _ _ _ _ _ hrow']; simpa using devCells_at_now _ _ _ hTq.out.r.kept q y hy
                  have hpy : (d').peek q = y := by unfold Dv.peek; rw [List.getD_eq_getElem?_getD, hy]; rfl
                  have Hpy := Lib.hid hpy
                  have hq3 : (q : Int) < 32 := by omega
                  clear hrow' hy hpy
                  go_wp2_with fail
                  go_region_held3 (fun u => u.cell? ⟨bm, 32 + q, none⟩ = some (.string y))
                    (((with_reducible refine cell_b ?hb hcy); case hb => repeat (first | (with_reducible exact Below.refl _ _) | (with_reducible refine Below.drew ?_))))
                    (first
                      | (go_at_call 29; refine (devpeek_any _ _ _ _ _ q hq2 (hTq.out.p.below (Below.refl _ _).drew)).mono ?_; rintro e u1 ⟨rfl, rfl⟩; rw [Hpy.out]))
                  go_wp2_with fail
                  have HTd := Lib.hid (hTq.out.step (Below.refl _ _).drew)
                  clear hcy hTq
                  go_roundw
                  case rel => exact ⟨q + 1, by omega, by go_num, HTd.out⟩
                  case measure => simp [intOf]; omega
                · obtain rfl : q = 32 := by omega
                  go_wp2_with fail
                  go_roundw
                  case rel =>
                    first
                      | exact ⟨i + 1, F', G', _, by omega, by go_num, hTq.out, by omega⟩
                      | ((repeat apply Exists.intro)
                         refine ⟨?rel, ?fr⟩
                         case fr => (repeat' (first | rfl | apply And.intro))
                         case rel => exact ⟨i + 1, F', G', _, by omega, by go_num, hTq.out, by omega⟩)
                  case measure => simp [intOf]; omega
            · rcases Bool.eq_false_or_eq_true (kind.toList == [102, 108, 117, 115, 104]) with e4 | e4
              · go_wp2_with fail
                refine (devflush_any _ _ W0 bd d hT0.out.p hT0.out.sf).mono ?_
                rintro e w5 ⟨rfl, hd5, hc5, hz5⟩
                have hT5 := Lib.hid (hT0.out.prog hd5 hc5 (fun k h => .inl h) hT0.out.ok1.flush)
                clear hd5 hc5 hT0 hW0 q0 q1 q2 q3 q4 q5 q6 q7 q8
                obtain ⟨q0, q1, q2, q3, q4, q5, q6, q7, q8⟩ := hT5.out.lay.c9 0 rfl
                go_wp2_with fail
                refine (rdevflush_any _ _ w5 bm d hT5.out.r hT5.out.sg).mono ?_
                rintro e WQ ⟨rfl, hd7, hc7, hz7⟩
                have hT := hT5.out.ref hd7 hc7 (fun k h => .inl h) hT5.out.ok2.flush
                have hw : d.flush.waits.length ≤ 4 * (i + 1) := by simp [Dv.flush]
                clear hd7 hc7 hT5 q0 q1 q2 q3 q4 q5 q6 q7 q8
                generalize hF' : F = F' at hT
                generalize hG' : G = G' at hT
                clear hF' hG'
                obtain ⟨lv, c65, hlv⟩ := hT.r.reqs
                obtain ⟨Al, cl, rfl⟩ : ∃ Al cl, lv = .slice Al (d.flush).l.length cl := by obtain ⟨A, c, h, _, _⟩ := hlv.form; exact ⟨A, c, h⟩
                have HT := Lib.hid hT
                have Hlv := Lib.hid hlv
                have hbm2 := block_lt_of_cell c65
                have K0 := c65
                clear hT hlv
                go_wp2_with fail
                go_region_held3 (fun u => u.cell? ⟨bm, 65, none⟩ = some (.slice Al (d.flush).l.length cl))
                  (((with_reducible refine cell_b ?hb c65); case hb => repeat (first | (with_reducible exact hB2) | (with_reducible exact hB1) | (with_reducible exact Below.refl _ _) | (with_reducible refine Below.drew ?_))))
                  (first
                    | (go_at_call 28; refine (devbusy_any _ _ _ _ _ (HT.out.p.below (Below.refl _ _).drew) HT.out.ok1.two).mono ?_; rintro e u1 ⟨v1, rfl, hv1, hB1'⟩; have hB1 : Below WQ.heap.size WQ u1 := ((Below.refl _ _).drew).trans hB1'; obtain ⟨Ab, cb, rfl, _, _⟩ := hv1.form)
                    | (go_at_call 27; refine (samereqs_any (fun _ => True) _ _ _ _ _ (hv1.more (fun _ _ => trivial)) (Hlv.out.below hB1)).mono ?_; rintro e u2 ⟨rfl, hB2'⟩; rw [sameLB_true.2 rfl]; have hB2 : Below WQ.heap.size WQ u2 := hB1.trans (hB2'.mono hB1.size)))
                have hT2 := Lib.hid (HT.out.step hB2).drop
                clear hB1 hB2 hB1' hB2' hv1 Hlv c65 K0 HT hbm2
                go_wp2_with fail
                go_loopw [13] (fun j wr => ∃ (q : Nat), q ≤ 32 ∧ j = .int .i64 q ∧ Hid (Two w wr bd bm F' G' (d.flush) (d.flush) [])) (fun j _ => 32 - (intOf j).toNat)
                case atStart => exact ⟨0, by omega, rfl, hT2.out⟩
                case round =>
                  obtain ⟨q, hq, rfl, hTq⟩ := hrel
                  by_cases hq2 : q < 32
                  · obtain ⟨wv', lv', hrow'⟩ := hTq.out.r.row
                    obtain ⟨y, hy⟩ : ∃ y, (d.flush).now[q]? = some y := ⟨_, List.getElem?_eq_getElem (by rw [hTq.out.p.now]; omega)⟩
                    have hcy : wr.cell? ⟨bm, 32 + q, none⟩ = some (.string y) := by rw [cell_of_row _ _ _ _ _ _ hrow']; simpa using devCells_at_now _ _ _ hTq.out.r.kept q y hy
                    have hpy : (d.flush).peek q = y := by unfold Dv.peek; rw [List.getD_eq_getElem?_getD, hy]; rfl
                    have Hpy := Lib.hid hpy
                    have hq3 : (q : Int) < 32 := by omega
                    clear hrow' hy hpy
                    go_wp2_with fail
                    go_region_held3 (fun u => u.cell? ⟨bm, 32 + q, none⟩ = some (.string y))
                      (((with_reducible refine cell_b ?hb hcy); case hb => repeat (first | (with_reducible exact Below.refl _ _) | (with_reducible refine Below.drew ?_))))
                      (first
                        | (go_at_call 29; refine (devpeek_any _ _ _ _ _ q hq2 (hTq.out.p.below (Below.refl _ _).drew)).mono ?_; rintro e u1 ⟨rfl, rfl⟩; rw [Hpy.out]))
                    go_wp2_with fail
                    have HTd := Lib.hid (hTq.out.step (Below.refl _ _).drew)
                    clear hcy hTq
                    go_roundw
                    case rel => exact ⟨q + 1, by omega, by go_num, HTd.out⟩
                    case measure => simp [intOf]; omega
                  · obtain rfl : q = 32 := by omega
                    go_wp2_with fail
                    go_roundw
                    case rel =>
                      first
                        | exact ⟨i + 1, F', G', _, by omega, by go_num, hTq.out, by omega⟩
                        | ((repeat apply Exists.intro)
                           refine ⟨?rel, ?fr⟩
                           case fr => (repeat' (first | rfl | apply And.intro))
                           case rel => exact ⟨i + 1, F', G', _, by omega, by go_num, hTq.out, by omega⟩)
                    case measure => simp [intOf]; omega
              · go_wp2_with fail
                refine (devcrash_any _ _ W0 bd d kk hcut hT0.out.p (fun q hq => (hT0.out.ok1.waits q hq).1) (by omega) hT0.out.flt hT0.out.sf).mono ?_
                rintro e w5 ⟨rfl, hd5, hc5⟩
                have hT5 := Lib.hid (hT0.out.prog hd5 hc5 (fun k h => .inl h) (hT0.out.ok1.crash kk))
                clear hd5 hc5 hT0 hW0 q0 q1 q2 q3 q4 q5 q6 q7 q8
                obtain ⟨q0, q1, q2, q3, q4, q5, q6, q7, q8⟩ := hT5.out.lay.c9 0 rfl
                go_wp2_with fail
                refine (rdevcrash_any _ _ w5 bm d kk hcut hT5.out.r (fun q hq => (hT5.out.ok2.waits q hq).1) (by omega) hT5.out.glt hT5.out.sg).mono ?_
                rintro e WQ ⟨rfl, hd7, hc7⟩
                have hT := hT5.out.ref hd7 hc7 (fun k h => .inl h) (hT5.out.ok2.crash kk)
                have hw : (d.crash kk).waits.length ≤ 4 * (i + 1) := by simp [Dv.crash]
                clear hd7 hc7 hT5 q0 q1 q2 q3 q4 q5 q6 q7 q8
                generalize hF' : F = F' at hT
                generalize hG' : G = G' at hT
                clear hF' hG'
                obtain ⟨lv, c65, hlv⟩ := hT.r.reqs
                obtain ⟨Al, cl, rfl⟩ : ∃ Al cl, lv = .slice Al ((d.crash kk)).l.length cl := by obtain ⟨A, c, h, _, _⟩ := hlv.form; exact ⟨A, c, h⟩
                have HT := Lib.hid hT
                have Hlv := Lib.hid hlv
                have hbm2 := block_lt_of_cell c65
                have K0 := c65
                clear hT hlv
                go_wp2_with fail
                go_region_held3 (fun u => u.cell? ⟨bm, 65, none⟩ = some (.slice Al ((d.crash kk)).l.length cl))
                  (((with_reducible refine cell_b ?hb c65); case hb => repeat (first | (with_reducible exact hB2) | (with_reducible exact hB1) | (with_reducible exact Below.refl _ _) | (with_reducible refine Below.drew ?_))))
                  (first
                    | (go_at_call 28; refine (devbusy_any _ _ _ _ _ (HT.out.p.below (Below.refl _ _).drew) HT.out.ok1.two).mono ?_; rintro e u1 ⟨v1, rfl, hv1, hB1'⟩; have hB1 : Below WQ.heap.size WQ u1 := ((Below.refl _ _).drew).trans hB1'; obtain ⟨Ab, cb, rfl, _, _⟩ := hv1.form)
                    | (go_at_call 27; refine (samereqs_any (fun _ => True) _ _ _ _ _ (hv1.more (fun _ _ => trivial)) (Hlv.out.below hB1)).mono ?_; rintro e u2 ⟨rfl, hB2'⟩; rw [sameLB_true.2 rfl]; have hB2 : Below WQ.heap.size WQ u2 := hB1.trans (hB2'.mono hB1.size)))
                have hT2 := Lib.hid (HT.out.step hB2).drop
                clear hB1 hB2 hB1' hB2' hv1 Hlv c65 K0 HT hbm2
                go_wp2_with fail
                go_loopw [13] (fun j wr => ∃ (q : Nat), q ≤ 32 ∧ j = .int .i64 q ∧ Hid (Two w wr bd bm F' G' ((d.crash kk)) ((d.crash kk)) [])) (fun j _ => 32 - (intOf j).toNat)
                case atStart => exact ⟨0, by omega, rfl, hT2.out⟩
                case round =>
                  obtain ⟨q, hq, rfl, hTq⟩ := hrel
                  by_cases hq2 : q < 32
                  · obtain ⟨wv', lv', hrow'⟩ := hTq.out.r.row
                    obtain ⟨y, hy⟩ : ∃ y, ((d.crash kk)).now[q]? = some y := ⟨_, List.getElem?_eq_getElem (by rw [hTq.out.p.now]; omega)⟩
                    have hcy : wr.cell? ⟨bm, 32 + q, none⟩ = some (.string y) := by rw [cell_of_row _ _ _ _ _ _ hrow']; simpa using devCells_at_now _ _ _ hTq.out.r.kept q y hy
                    have hpy : ((d.crash kk)).peek q = y := by unfold Dv.peek; rw [List.getD_eq_getElem?_getD, hy]; rfl
                    have Hpy := Lib.hid hpy
                    have hq3 : (q : Int) < 32 := by omega
                    clear hrow' hy hpy
                    go_wp2_with fail
                    go_region_held3 (fun u => u.cell? ⟨bm, 32 + q, none⟩ = some (.string y))
                      (((with_reducible refine cell_b ?hb hcy); case hb => repeat (first | (with_reducible exact Below.refl _ _) | (with_reducible refine Below.drew ?_))))
                      (first
                        | (go_at_call 29; refine (devpeek_any _ _ _ _ _ q hq2 (hTq.out.p.below (Below.refl _ _).drew)).mono ?_; rintro e u1 ⟨rfl, rfl⟩; rw [Hpy.out]))
                    go_wp2_with fail
                    have HTd := Lib.hid (hTq.out.step (Below.refl _ _).drew)
                    clear hcy hTq
                    go_roundw
                    case rel => exact ⟨q + 1, by omega, by go_num, HTd.out⟩
                    case measure => simp [intOf]; omega
                  · obtain rfl : q = 32 := by omega
                    go_wp2_with fail
                    go_roundw
                    case rel =>
                      first
                        | exact ⟨i + 1, F', G', _, by omega, by go_num, hTq.out, by omega⟩
                        | ((repeat apply Exists.intro)
                           refine ⟨?rel, ?fr⟩
                           case fr => (repeat' (first | rfl | apply And.intro))
                           case rel => exact ⟨i + 1, F', G', _, by omega, by go_num, hTq.out, by omega⟩)
                    case measure => simp [intOf]; omega
      · obtain rfl : i = l.length := by omega
        have hb := hT.out.below
        clear hT
        go_wp2_with fail
        go_ret
        exact ⟨rfl, hb⟩
end Go.Proofs.Ytdhiepcglnbkbaa
