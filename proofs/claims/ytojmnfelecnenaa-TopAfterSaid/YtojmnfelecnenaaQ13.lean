/- Dispatch: the next request goes to the disk. gen_stdisp.py prints this text. pressed: its closure. pressed: slices.IndexFunc over the asks. pressed. Clean. stack.New; the pump: Quiet, Round, Settle. The pump: Round, Settle. A step of a stack: what the laws of package weighbridgetop do with it. gen_lawstep.py prints this text. What the laws of the stack share: steps that are few, a stack that works, a stack behind some steps. works: a closed fact; stepped: a stack behind some steps. -/
import Derived.Test.YtojmnfelecnenaaQ10
import Derived.Test.YtojmnfelecnenaaQ1
import Derived.Test.YtojmnfelecnenaaQ2
import Derived.Test.YtojmnfelecnenaaQ7
import Derived.Test.YtojmnfelecnenaaQ8
import Derived.Test.YtojmnfelecnenaaQ6
import Derived.Test.YtojmnfelecnenaaQ11
import Derived.Test.YtojmnfelecnenaaQ12
import Derived.Test.YtojmnfelecnenaaQ4
namespace Go.Proofs.Ytojmnfelecnenaa
set_option linter.unusedSimpArgs false
set_option linter.unusedVariables false
open Go.RowKit Go.Sort

theorem StAt.taken {T : Tys} {col : Nat → Nat} {w w' : World} {b bd N : Nat} {x : Sv} {s : St} (h : StAt T col w b bd N x s) (hb : Same1 b w w') {v : Value} {l : List Rq} {t : Tn} (hv : ReqsAt (S0 col) w v l) (hrow : w'.heap[b]? = some (.cells (({ x with wait := v } : Sv).row { s with wait := l, turn := t } bd) T.S (0, 0))) :
    StAt T col w' b bd N { x with wait := v } { s with wait := l, turn := t } := by
  refine h.turn1 hb hrow rfl rfl rfl rfl h.bufs (S0.im hv) h.asks (fun c hc => ?_) h.done h.errs
  have := h.ask c hc
  match c, hc with | 0, _ => exact this | 1, _ => exact this | 2, _ => exact this
set_option maxRecDepth 100000 in
set_option maxHeartbeats 8000000 in
theorem dispatch_any (col : Nat → Nat) (w : World) (b bd N : Nat) (x : Sv) (s : St) (h : StAt Ts col w b bd N x s) (hI : Inv s) :
    Calls Try.prog 37 #[.pointer (some ⟨b, 0, none⟩)] w (Ret5 Ts col w b bd N s.dispatch.1 (.bool s.dispatch.2)) := by
  have H := Lib.hid h
  have HI := Lib.hid hI
  have c1 : w.cell? ⟨b, 1, none⟩ = some (.pointer (some ⟨x.bv, 0, none⟩)) := h.cell 1
  have c3 : w.cell? ⟨b, 3, none⟩ = some x.wait := h.cell 3
  obtain ⟨A, cap, hwv, _, _⟩ := h.wait.form
  rw [hwv] at c3
  clear h hI
  go_enter Try.func37, Try.ntmps37
  by_cases hne : s.wait = []
  · have hl0 : s.wait.length = 0 := by rw [hne]; rfl
    have Hd := Lib.hid (Inv.dispatch_no (s := s) (.inl hne))
    rw [hl0] at c3
    clear hne hl0 hwv
    go_wp2_with fail
    go_ret
    rw [Hd.out]
    exact ⟨_, _, rfl, H.out, Chg.refl, .refl⟩
  have hl1 : (((s.wait.length : Nat) : Int) == 0) = false := by simp only [beq_eq_false_iff_ne]; have := List.length_pos_iff.2 hne; omega
  go_wp2_with fail
  refine (drvroom_any _ _ w x.bv bd x.bt x.n s.v H.out.drv HI.out.dv.two).mono ?_
  rintro e w1 ⟨rfl, hb1⟩
  have HB1 := Lib.hid hb1
  have H1 := Lib.hid (H.out.below hb1)
  clear c1 c3 hb1
  by_cases h2 : s.v.d.l.length < 2
  · obtain ⟨j, r, t', hx, hde⟩ := HI.out.dispatched hne h2
    have hd2 : decide (s.v.d.l.length < 2) = true := by simpa using h2
    have Hne := Lib.hid hne
    have H2 := Lib.hid h2
    have Hx := Lib.hid hx
    have Hde := Lib.hid hde
    have Hwv := Lib.hid hwv
    have Hb1 := HB1
    clear hne h2 hx hde hwv
    rw [hd2]
    clear hd2
    go_wp2_with fail
    clear hl1
    have c3 : w1.cell? ⟨b, 3, none⟩ = some x.wait := H1.out.cell 3
    have c4 : w1.cell? ⟨b, 4, none⟩ = some (.bool s.turn.write) := H1.out.cell 4
    have c5 : w1.cell? ⟨b, 5, none⟩ = some (.int .i64 s.turn.gone) := H1.out.cell 5
    have c6 : w1.cell? ⟨b, 6, none⟩ = some (.int .i64 s.turn.starved) := H1.out.cell 6
    have c7 : w1.cell? ⟨b, 7, none⟩ = some (.int .i64 s.turn.wh) := H1.out.cell 7
    have c8 : w1.cell? ⟨b, 8, none⟩ = some (.int .i64 s.now) := H1.out.cell 8
    have Hcall : Hid (∀ u, Below w1.heap.size w1 u → Calls Try.prog 54 #[x.wait, .agg #[.bool s.turn.write, .int .i64 s.turn.gone, .int .i64 s.turn.starved, .int .i64 s.turn.wh], .int .i64 s.now] u (Ret (.tuple #[.int .i64 (j : Int), .agg #[.bool t'.write, .int .i64 t'.gone, .int .i64 t'.starved, .int .i64 t'.wh]]) u)) := fun u hu => by
      have := next_any' (Im w1 col) s.wait x.wait s.turn s.now u (H1.out.wait.below hu) (good_app.1 HI.out.good).1 Hne.out (by have := HI.out.turn; unfold i64; omega) HI.out.now.1 HI.out.now.2
      unfold nextV at this
      rw [Hx.out.eq] at this
      exact this
    obtain ⟨FB, hFB⟩ : ∃ F : Array Value, F = #[.bool t'.write, .int .i64 t'.gone, .int .i64 t'.starved, .int .i64 t'.wh] := ⟨_, rfl⟩
    refine wp_region_ev mixed [(22, fun v _ => v = (.pointer (some ⟨b, 0, none⟩))), (23, fun v _ => v = (.pointer (some ⟨b, 0, none⟩))), (24, fun v _ => v = (.pointer (some ⟨b, 3, none⟩))), (25, fun v _ => v = x.wait), (26, fun v _ => v = (.pointer (some ⟨b, 0, none⟩))), (27, fun v _ => v = (.pointer (some ⟨b, 0, none⟩))), (28, fun v _ => v = (.pointer (some ⟨b, 4, none⟩))), (29, fun v _ => v = (.agg #[.bool s.turn.write, .int .i64 s.turn.gone, .int .i64 s.turn.starved, .int .i64 s.turn.wh])), (30, fun v _ => v = (.pointer (some ⟨b, 0, none⟩))), (31, fun v _ => v = (.pointer (some ⟨b, 0, none⟩))), (32, fun v _ => v = (.pointer (some ⟨b, 8, none⟩))), (33, fun v _ => v = (.int .i64 s.now)), (34, fun v _ => v = (.tuple #[.int .i64 (j : Int), .agg #[.bool t'.write, .int .i64 t'.gone, .int .i64 t'.starved, .int .i64 t'.wh]])), (21, fun v _ => v = (.tuple #[.int .i64 (j : Int), .agg #[.bool t'.write, .int .i64 t'.gone, .int .i64 t'.starved, .int .i64 t'.wh]])), (35, fun v _ => v = (.int .i64 (j : Int))), (36, fun v _ => v = (.agg #[.bool t'.write, .int .i64 t'.gone, .int .i64 t'.starved, .int .i64 t'.wh])), (4, BxF 74 FB w1.heap.size), (3, fun v _ => v = (.int .i64 (j : Int)))] (fun u => Below w1.heap.size w1 u) (BR 74 FB w1.heap.size) (BxE 74 FB 18) (by kernel_rfl) rfl (by decide) (Below.refl _ _).drew ?st (fun k vs u u' h hr => h.step hr) ?steps ?fin
    case st => exact ⟨fun v u u' h _ => h, fun v u u' h _ => h, fun v u u' h _ => h, fun v u u' h _ => h, fun v u u' h _ => h, fun v u u' h _ => h, fun v u u' h _ => h, fun v u u' h _ => h, fun v u u' h _ => h, fun v u u' h _ => h, fun v u u' h _ => h, fun v u u' h _ => h, fun v u u' h _ => h, fun v u u' h _ => h, fun v u u' h _ => h, fun v u u' h _ => h, fun v u u' h hr => h.step hr, fun v u u' h _ => h, trivial⟩
    case steps =>
      refine ⟨?_, ?_, ?_, ?_, ?_, ?_, ?_, ?_, ?_, ?_, ?_, ?_, ?_, ?_, ?_, ?_, ?_, ?_, ?_, trivial⟩
      · intro ρ u hp hJ hr
        have r1 : ρ (.tmp 0) = (.pointer (some ⟨b, 0, none⟩)) := hr.1
        clear hr
        refine gives_value (v := (.pointer (some ⟨b, 0, none⟩))) (w' := u) ?_ ⟨rfl, hJ, BR.refl _, fun h => absurd h (by decide)⟩
        go_simp
      · intro ρ u hp hJ hr
        have r1 : ρ (.tmp 22) = (.pointer (some ⟨b, 0, none⟩)) := hr.1
        clear hr
        refine gives_value (v := (.pointer (some ⟨b, 0, none⟩))) (w' := u) ?_ ⟨rfl, hJ, BR.refl _, fun h => absurd h (by decide)⟩
        go_simp
      · intro ρ u hp hJ hr
        have r1 : ρ (.tmp 23) = (.pointer (some ⟨b, 0, none⟩)) := hr.1
        clear hr
        refine gives_value (v := (.pointer (some ⟨b, 3, none⟩))) (w' := u) ?_ ⟨rfl, hJ, BR.refl _, fun h => absurd h (by decide)⟩
        go_simp
      · intro ρ u hp hJ hr
        have r1 : ρ (.tmp 24) = (.pointer (some ⟨b, 3, none⟩)) := hr.1
        clear hr
        have c3 := cell_b hJ c3
        refine gives_value (v := x.wait) (w' := u) ?_ ⟨rfl, hJ, BR.refl _, fun h => absurd h (by decide)⟩
        go_simp
      · intro ρ u hp hJ hr
        have r1 : ρ (.tmp 0) = (.pointer (some ⟨b, 0, none⟩)) := hr.1
        clear hr
        refine gives_value (v := (.pointer (some ⟨b, 0, none⟩))) (w' := u) ?_ ⟨rfl, hJ, BR.refl _, fun h => absurd h (by decide)⟩
        go_simp
      · intro ρ u hp hJ hr
        have r1 : ρ (.tmp 26) = (.pointer (some ⟨b, 0, none⟩)) := hr.1
        clear hr
        refine gives_value (v := (.pointer (some ⟨b, 0, none⟩))) (w' := u) ?_ ⟨rfl, hJ, BR.refl _, fun h => absurd h (by decide)⟩
        go_simp
      · intro ρ u hp hJ hr
        have r1 : ρ (.tmp 27) = (.pointer (some ⟨b, 0, none⟩)) := hr.1
        clear hr
        refine gives_value (v := (.pointer (some ⟨b, 4, none⟩))) (w' := u) ?_ ⟨rfl, hJ, BR.refl _, fun h => absurd h (by decide)⟩
        go_simp
      · intro ρ u hp hJ hr
        have r1 : ρ (.tmp 28) = (.pointer (some ⟨b, 4, none⟩)) := hr.1
        clear hr
        have c4 := cell_b hJ c4
        have c5 := cell_b hJ c5
        have c6 := cell_b hJ c6
        have c7 := cell_b hJ c7
        refine gives_value (v := (.agg #[.bool s.turn.write, .int .i64 s.turn.gone, .int .i64 s.turn.starved, .int .i64 s.turn.wh])) (w' := u) ?_ ⟨rfl, hJ, BR.refl _, fun h => absurd h (by decide)⟩
        go_simp
      · intro ρ u hp hJ hr
        have r1 : ρ (.tmp 0) = (.pointer (some ⟨b, 0, none⟩)) := hr.1
        clear hr
        refine gives_value (v := (.pointer (some ⟨b, 0, none⟩))) (w' := u) ?_ ⟨rfl, hJ, BR.refl _, fun h => absurd h (by decide)⟩
        go_simp
      · intro ρ u hp hJ hr
        have r1 : ρ (.tmp 30) = (.pointer (some ⟨b, 0, none⟩)) := hr.1
        clear hr
        refine gives_value (v := (.pointer (some ⟨b, 0, none⟩))) (w' := u) ?_ ⟨rfl, hJ, BR.refl _, fun h => absurd h (by decide)⟩
        go_simp
      · intro ρ u hp hJ hr
        have r1 : ρ (.tmp 31) = (.pointer (some ⟨b, 0, none⟩)) := hr.1
        clear hr
        refine gives_value (v := (.pointer (some ⟨b, 8, none⟩))) (w' := u) ?_ ⟨rfl, hJ, BR.refl _, fun h => absurd h (by decide)⟩
        go_simp
      · intro ρ u hp hJ hr
        have r1 : ρ (.tmp 32) = (.pointer (some ⟨b, 8, none⟩)) := hr.1
        clear hr
        have c8 := cell_b hJ c8
        refine gives_value (v := (.int .i64 s.now)) (w' := u) ?_ ⟨rfl, hJ, BR.refl _, fun h => absurd h (by decide)⟩
        go_simp
      · intro ρ u hp hJ hr
        have r1 : ρ (.tmp 25) = x.wait := hr.1
        have r2 : ρ (.tmp 29) = (.agg #[.bool s.turn.write, .int .i64 s.turn.gone, .int .i64 s.turn.starved, .int .i64 s.turn.wh]) := hr.2.1
        have r3 : ρ (.tmp 33) = (.int .i64 s.now) := hr.2.2.1
        clear hr
        refine gives_enter (f := 54) (args := #[x.wait, .agg #[.bool s.turn.write, .int .i64 s.turn.gone, .int .i64 s.turn.starved, .int .i64 s.turn.wh], .int .i64 s.now]) (w' := u) ?_ ((Hcall.out u hJ).mono ?_)
        · have hpf := hp.func 54
          go_simp
        rintro e u' ⟨rfl, hb⟩
        exact ⟨_, rfl, rfl, hJ.trans (hb.mono hJ.size), BR.below hb, fun h => absurd h (by decide)⟩
      · intro ρ u hp hJ hr
        have r1 : ρ (.tmp 34) = (.tuple #[.int .i64 (j : Int), .agg #[.bool t'.write, .int .i64 t'.gone, .int .i64 t'.starved, .int .i64 t'.wh]]) := hr.1
        clear hr
        refine gives_value (v := (.tuple #[.int .i64 (j : Int), .agg #[.bool t'.write, .int .i64 t'.gone, .int .i64 t'.starved, .int .i64 t'.wh]])) (w' := u) ?_ ⟨rfl, hJ, BR.refl _, fun h => absurd h (by decide)⟩
        go_simp
      · intro ρ u hp hJ hr
        have r1 : ρ (.tmp 21) = (.tuple #[.int .i64 (j : Int), .agg #[.bool t'.write, .int .i64 t'.gone, .int .i64 t'.starved, .int .i64 t'.wh]]) := hr.1
        clear hr
        refine gives_value (v := (.int .i64 (j : Int))) (w' := u) ?_ ⟨rfl, hJ, BR.refl _, fun h => absurd h (by decide)⟩
        go_simp
      · intro ρ u hp hJ hr
        have r1 : ρ (.tmp 21) = (.tuple #[.int .i64 (j : Int), .agg #[.bool t'.write, .int .i64 t'.gone, .int .i64 t'.starved, .int .i64 t'.wh]]) := hr.1
        clear hr
        refine gives_value (v := (.agg #[.bool t'.write, .int .i64 t'.gone, .int .i64 t'.starved, .int .i64 t'.wh])) (w' := u) ?_ ⟨rfl, hJ, BR.refl _, fun h => absurd h (by decide)⟩
        go_simp
      · intro ρ u hp hJ hr
        clear hr
        refine gives_value (v := .pointer (some ⟨u.heap.size, 0, none⟩)) (w' := u.alloc (.cells #[.bool false, .int .i64 0, .int .i64 0, .int .i64 0] 74)) ?_ ⟨⟨_, rfl, hJ.size, ⟨_, by rw [hFB]; rfl, heap_alloc_new _ _⟩⟩, hJ.trans (((Below.refl _ _).alloc (Nat.le_refl _) _).mono hJ.size), BR.below ((Below.refl _ _).alloc (Nat.le_refl _) _), fun h => absurd h (by decide)⟩
        go_simp
      · intro ρ u hp hJ hr
        have r1 : ρ (.tmp 35) = (.int .i64 (j : Int)) := hr.1
        clear hr
        refine gives_value (v := (.int .i64 (j : Int))) (w' := u) ?_ ⟨rfl, hJ, BR.refl _, fun h => absurd h (by decide)⟩
        go_simp
      · intro ρ u hp hJ hr
        have r1 : BxF 74 FB w1.heap.size (ρ (.tmp 4)) u := hr.1
        have r2 : ρ (.tmp 36) = (.agg #[.bool t'.write, .int .i64 t'.gone, .int .i64 t'.starved, .int .i64 t'.wh]) := hr.2.1
        clear hr
        obtain ⟨bb, e1, hbb, hbx⟩ := r1
        rw [show FB.size = 4 by rw [hFB]; rfl] at hbx
        obtain ⟨g1, g2, g3⟩ := bx_put4 (v0 := .bool t'.write) (v1 := .int .i64 t'.gone) (v2 := .int .i64 t'.starved) (v3 := .int .i64 t'.wh) hbb hbx _ rfl
        rw [← hFB] at g1 g2
        refine gives_skip (w' := _) ?_ ⟨trivial, hJ.trans g3, g1, BxE.at e1 rfl g2⟩
        obtain ⟨z0, z1, z2, z3, hz⟩ := bx4 hbx
        have z0 : u.cell? ⟨bb, 0, none⟩ = some _ := cell_of_row _ _ 0 _ _ _ hz
        have z1 : u.cell? ⟨bb, 1, none⟩ = some _ := cell_of_row _ _ 1 _ _ _ hz
        have z2 : u.cell? ⟨bb, 2, none⟩ = some _ := cell_of_row _ _ 2 _ _ _ hz
        have z3 : u.cell? ⟨bb, 3, none⟩ = some _ := cell_of_row _ _ 3 _ _ _ hz
        have f0 : ∀ j, u.frozen? ⟨bb, j, none⟩ = false := fun j => frozen_of_row _ _ j _ _ hz
        clear g1 g2 g3 hz hbx
        go_simp
    intro f u hF hJ hU hE
    have f4 : BxF 74 FB w1.heap.size (f 4) u := hF.2.2.2.2.2.2.2.2.2.2.2.2.2.2.2.2.1
    have f3 : f 3 = (.int .i64 (j : Int)) := hF.2.2.2.2.2.2.2.2.2.2.2.2.2.2.2.2.2.1
    obtain ⟨bb, e4, hbb, hbz⟩ := f4
    have hbx : u.heap[bb]? = some (.cells FB 74 (0, 0)) := hE 18 _ rfl rfl bb (by rw [argsOf_store rfl, e4]; rfl)
    clear hF hU hE
    rw [hFB] at hbx
    clear hbz hFB FB
    have HJ := Lib.hid hJ
    have Hbx := Lib.hid hbx
    have Hbb := Lib.hid hbb
    clear hJ hbx hbb
    simp only [laid]
    clear c3 c4 c5 c6 c7 c8 Hcall
    have H3 := Lib.hid (H1.out.below HJ.out)
    have c3 : u.cell? ⟨b, 3, none⟩ = some x.wait := H3.out.cell 3
    rw [f3]
    clear f3
    rw [e4]
    clear e4
    go_wp2_with fail
    refine (take_any (S0 col) s.wait x.wait j r u (H3.out.wait.more (fun k hk => hk.2)) H3.out.s0 Hx.out.get (by have := HI.out.wait6; omega)).mono ?_
    rintro e w4 ⟨v4, rv4, rfl, hown4, hrq4, hb4⟩
    obtain ⟨Ad, cd, At, ct, hrv, _, _, _, _, _, _, _⟩ := hrq4.opened
    have HW4 : Hid (ReqsAt (S0 col) w4 v4 (s.wait.eraseIdx j)) := hown4.at_ H3.out.s0
    obtain ⟨A4, cap4, hv4, _, _⟩ := HW4.out.form
    subst hv4
    subst hrv
    have Hrq4 := Lib.hid hrq4
    have HB4 := Lib.hid hb4
    have H4 := Lib.hid (H3.out.below hb4)
    have Hbx4 := Lib.hid ((hb4.block _ (Array.getElem?_eq_some_iff.1 Hbx.out).1).trans Hbx.out)
    clear hown4 hrq4 hb4 c3
    go_wp2_with fail
    obtain ⟨b6, hb6⟩ : ∃ n, w4.heap.size = n := ⟨_, rfl⟩
    have Hc6 : Hid (col b6 = 0) := H4.out.s0 b6 (by omega)
    have hbA := (Below.refl w4.heap.size w4).alloc (Nat.le_refl _) (.cells #[Value.bool r.write, .int .i64 r.lo, .int .i64 r.many, .slice Ad r.data.length cd, .slice At r.tags.length ct, .int .i64 r.born] 44)
    have Hbx6 : Hid ((w4.alloc (.cells #[Value.bool r.write, .int .i64 r.lo, .int .i64 r.many, .slice Ad r.data.length cd, .slice At r.tags.length ct, .int .i64 r.born] 44)).heap[b6]? = some (.cells #[Value.bool r.write, .int .i64 r.lo, .int .i64 r.many, .slice Ad r.data.length cd, .slice At r.tags.length ct, .int .i64 r.born] 44 (0, 0))) := show _ = _ from hb6 ▸ heap_alloc_new w4 _
    rw [hb6]
    have HBA := Lib.hid hbA
    clear hbA
    generalize w4.alloc _ = w5 at HBA Hbx6 ⊢
    have H5 := Lib.hid (H4.out.below HBA.out)
    have Hbx5 := Lib.hid ((HBA.out.block _ (Array.getElem?_eq_some_iff.1 Hbx4.out).1).trans Hbx4.out)
    have HW5 : Hid (ReqsAt (S0 col) w5 (.slice A4 (s.wait.eraseIdx j).length cap4) (s.wait.eraseIdx j)) := HW4.out.below HBA.out
    have Hrq5 := Lib.hid (Hrq4.out.below HBA.out)
    have HB05 : Hid (Below w.heap.size w w5) := show Below _ _ _ from Hb1.out.trans ((HJ.out.trans ((HB4.out.trans (HBA.out.mono HB4.out.size)).mono HJ.out.size)).mono Hb1.out.size)
    have c3 : w5.cell? ⟨b, 3, none⟩ = some x.wait := H5.out.cell 3
    have c4 : w5.cell? ⟨b, 4, none⟩ = some (.bool s.turn.write) := H5.out.cell 4
    have c5 : w5.cell? ⟨b, 5, none⟩ = some (.int .i64 s.turn.gone) := H5.out.cell 5
    have c6 : w5.cell? ⟨b, 6, none⟩ = some (.int .i64 s.turn.starved) := H5.out.cell 6
    have c7 : w5.cell? ⟨b, 7, none⟩ = some (.int .i64 s.turn.wh) := H5.out.cell 7
    have hfr := fun k => H5.out.frozen k
    have d0 : w5.cell? ⟨bb, 0, none⟩ = some (.bool t'.write) := cell_of_row _ _ 0 _ _ _ Hbx5.out
    have d1 : w5.cell? ⟨bb, 1, none⟩ = some (.int .i64 t'.gone) := cell_of_row _ _ 1 _ _ _ Hbx5.out
    have d2 : w5.cell? ⟨bb, 2, none⟩ = some (.int .i64 t'.starved) := cell_of_row _ _ 2 _ _ _ Hbx5.out
    have d3 : w5.cell? ⟨bb, 3, none⟩ = some (.int .i64 t'.wh) := cell_of_row _ _ 3 _ _ _ Hbx5.out
    have hbne : bb ≠ b := by have := Hbb.out; have := H1.out.bl; omega
    have hb6ne : b6 ≠ b := by have := H4.out.bl; omega
    go_region
    have hS6 := ((((((Same1.refl (b := b) (w := w5)).setCell 3 (.slice A4 (s.wait.eraseIdx j).length cap4)).setCell 4 (.bool t'.write)).setCell 5 (.int .i64 t'.gone)).setCell 6 (.int .i64 t'.starved)).setCell 7 (.int .i64 t'.wh)).drew
    have H6 := Lib.hid (H5.out.taken hS6 HW5.out (t := t') (heap_setCell_same _ _ 7 _ _ _ (heap_setCell_same _ _ 6 _ _ _ (heap_setCell_same _ _ 5 _ _ _ (heap_setCell_same _ _ 4 _ _ _ (heap_setCell_same _ _ 3 _ _ _ H5.out.row))))))
    have HS6 := Lib.hid hS6
    clear hS6 c3 c4 c5 c6 c7 hfr d0 d1 d2 d3
    generalize World.drew _ = w6 at H6 HS6 ⊢
    go_wp2_with fail
    have H7 := Lib.hid (H6.out.below (Below.refl _ _).drew)
    have Hbx7 : Hid (w6.drew.heap[b6]? = _) := show _ = _ from (HS6.out.block b6 hb6ne).trans Hbx6.out
    have Hrq7 : Hid (ReqAt (Im w6.drew col) w6.drew (.agg #[.bool r.write, .int .i64 r.lo, .int .i64 r.many, .slice Ad r.data.length cd, .slice At r.tags.length ct, .int .i64 r.born]) r) := show ReqAt _ _ _ _ from
      ((Hrq5.out.keep (fun k hk _ => HS6.out.block k (fun e => by have h1 : col k = 0 := hk.1; rw [e, H5.out.cb] at h1; cases h1))).below (Below.refl _ _).drew).more (fun k hk => ⟨by
        have h1 := hk.2
        have h2 : u.heap.size ≤ w6.heap.size := by rw [HS6.out.size]; exact Nat.le_trans HB4.out.size HBA.out.size
        show k < w6.heap.size
        omega, hk.1⟩)
    have Hfl : Hid (∀ k, Fd col k → k < w6.drew.heap.size) := fun k (hk : col k = 4) => H7.out.lt k (by omega)
    have Him : Hid (∀ k, Im w6.drew col k → ¬ Fd col k) := StAt.imfd
    have hst : s.v.d.start r = ({ s.v.d with l := s.v.d.l ++ [r] }, 0) := by unfold Dv.start; rw [if_neg (by have := H2.out; omega)]
    have Hcl : Hid (Calls Try.prog 56 #[.pointer (some ⟨x.bv, 0, none⟩), .agg #[.bool r.write, .int .i64 r.lo, .int .i64 r.many, .slice Ad r.data.length cd, .slice At r.tags.length ct, .int .i64 r.born]] w6.drew (RetDrvS TDp TPp TVp (Im w6.drew col) (Fd col) w6.drew x.bv bd x.bt x.n { s.v with d := { s.v.d with l := s.v.d.l ++ [r] } } .nilIface)) := show Calls _ _ _ _ _ from by
      have := drvstart_any (Im w6.drew col) (Fd col) w6.drew x.bv bd x.bt x.n s.v r _ H7.out.drv Hrq7.out Hfl.out Him.out (fun k hk => hk.1) HI.out.dv.two
      rw [hst] at this
      exact this
    clear hst
    have K0 : w6.drew.cell? ⟨b, 1, none⟩ = some (.pointer (some ⟨x.bv, 0, none⟩)) ∧ w6.drew.cell? ⟨b6, 0, none⟩ = some (.bool r.write) ∧ w6.drew.cell? ⟨b6, 1, none⟩ = some (.int .i64 r.lo) ∧ w6.drew.cell? ⟨b6, 2, none⟩ = some (.int .i64 r.many) ∧ w6.drew.cell? ⟨b6, 3, none⟩ = some (.slice Ad r.data.length cd) ∧ w6.drew.cell? ⟨b6, 4, none⟩ = some (.slice At r.tags.length ct) ∧ w6.drew.cell? ⟨b6, 5, none⟩ = some (.int .i64 r.born) := ⟨H7.out.cell 1, cell_of_row _ _ 0 _ _ _ Hbx7.out, cell_of_row _ _ 1 _ _ _ Hbx7.out, cell_of_row _ _ 2 _ _ _ Hbx7.out, cell_of_row _ _ 3 _ _ _ Hbx7.out, cell_of_row _ _ 4 _ _ _ Hbx7.out, cell_of_row _ _ 5 _ _ _ Hbx7.out⟩
    go_region_held3 (fun q => q.cell? ⟨b, 1, none⟩ = some (.pointer (some ⟨x.bv, 0, none⟩)) ∧ q.cell? ⟨b6, 0, none⟩ = some (.bool r.write) ∧ q.cell? ⟨b6, 1, none⟩ = some (.int .i64 r.lo) ∧ q.cell? ⟨b6, 2, none⟩ = some (.int .i64 r.many) ∧ q.cell? ⟨b6, 3, none⟩ = some (.slice Ad r.data.length cd) ∧ q.cell? ⟨b6, 4, none⟩ = some (.slice At r.tags.length ct) ∧ q.cell? ⟨b6, 5, none⟩ = some (.int .i64 r.born))
      (first | exact K1 | exact K0)
      (first
        | ((with_reducible refine Hcl.out.mono ?_); rintro e u1 ⟨rfl, hp1, hc1⟩; have HP1 := Lib.hid hp1; have HC1 := Lib.hid hc1; have K1 : u1.cell? ⟨b, 1, none⟩ = some (.pointer (some ⟨x.bv, 0, none⟩)) ∧ u1.cell? ⟨b6, 0, none⟩ = some (.bool r.write) ∧ u1.cell? ⟨b6, 1, none⟩ = some (.int .i64 r.lo) ∧ u1.cell? ⟨b6, 2, none⟩ = some (.int .i64 r.many) ∧ u1.cell? ⟨b6, 3, none⟩ = some (.slice Ad r.data.length cd) ∧ u1.cell? ⟨b6, 4, none⟩ = some (.slice At r.tags.length ct) ∧ u1.cell? ⟨b6, 5, none⟩ = some (.int .i64 r.born) := ⟨(World.cell?_of_block (hc1.block b H7.out.bl (fun hf => by have h1 : col b = 4 := hf; rw [H7.out.cb] at h1; cases h1))).trans K0.1, (by have hbb := (hc1.block b6 (Array.getElem?_eq_some_iff.1 Hbx7.out).1 (fun hf => by have h1 : col b6 = 4 := hf; rw [Hc6.out] at h1; cases h1)).trans Hbx7.out; exact ⟨cell_of_row _ _ 0 _ _ _ hbb, cell_of_row _ _ 1 _ _ _ hbb, cell_of_row _ _ 2 _ _ _ hbb, cell_of_row _ _ 3 _ _ _ hbb, cell_of_row _ _ 4 _ _ _ hbb, cell_of_row _ _ 5 _ _ _ hbb⟩)⟩; clear hp1 hc1)
        | fail)
    all_goals
      clear K0 K1
      try go_wp2_with fail
      go_ret
      obtain ⟨col', hst', hrec, _⟩ := H7.out.drvd HP1.out (HC1.out.mono (fun k hk => .inl hk)) (fun k hk => hk) (fun k hk => .inl hk) (fun k hk hg => hg.elim (Him.out k hk) (fun h2 => by have h3 := hk.1; omega)) H7.out.n
      rw [Hde.out]
      have HC07 : Chg (Fl col) w w6.drew := ((Chg.of_below HB05.out).two (H5.out.chg1 (HS6.out.chg (F := fun k => k = b) rfl))).drew
      exact ⟨col', _, rfl, hst', HC07.two (HC1.out.mono Fl.of_d), Rec.refl.trans hrec HC07.size⟩
  · have hd2 : decide (s.v.d.l.length < 2) = false := by simpa using h2
    have Hd := Lib.hid (Inv.dispatch_no (s := s) (.inr (by omega)))
    rw [hd2]
    clear hd2 h2 hne hwv
    go_wp2_with fail
    go_ret
    rw [Hd.out]
    exact ⟨_, _, rfl, H1.out, Chg.of_below HB1.out, .refl⟩
end Go.Proofs.Ytojmnfelecnenaa
namespace Go.Proofs.Ytojmnfelecnenaa
set_option linter.unusedSimpArgs false
set_option linter.unusedVariables false
open Go.RowKit

set_option maxRecDepth 100000 in
theorem pressed1_any (F : Nat → Prop) (w : World) (v : Value) (o : Option Ak) (h : AskAt Ts.A F w v o) (hk : ∀ a, o = some a → AkOk a) :
    Calls Try.prog 68 #[v] w (Ret (.bool (isKind 2 o || isKind 3 o)) w) := by
  cases o with
  | none =>
    have hv : v = .pointer none := h
    subst hv
    clear h hk
    go_enter Try.func68, Try.ntmps68
    go_wp2_with fail
    go_ret
    exact ⟨rfl, Below.refl _ _⟩
  | some a =>
    obtain ⟨ba, lv, rfl, _, hrow, _⟩ := h
    have k0 : w.cell? ⟨ba, 0, none⟩ = some (.int .i64 a.kind) := cell_of_row _ _ 0 _ _ _ hrow
    have hk3 := (hk a rfl).kind
    clear hrow hk
    rcases hk3 with e | e | e
    · have Hv : Hid ((isKind 2 (some a) || isKind 3 (some a)) = false) := show _ = _ by simp [isKind, e]
      rw [e] at k0
      clear e
      go_enter Try.func68, Try.ntmps68
      go_wp2_with fail
      go_ret
      rw [Hv.out]
      exact ⟨rfl, Below.refl _ _⟩
    · have Hv : Hid ((isKind 2 (some a) || isKind 3 (some a)) = true) := show _ = _ by simp [isKind, e]
      rw [e] at k0
      clear e
      go_enter Try.func68, Try.ntmps68
      go_wp2_with fail
      go_ret
      rw [Hv.out]
      exact ⟨rfl, Below.refl _ _⟩
    · have Hv : Hid ((isKind 2 (some a) || isKind 3 (some a)) = true) := show _ = _ by simp [isKind, e]
      rw [e] at k0
      clear e
      go_enter Try.func68, Try.ntmps68
      go_wp2_with fail
      go_ret
      rw [Hv.out]
      exact ⟨rfl, Below.refl _ _⟩
end Go.Proofs.Ytojmnfelecnenaa
namespace Go.Proofs.Ytojmnfelecnenaa
set_option linter.unusedSimpArgs false
set_option linter.unusedVariables false
open Go.RowKit

/-- A row of asks. -/
structure AsksAt (F : Nat → Nat → Prop) (w : World) (b off : Nat) (vs : List Value) (l : List (Option Ak)) : Prop where
  len : vs.length = l.length
  cell : ∀ (j : Nat) v, vs[j]? = some v → w.cell? ⟨b, off + j, none⟩ = some v
  ask : ∀ (j : Nat) v o, vs[j]? = some v → l[j]? = some o → AskAt Ts.A (F j) w v o
  ok : ∀ a, some a ∈ l → AkOk a
theorem AskAt.below' {TA : TypeId} {F : Nat → Prop} {w w' : World} {v : Value} {o : Option Ak} (h : AskAt TA F w v o) (hb : Below w.heap.size w w') : AskAt TA F w' v o := h.keep (fun k _ hk => hb.block k hk)
set_option maxRecDepth 100000 in
theorem indexp_any (F : Nat → Nat → Prop) (w : World) (b off cap : Nat) (vs : List Value) (l : List (Option Ak)) (h : AsksAt F w b off vs l) (h1 : l.length ≤ cap) (h2 : cap ≤ 60000) :
    Calls Try.prog 90 #[.slice (some ⟨b, off, none⟩) l.length cap, .func (.func 68) #[] #[]] w (RetIdxB (fun n => idxTells n (l.any (fun o => isKind 2 o || isKind 3 o))) w) := by
  have Hl := Lib.hid h
  clear h
  go_enter Try.func90, Try.ntmps90
  go_wp2
  go_loopw [8] (fun i wr => ∃ k : Nat, k ≤ l.length ∧ i = .int .i64 k ∧ Below w.heap.size w wr ∧ Hid ((l.take k).any (fun o => isKind 2 o || isKind 3 o) = false)) (fun i _ => l.length - (intOf i).toNat)
  case atStart => exact ⟨0, by omega, rfl, Below.refl _ _, rfl⟩
  case round =>
    obtain ⟨k, hk, rfl, hw, hall⟩ := hrel
    by_cases hlt : k < l.length
    · have hx : l[k]? = some l[k] := List.getElem?_eq_getElem hlt
      have hvl : k < vs.length := by rw [Hl.out.len]; exact hlt
      have hv : vs[k]? = some vs[k] := List.getElem?_eq_getElem hvl
      have k0 := cell_b hw (Hl.out.cell k _ hv)
      have Hat := Lib.hid ((Hl.out.ask k _ _ hv hx).below' hw)
      have Hok : Hid (∀ a, l[k] = some a → AkOk a) := fun a e => Hl.out.ok a (e ▸ List.getElem_mem hlt)
      have Hx := Lib.hid hx
      clear hx hv
      generalize l[k] = o at *
      generalize vs[k] = vk at *
      go_wp2_with fail
      refine (pressed1_any (F k) wr vk o Hat.out Hok.out).mono ?_
      rintro e w1 ⟨rfl, hb1⟩
      have hw1 := hw.trans (hb1.mono hw.size)
      clear k0 hb1
      cases hs : (isKind 2 o || isKind 3 o) with
      | false =>
        have Hm := Lib.hid hs
        clear hs
        go_wp2_with fail
        go_roundw
        case rel => exact ⟨k + 1, by omega, by go_num, hw1, by show _ = false; rw [any_take_succ _ _ _ _ Hx.out, hall.out, Hm.out]; rfl⟩
        case measure => simp [intOf]; omega
      | true =>
        have Hm := Lib.hid hs
        clear hs
        go_wp2_with fail
        go_ret
        refine ⟨k, rfl, ?_, hw1⟩
        rw [any_yes _ _ _ _ Hx.out Hm.out]
        simp [idxTells]
    · go_wp2
      go_ret
      refine ⟨-1, rfl, ?_, hw⟩
      rw [any_end _ _ _ (by omega) hall.out]
      simp [idxTells]
theorem containsp_any (F : Nat → Nat → Prop) (w : World) (b off cap : Nat) (vs : List Value) (l : List (Option Ak)) (h : AsksAt F w b off vs l) (h1 : l.length ≤ cap) (h2 : cap ≤ 60000) :
    Calls Try.prog 67 #[.slice (some ⟨b, off, none⟩) l.length cap, .func (.func 68) #[] #[]] w (Ret (.bool (l.any (fun o => isKind 2 o || isKind 3 o))) w) := by
  go_enter Try.func67, Try.ntmps67
  go_wp2_with fail
  refine (indexp_any F w b off cap vs l h h1 h2).mono ?_
  rintro e w1 ⟨n, rfl, hn, hb1⟩
  go_wp2_with fail
  go_ret
  refine ⟨?_, hb1⟩
  cases hb : (l.any (fun o => isKind 2 o || isKind 3 o)) with
  | true => rw [hb] at hn; have := hn.2 rfl; simp [this]
  | false => rw [hb] at hn; have : ¬ 0 ≤ n := fun h => by cases hn.1 h
             simp; omega
end Go.Proofs.Ytojmnfelecnenaa
namespace Go.Proofs.Ytojmnfelecnenaa
set_option linter.unusedSimpArgs false
set_option linter.unusedVariables false
open Go.RowKit

theorem asks_row {col : Nat → Nat} {w : World} {b bd N : Nat} {x : Sv} {s : St} (h : StAt Ts col w b bd N x s) (hI : Inv s) : AsksAt (Fa col) w b 11 [x.a0, x.a1, x.a2] s.asks := by
  have h3 := h.asks
  refine ⟨by rw [h3]; rfl, fun j v hv => ?_, fun j v o hv ho => ?_, fun a ha => ?_⟩
  · match j, hv with
    | 0, hv => cases hv; exact h.cell 11
    | 1, hv => cases hv; exact h.cell 12
    | 2, hv => cases hv; exact h.cell 13
  · have e : s.askAt j = o := by unfold St.askAt; rw [List.getD_eq_getElem?_getD, ho]; rfl
    match j, hv with
    | 0, hv => cases hv; exact e ▸ h.ask 0 (by omega)
    | 1, hv => cases hv; exact e ▸ h.ask 1 (by omega)
    | 2, hv => cases hv; exact e ▸ h.ask 2 (by omega)
  · obtain ⟨j, hj⟩ := List.mem_iff_getElem?.1 ha
    exact hI.ask j a (by unfold St.askAt; rw [List.getD_eq_getElem?_getD, hj]; rfl)
set_option maxRecDepth 100000 in
set_option maxHeartbeats 1000000 in
theorem pressed_any (col : Nat → Nat) (w : World) (b bd N : Nat) (x : Sv) (s : St) (h : StAt Ts col w b bd N x s) (hI : Inv s) :
    Calls Try.prog 48 #[.pointer (some ⟨b, 0, none⟩)] w (Ret (.bool s.pressed) w) := by
  have H := Lib.hid h
  have HI := Lib.hid hI
  have hA := asks_row h hI
  have h3 := h.asks
  have Hp : Hid (s.pressed = (decide (3 ≤ dirtyB s.bufs) || s.asks.any (fun o => isKind 2 o || isKind 3 o))) := show _ = _ from rfl
  have Hrow := Lib.hid h.row
  have HA := Lib.hid hA
  have H3 := Lib.hid h3
  clear h hI hA h3
  go_enter Try.func48, Try.ntmps48
  go_wp2_with fail
  refine (stdirty_any col w b bd N x s H.out HI.out.len8).mono ?_
  rintro e w1 ⟨rfl, hb1⟩
  have HB1 := Lib.hid hb1
  clear hb1
  rcases Nat.lt_or_ge (dirtyB s.bufs) 3 with h6 | h6
  · have hn6 : decide ((3 : Int) ≤ (dirtyB s.bufs : Int)) = false := by rw [decide_eq_false_iff_not]; omega
    have Hd : Hid (decide (3 ≤ dirtyB s.bufs) = false) := show _ = _ by rw [decide_eq_false_iff_not]; omega
    clear h6
    go_wp2_with fail
    have hA1 : AsksAt (Fa col) w1 b 11 [x.a0, x.a1, x.a2] s.asks := asks_row (H.out.below HB1.out) HI.out
    have hc := containsp_any (Fa col) w1 b 11 3 _ _ hA1 (by rw [H3.out]; omega) (by omega)
    rw [H3.out] at hc
    refine hc.mono ?_
    rintro e w2 ⟨rfl, hb2⟩
    have HB2 := Lib.hid hb2
    clear hb2 hc hA1
    go_wp2_with fail
    go_ret
    rw [Hp.out, Hd.out]
    exact ⟨by simp, HB1.out.trans (HB2.out.mono HB1.out.size)⟩
  · have hn6 : decide ((3 : Int) ≤ (dirtyB s.bufs : Int)) = true := by rw [decide_eq_true_iff]; omega
    have Hd : Hid (decide (3 ≤ dirtyB s.bufs) = true) := show _ = _ by rw [decide_eq_true_iff]; omega
    clear h6
    go_wp2_with fail
    go_ret
    rw [Hp.out, Hd.out]
    exact ⟨by simp, HB1.out⟩
end Go.Proofs.Ytojmnfelecnenaa
namespace Go.Proofs.Ytojmnfelecnenaa
set_option linter.unusedSimpArgs false
set_option linter.unusedVariables false
open Go.RowKit Go.Sort

set_option maxRecDepth 100000 in
set_option maxHeartbeats 2000000 in
theorem clean_st (col : Nat → Nat) (w : World) (b bd N : Nat) (x : Sv) (s : St) (h : StAt Ts col w b bd N x s) (hI : Inv s) (hu : s.use ≤ 900000000 ∧ s.tag ≤ 900000000) :
    Calls Try.prog 35 #[.pointer (some ⟨b, 0, none⟩)] w (Ret2 Ts col w b bd N x s.clean.1 (.bool s.clean.2)) := by
  have H := Lib.hid h
  have HI := Lib.hid hI
  have Hub := Lib.hid hu
  have c11 : w.cell? ⟨b, 20, none⟩ = some (.bool s.dead) := h.cell 20
  have c2 : w.cell? ⟨b, 2, none⟩ = some x.bufs := h.cell 2
  have Hc : Hid (s.clean = if s.dead || !s.pressed then (s, false) else if pickB s.bufs s.heldP < 0 then (s, false) else s.queue true (pickB s.bufs s.heldP) (getB s.bufs (pickB s.bufs s.heldP)).1.data) := show _ = _ from rfl
  have Hby : Hid (HeldBy w 50 #[.pointer (some ⟨b, 0, none⟩)] #[] s.heldP) := held_by col w b bd N x s h (good_oks hI.good) hI.dv.two
  have Hin : Hid (InB s.bufs) := hI.inb
  have Hln : Hid (s.bufs.length ≤ 65536) := show _ ≤ _ by have := hI.len8; omega
  have hz := zero_buf
  clear h hI hu
  go_enter Try.func35, Try.ntmps35
  cases hd : s.dead with
  | true =>
    have Hd := Lib.hid hd
    rw [hd] at c11
    clear hd
    go_wp2_with fail
    go_ret
    rw [Hc.out, Hd.out]
    exact ⟨_, rfl, H.out, Chg.refl, .refl⟩
  | false =>
    have Hd := Lib.hid hd
    rw [hd] at c11
    clear hd
    go_wp2_with fail
    refine (pressed_any col w b bd N x s H.out HI.out).mono ?_
    rintro e w1 ⟨rfl, hb1⟩
    have HB1 := Lib.hid hb1
    have H1 := Lib.hid (H.out.below hb1)
    have c2' := cell_b hb1 c2
    clear hb1 c11 c2
    cases hp : s.pressed with
    | false =>
      have Hp := Lib.hid hp
      clear hp
      go_wp2_with fail
      go_ret
      rw [Hc.out, Hd.out, Hp.out]
      exact ⟨_, rfl, H1.out, Chg.of_below HB1.out, .refl⟩
    | true =>
      have Hp := Lib.hid hp
      clear hp
      go_wp2_with fail
      refine (pick_any (Im w1 col) s.bufs x.bufs 50 #[.pointer (some ⟨b, 0, none⟩)] #[] s.heldP w1 H1.out.bufs Hin.out (Hby.out.step HB1.out) Hln.out).mono ?_
      rintro e w2 ⟨rfl, hb2⟩
      have HB2 := Lib.hid hb2
      have H2 := Lib.hid (H1.out.below hb2)
      have c3 := cell_b hb2 c2'
      clear hb2 c2'
      by_cases hn : pickB s.bufs s.heldP < 0
      · have hnd : decide (pickB s.bufs s.heldP < 0) = true := by simpa using hn
        have Hn := Lib.hid hn
        clear hn
        go_wp2_with fail
        go_ret
        rw [Hc.out, Hd.out, Hp.out, if_neg (by decide), if_pos Hn.out]
        exact ⟨_, rfl, H2.out, Chg.of_below (HB1.out.trans (HB2.out.mono HB1.out.size)), .refl⟩
      · have hnd : decide (pickB s.bufs s.heldP < 0) = false := by simpa using hn
        obtain ⟨y, hy, hpos, hg, _⟩ := pick_some HI.out.rises hn
        have Hpr : Hid (0 ≤ pickB s.bufs s.heldP ∧ pickB s.bufs s.heldP ≤ 31) := show _ ∧ _ from hpos ▸ HI.out.inb y hy
        have Hsz : Hid ((getB s.bufs (pickB s.bufs s.heldP)).1.data.size ≤ 16) := show _ ≤ _ by rw [hg]; exact HI.out.size y hy
        have Hn := Lib.hid hn
        clear hn hy hpos hg
        go_wp2_with fail
        refine (get_st H2.out HI.out _ w2 (Below.refl _ _)).mono ?_
        rintro e w3 ⟨rfl, hb3⟩
        have HB3 := Lib.hid hb3
        clear hb3 c3
        go_wp2_with fail
        refine (queue_any col _ b bd N x s true (pickB s.bufs s.heldP) (getB s.bufs (pickB s.bufs s.heldP)).1.data ((H2.out.below HB3.out).below ((Below.refl _ _).alloc (Nat.le_refl _) _)) (good_oks (good_app.1 HI.out.good).1) HI.out.wait6 ⟨HI.out.tag0, by have := Hub.out; omega⟩ HI.out.now Hpr.out Hsz.out).mono ?_
        rintro e w4 ⟨y4, rfl, hst4, hc4, hav⟩
        have Hav := Lib.hid hav
        have Hst4 := Lib.hid hst4
        have Hc4 := Lib.hid hc4
        clear hst4 hc4 hav
        go_wp2_with fail
        go_ret
        rw [Hc.out, Hd.out, Hp.out, if_neg (by decide), if_neg (Int.not_lt.2 Hn.out)]
        exact ⟨_, rfl, Hst4.out, ((Chg.of_below (HB1.out.trans ((HB2.out.trans (HB3.out.mono HB2.out.size)).mono HB1.out.size))).step ((Below.refl _ _).alloc (Nat.le_refl _) _)).trans (Hc4.out.mono (fun k hk => .inl hk)), Hav.out⟩
end Go.Proofs.Ytojmnfelecnenaa
namespace Go.Proofs.Ytojmnfelecnenaa
set_option linter.unusedSimpArgs false
set_option linter.unusedVariables false
open Go.RowKit Go.Sort

/-- It returns a new stack over the disk. -/
def RetNew (T : Tys) (F : Nat → Prop) (w : World) (bd : Nat) (d : Dv) : Ending → World → Prop :=
  fun e w' => ∃ (b : Nat) (col : Nat → Nat) (y : Sv), e = .returned (.pointer (some ⟨b, 0, none⟩)) ∧ StAt T col w' b bd 0 y (St.new d) ∧ Below w.heap.size w w' ∧ (∀ k, Fl col k → F k ∨ w.heap.size ≤ k) ∧ w.heap.size ≤ b
set_option maxRecDepth 100000 in
set_option maxHeartbeats 1000000 in
theorem stnew_any (S F : Nat → Prop) (w : World) (bd : Nat) (d : Dv) (h : DevAt TDp TPp S F w bd d) (hF : ∀ k, F k → k < w.heap.size) (hSlt : ∀ k, S k → k < w.heap.size) (hSF : ∀ k, S k → ¬ F k) :
    Calls Try.prog 16 #[.pointer (some ⟨bd, 0, none⟩)] w (RetNew Ts F w bd d) := by
  classical
  have H := Lib.hid h
  have HF := Lib.hid hF
  have Hlt := Lib.hid hSlt
  have HSF := Lib.hid hSF
  clear h hF hSlt hSF
  go_enter Try.func16, Try.ntmps16
  go_wp2_with fail
  refine (drvnew_any S F w bd d H.out HF.out Hlt.out).mono ?_
  rintro e w1 ⟨rfl, hp, hb1, hs1⟩
  obtain ⟨bv, hbv⟩ : ∃ n, w.heap.size + 1 = n := ⟨_, rfl⟩
  have Hbv := Lib.hid hbv
  rw [hbv] at hp ⊢
  have Hp := Lib.hid hp
  have HB1 := Lib.hid hb1
  have Hs1 := Lib.hid hs1
  obtain ⟨x, hx⟩ : ∃ x : Sv, x = ⟨bv, w.heap.size, 0, .slice none 0 0, .slice none 0 0, .pointer none, .pointer none, .pointer none, noB, noB, noB, 0, 0, 0⟩ := ⟨_, rfl⟩
  clear hp hb1 hs1 hbv
  go_wp2_with fail
  go_ret
  obtain ⟨o, ho⟩ : ∃ o : Obj, o = .cells (x.row (St.new d) bd) Ts.S := ⟨_, rfl⟩
  have hoe : o = .cells (x.row (St.new d) bd) Ts.S := ho
  have hA : Below w1.heap.size w1 (w1.alloc o) := (Below.refl _ _).alloc (Nat.le_refl _) _
  have hnew : (w1.alloc o).heap[w1.heap.size]? = some o := heap_alloc_new _ _
  have hsz : (w1.alloc o).heap.size = w1.heap.size + 1 := by simp
  have hs1 := Hs1.out
  have hbv := Hbv.out
  have hwo : w1.alloc (.cells #[.pointer (some ⟨bd, 0, none⟩), .pointer (some ⟨bv, 0, none⟩), .slice none 0 0, .slice none 0 0, .bool false, .int .i64 0, .int .i64 0, .int .i64 0, .int .i64 0, .int .i64 0, .int .i64 0, .pointer none, .pointer none, .pointer none, .string ⟨#[]⟩, .string ⟨#[]⟩, .string ⟨#[]⟩, .int .i64 0, .int .i64 0, .int .i64 0, .bool false] 81) = w1.alloc o := by rw [hoe, hx]; rfl
  rw [hwo]
  generalize w1.alloc o = w2 at hA hnew hsz
  rw [hoe] at hnew
  obtain ⟨col, hcol⟩ : ∃ f : Nat → Nat, ∀ k, f k = if k = w1.heap.size then 1 else if k = bv then 2 else if k = w.heap.size then 3 else if F k then 4 else 0 := ⟨_, fun _ => rfl⟩
  have c1 : col w1.heap.size = 1 := by rw [hcol, if_pos rfl]
  have c2 : col bv = 2 := by rw [hcol, if_neg (by omega), if_pos rfl]
  have c3 : col w.heap.size = 3 := by rw [hcol, if_neg (by omega), if_neg (by omega), if_pos rfl]
  have c4 : ∀ k, F k → col k = 4 := fun k hk => by have := HF.out k hk; rw [hcol, if_neg (by omega), if_neg (by omega), if_neg (by omega), if_pos hk]
  have c0 : ∀ k, S k → col k = 0 := fun k hk => by have := Hlt.out k hk; rw [hcol, if_neg (by omega), if_neg (by omega), if_neg (by omega), if_neg (HSF.out k hk)]
  have hdrv := Hp.out.below hA
  have e1 : x.bv = bv := by rw [hx]
  have e2 : x.bt = w.heap.size := by rw [hx]
  have e3 : x.n = 0 := by rw [hx]
  have e4 : x.bufs = .slice none 0 0 := by rw [hx]
  have e5 : x.wait = .slice none 0 0 := by rw [hx]
  refine ⟨w1.heap.size, col, x, rfl, ⟨hnew, ?_, by rw [e3]; exact Nat.le_refl _, ?_, ?_, rfl, fun c hc => ?_, by rw [hx]; rfl, by rw [hx]; rfl, c1, by rw [e1]; exact c2, by rw [e2]; exact c3, fun k hk => ?_⟩, HB1.out.trans (hA.mono HB1.out.size), fun k hk => ?_, HB1.out.size⟩
  · rw [e1, e2, e3]
    refine ⟨hdrv.row, hdrv.map, (hdrv.dev.mono c4).more (fun k hk => ⟨by have := Hlt.out k hk; omega, c0 k hk⟩), ?_, ?_, ?_⟩
    · intro h1; have h2 : col bv = 4 := h1; rw [c2] at h2; cases h2
    · intro h1; have h2 : col w.heap.size = 4 := h1; rw [c3] at h2; cases h2
    · intro k hk
      constructor
      · rintro rfl; have h2 := hk.2; rw [c2] at h2; cases h2
      · rintro rfl; have h2 := hk.2; rw [c3] at h2; cases h2
  · rw [e4]; exact BufsAt.nil
  · rw [e5]; exact ⟨[], rfl, Rd.nil, by simp⟩
  · match c, hc with
    | 0, _ => show x.a0 = _; rw [hx]
    | 1, _ => show x.a1 = _; rw [hx]
    | 2, _ => show x.a2 = _; rw [hx]
  · rw [hcol] at hk
    split at hk
    · omega
    · split at hk
      · omega
      · split at hk
        · omega
        · split at hk
          · rename_i hf; have := HF.out k hf; omega
          · exact absurd rfl hk
  · have h1 : col k ≠ 0 := hk.1
    rw [hcol] at h1
    split at h1
    · right; omega
    · split at h1
      · right; omega
      · split at h1
        · right; omega
        · split at h1
          · rename_i hf; exact .inl hf
          · exact absurd rfl h1
theorem quiet_iff {s : St} (h3 : s.asks.length = 3) : s.quiet = true ↔ (∀ c, c < 3 → s.askAt c = none) ∧ s.wait = [] ∧ s.v.d.l = [] := by
  unfold St.quiet St.askAt
  obtain ⟨v, bf, wt, tn, nw, us, tg, aks, dn, er, dd⟩ := s
  match aks, h3 with
  | [a0, a1, a2], _ =>
    simp only [List.all_cons, List.all_nil, Bool.and_true, Bool.and_eq_true, Option.isNone_iff_eq_none, List.isEmpty_iff]
    constructor
    · rintro ⟨⟨⟨h0, h1, h2⟩, h4⟩, h5⟩
      refine ⟨fun c hc => ?_, h4, h5⟩
      match c, hc with
      | 0, _ => exact h0
      | 1, _ => exact h1
      | 2, _ => exact h2
    · rintro ⟨h1, h4, h5⟩
      exact ⟨⟨⟨h1 0 (by omega), h1 1 (by omega), h1 2 (by omega)⟩, h4⟩, h5⟩
set_option maxRecDepth 100000 in
set_option maxHeartbeats 1000000 in
theorem quiet_any (col : Nat → Nat) (w : World) (b bd N : Nat) (x : Sv) (s : St) (h : StAt Ts col w b bd N x s) (hI : Inv s) :
    Calls Try.prog 34 #[.pointer (some ⟨b, 0, none⟩)] w (Ret (.bool s.quiet) w) := by
  have H := Lib.hid h
  have HI := Lib.hid hI
  clear h hI
  go_enter Try.func34, Try.ntmps34
  go_wp2_with fail
  go_loop [4] (fun i => ∃ k : Nat, k ≤ 3 ∧ i = .int .i64 k ∧ Hid (∀ j, j < k → s.askAt j = none)) (fun i => 3 - (intOf i).toNat)
  case atStart => exact ⟨0, by omega, rfl, fun j hj => by omega⟩
  case round =>
    obtain ⟨k, hk, rfl, HN⟩ := hrel
    by_cases h3 : k < 3
    · have h3' : (k : Int) < 3 := by omega
      go_wp2_with fail
      refine (waits_any col w b bd N x s k H.out h3).mono ?_
      rintro e w1 ⟨rfl, rfl⟩
      cases ho : s.askAt k with
      | some a =>
        have HQ : Hid (s.quiet = false) := show _ = _ by
          rw [Bool.eq_false_iff]
          intro hq
          rw [((quiet_iff H.out.asks).1 hq).1 k h3] at ho
          cases ho
        clear ho
        simp only [Option.isSome_some]
        go_wp2_with fail
        go_ret
        rw [HQ.out]
        exact ⟨rfl, Below.refl _ _⟩
      | none =>
        have Ho := Lib.hid ho
        clear ho
        simp only [Option.isSome_none]
        go_wp2_with fail
        go_round
        case rel =>
          refine ⟨k + 1, by omega, by go_num, fun j hj => ?_⟩
          rcases Nat.lt_or_ge j k with h | h
          · exact HN.out j h
          · obtain rfl : j = k := by omega
            exact Ho.out
        case measure => simp [intOf]; omega
    · obtain rfl : k = 3 := by omega
      have h3' : ((3 : Nat) : Int) = 3 := rfl
      go_wp2_with fail
      refine (stqueue_any col w b bd N x s H.out HI.out.wait6).mono ?_
      rintro e w1 ⟨v1, rfl, hv1, hb1⟩
      obtain ⟨A1, c1, e1, _, _⟩ := hv1.form
      subst e1
      have HB1 := Lib.hid hb1
      clear hv1 hb1
      by_cases hw : s.wait = []
      · have hl : s.wait.length = 0 := by rw [hw]; rfl
        have Hw := Lib.hid hw
        rw [hl]
        clear hw hl
        go_wp2_with fail
        refine (stbusy_any col w1 b bd N x s (H.out.below HB1.out) HI.out.dv.two).mono ?_
        rintro e w2 ⟨v2, rfl, hv2, hb2⟩
        obtain ⟨A2, c2, e2, _, _⟩ := hv2.form
        subst e2
        have HB2 := Lib.hid hb2
        clear hv2 hb2
        by_cases hl : s.v.d.l = []
        · have HQ : Hid (s.quiet = true) := show _ = _ from (quiet_iff H.out.asks).2 ⟨HN.out, Hw.out, hl⟩
          have hn : s.v.d.l.length = 0 := by rw [hl]; rfl
          rw [hn]
          clear hl hn
          go_wp2_with fail
          go_ret
          rw [HQ.out]
          exact ⟨rfl, HB1.out.trans (HB2.out.mono HB1.out.size)⟩
        · have HQ : Hid (s.quiet = false) := show _ = _ by
            rw [Bool.eq_false_iff]
            intro hq
            exact hl ((quiet_iff H.out.asks).1 hq).2.2
          have hn : (((s.v.d.l.length : Nat) : Int) == 0) = false := by simp only [beq_eq_false_iff_ne]; have := List.length_pos_iff.2 hl; omega
          go_wp2_with fail
          go_ret
          rw [HQ.out]
          exact ⟨rfl, HB1.out.trans (HB2.out.mono HB1.out.size)⟩
      · have HQ : Hid (s.quiet = false) := show _ = _ by
          rw [Bool.eq_false_iff]
          intro hq
          exact hw ((quiet_iff H.out.asks).1 hq).2.1
        have hn : (((s.wait.length : Nat) : Int) == 0) = false := by simp only [beq_eq_false_iff_ne]; have := List.length_pos_iff.2 hw; omega
        go_wp2_with fail
        go_ret
        rw [HQ.out]
        exact ⟨rfl, HB1.out⟩
end Go.Proofs.Ytojmnfelecnenaa
namespace Go.Proofs.Ytojmnfelecnenaa
set_option linter.unusedSimpArgs false
set_option linter.unusedVariables false
open Go.RowKit Go.Sort

/-- So many requests have gone to the disk. -/
def goN (s : St) : Nat → St
  | 0 => s
  | n + 1 => (goN s n).dispatch.1
theorem Inv.goN {s : St} (h : Inv s) : ∀ n, Inv (Go.Proofs.Ytojmnfelecnenaa.goN s n)
  | 0 => h
  | n + 1 => (Inv.goN h n).dispatch
theorem Bd.goN {K : Int} {s : St} (h : Bd K s) : ∀ n, Bd K (Go.Proofs.Ytojmnfelecnenaa.goN s n)
  | 0 => h
  | n + 1 => (Bd.goN h n).dispatch
theorem dispatch_false {s : St} (h : s.dispatch.2 = false) : s.dispatch.1 = s := by
  unfold St.dispatch at *
  split at h
  · rename_i hn; rw [if_pos hn]
  · cases h
theorem dispatch_len {s : St} (h : Inv s) (hd : s.dispatch.2 = true) : s.dispatch.1.v.d.l.length = s.v.d.l.length + 1 := by
  by_cases hn : s.wait = [] ∨ 2 ≤ s.v.d.l.length
  · rw [Inv.dispatch_no hn] at hd; cases hd
  · simp only [not_or] at hn
    obtain ⟨j, r, t', hx, e⟩ := h.dispatched hn.1 (by omega)
    rw [e]
    show (s.v.d.l ++ [r]).length = _
    simp
/-- When no more goes, as much went as can. -/
theorem goN_end {s : St} (h : Inv s) {n : Nat} (hn : ∀ j, j < n → (goN s j).dispatch.2 = true) (he : (goN s n).dispatch.2 = false) : goN s n = s.go := by
  have hl : ∀ j, j ≤ n → (goN s j).v.d.l.length = s.v.d.l.length + j := by
    intro j
    induction j with
    | zero => intro _; rfl
    | succ j ih =>
      intro hj
      rw [goN, dispatch_len (h.goN j) (hn j (by omega)), ih (by omega)]
      omega
  have h2 : n ≤ 2 := by have := hl n (Nat.le_refl _); have := (h.goN n).dv.two; omega
  have hs := dispatch_false he
  match n, h2 with
  | 0, _ =>
    show s = s.dispatch.1.dispatch.1
    have e : s.dispatch.1 = s := hs
    rw [e, e]
  | 1, _ =>
    show s.dispatch.1 = s.dispatch.1.dispatch.1
    exact hs.symm
  | 2, _ => rfl
theorem goN_true {s : St} (h : Inv s) {n : Nat} (hn : ∀ j, j < n → (goN s j).dispatch.2 = true) (he : (goN s n).dispatch.2 = true) : n < 2 := by
  have hl : ∀ j, j ≤ n → (goN s j).v.d.l.length = s.v.d.l.length + j := by
    intro j
    induction j with
    | zero => intro _; rfl
    | succ j ih =>
      intro hj
      rw [goN, dispatch_len (h.goN j) (hn j (by omega)), ih (by omega)]
      omega
  have h1 := dispatch_len (h.goN n) he
  have h3 := ((h.goN n).dispatch).dv.two
  have h4 := hl n (Nat.le_refl _)
  omega
theorem Ret5.after {T : Tys} {col col' : Nat → Nat} {w w1 w' : World} {b bd N : Nat} {t : St} {v : Value} {e : Ending} (hr : Ret5 T col' w1 b bd N t v e w') (hc : Chg (Fl col) w w1) (hrec : Rec col col' w w1) : Ret5 T col w b bd N t v e w' := by
  obtain ⟨c2, z, h1, h2, h3, h4⟩ := hr
  exact ⟨c2, z, h1, h2, hc.recol h3 hrec.grow, hrec.trans h4 hc.size⟩
theorem StAt.moreN {T : Tys} {col : Nat → Nat} {w : World} {b bd N M : Nat} {x : Sv} {s : St} (h : StAt T col w b bd N x s) (hm : N ≤ M) : StAt T col w b bd M x s :=
  ⟨h.row, h.drv, Nat.le_trans h.n hm, h.bufs, h.wait, h.asks, h.ask, h.done, h.errs, h.cb, h.cv, h.ct, h.lt⟩
/-- How many requests the disk has yet room for, as memory tells. -/
def roomAt (bd : Nat) (w : World) : Nat := match w.cell? ⟨bd, 65, none⟩ with
  | some (.slice _ n _) => 3 - n
  | _ => 0
theorem StAt.room {T : Tys} {col : Nat → Nat} {w : World} {b bd N : Nat} {x : Sv} {s : St} (h : StAt T col w b bd N x s) : roomAt bd w = 3 - s.v.d.l.length := by
  obtain ⟨_, h1, h2, wv, lv, cs, hrow, hw, hl, hcs, hok⟩ := h.drv.dev
  obtain ⟨A, cap, rfl, _, _⟩ := hl.form
  unfold roomAt
  rw [cell_of_row _ _ 65 _ _ _ hrow]
  have := devCells_at_l s.v.d wv (.slice A cs.length cap) h1 h2
  rw [List.getElem?_toArray, this]
  simp only
  rw [← hcs, List.length_map]
set_option maxRecDepth 100000 in
set_option maxHeartbeats 2000000 in
theorem round_any (col : Nat → Nat) (w : World) (b bd N : Nat) (x : Sv) (s : St) (K : Int) (h : StAt Ts col w b bd N x s) (hI : Inv s) (hB : Bd K s) (h0 : 0 ≤ K) (hK : K ≤ 600000000) (hN : N ≤ 900000000) :
    Calls Try.prog 39 #[.pointer (some ⟨b, 0, none⟩)] w (Ret5 Ts col w b bd (N + 1) s.round (.tuple #[])) := by
  have H := Lib.hid h
  have HI := Lib.hid hI
  have HB := Lib.hid hB
  clear h hI hB
  go_enter Try.func39, Try.ntmps39
  go_wp2_with fail
  refine (tick_any col w b bd N x s K H.out HI.out HB.out h0 (by omega)).mono ?_
  rintro e w1 ⟨y1, rfl, hst1, hc1, _⟩
  have Hst1 := Lib.hid hst1
  have HC1 := Lib.hid hc1
  have HI1 := Lib.hid HI.out.tick
  have HB1 := Lib.hid (HB.out.tick h0)
  clear hst1 hc1
  go_wp2_with fail
  refine (clean_st col w1 b bd N y1 s.tick Hst1.out HI1.out ⟨by have := HB1.out.use; omega, by have := HB1.out.tag; omega⟩).mono ?_
  rintro e w2 ⟨y2, rfl, hst2, hc2, _⟩
  have Hst2 := Lib.hid hst2
  have HC2 := Lib.hid (HC1.out.two (Hst1.out.chg1 hc2))
  have HI2 := Lib.hid HI1.out.clean
  have HB2 := Lib.hid HB1.out.clean
  clear hst2 hc2
  go_wp2_with fail
  go_loopw [] (fun wr => ∃ (k : Nat) (col' : Nat → Nat) (y : Sv), Hid (StAt Ts col' wr b bd N y (goN s.tick.clean.1 k)) ∧ Hid (Chg (Fl col) w wr) ∧ Hid (Rec col col' w wr) ∧ Hid (∀ j, j < k → (goN s.tick.clean.1 j).dispatch.2 = true)) (fun wr => roomAt bd wr)
  case atStart => exact ⟨0, col, y2, Hst2.out, HC2.out, .refl, fun j hj => by omega⟩
  case round =>
    obtain ⟨k, col', y, HS, HC, HR, HD⟩ := hrel
    have HIk := Lib.hid (HI2.out.goN k)
    have HBk := Lib.hid (HB2.out.goN k)
    go_wp2_with fail
    refine (dispatch_any col' wr b bd N y _ HS.out HIk.out).mono ?_
    rintro e w3 ⟨c3, y3, rfl, hst3, hc3, hr3⟩
    have HC3 := Lib.hid (HC.out.recol hc3 HR.out.grow)
    have HR3 := Lib.hid (HR.out.trans hr3 HC.out.size)
    cases hd : (goN s.tick.clean.1 k).dispatch.2 with
    | true =>
      have Hst3 : Hid (StAt Ts c3 w3 b bd N y3 (goN s.tick.clean.1 (k + 1))) := hst3
      have HD3 : Hid (∀ j, j < k + 1 → (goN s.tick.clean.1 j).dispatch.2 = true) := fun j hj => by
        rcases Nat.lt_or_ge j k with h | h
        · exact HD.out j h
        · obtain rfl : j = k := by omega
          exact hd
      have Hm : Hid (roomAt bd w3 < roomAt bd wr) := show _ < _ by
        rw [Hst3.out.room, HS.out.room]
        have h1 := dispatch_len HIk.out hd
        have h2 := (HI2.out.goN (k + 1)).dv.two
        show 3 - (goN s.tick.clean.1 k).dispatch.1.v.d.l.length < _
        have h2' : (goN s.tick.clean.1 k).dispatch.1.v.d.l.length ≤ 2 := h2
        omega
      clear hd hst3 hc3 hr3
      go_wp2_with fail
      go_roundw
      case rel => exact ⟨k + 1, c3, y3, Hst3.out, HC3.out, HR3.out, HD3.out⟩
      case measure => exact Hm.out
    | false =>
      have He := Lib.hid (goN_end HI2.out HD.out hd)
      have hst4 := hst3
      rw [dispatch_false hd, He.out] at hst4
      have Hst4 := Lib.hid hst4
      have HI4 := Lib.hid (HI2.out.go)
      have HB4 : Hid (Bd (K + 3 + 1) s.tick.clean.1.go) := He.out ▸ HBk.out
      clear hd hst3 hc3 hr3 hst4
      go_wp2_with fail
      refine (end_any c3 w3 b bd N y3 s.tick.clean.1.go 0 false (K + 3 + 1) Hst4.out HI4.out HB4.out (by omega) (by omega) hN).mono ?_
      rintro e w4 hr4
      have Hr4 := Lib.hid (Ret5.after hr4 HC3.out HR3.out)
      obtain ⟨c4, y4, rfl, _⟩ := hr4
      go_wp2_with fail
      go_end0
      obtain ⟨c5, y5, _, h5, h6, h7⟩ := Hr4.out
      exact ⟨c5, y5, rfl, h5, h6, h7⟩
/-- Rounds, from where some were already. -/
theorem settle_quiet {s : St} (h : s.quiet = true) : ∀ n, St.settle n s = (s, 0)
  | 0 => rfl
  | n + 1 => by unfold St.settle; rw [if_pos h]
theorem settle_step {s : St} (h : s.quiet = false) (n : Nat) : St.settle (n + 1) s = ((St.settle n s.round).1, (St.settle n s.round).2 + 1) := by
  rw [St.settle, if_neg (by rw [h]; decide)]
set_option maxRecDepth 100000 in
set_option maxHeartbeats 2000000 in
theorem settle_any (col : Nat → Nat) (w : World) (b bd N : Nat) (x : Sv) (s : St) (K : Int) (most : Nat) (h : StAt Ts col w b bd N x s) (hI : Inv s) (hB : Bd K s) (h0 : 0 ≤ K) (hK : K + 15 * most ≤ 600000000) (hN : N + most ≤ 900000000) (hm : most ≤ 1000000) :
    Calls Try.prog 38 #[.pointer (some ⟨b, 0, none⟩), .int .i64 (most : Int)] w (Ret5 Ts col w b bd (N + most) (St.settle most s).1 (.tuple #[.int .i64 ((St.settle most s).2 : Nat), .bool (St.settle most s).1.quiet])) := by
  have H := Lib.hid h
  have HI := Lib.hid hI
  have HB := Lib.hid hB
  clear h hI hB
  go_enter Try.func38, Try.ntmps38
  go_wp2_with fail
  go_loopw [6] (fun i wr => ∃ (k : Nat) (col' : Nat → Nat) (y : Sv) (t : St), k ≤ most ∧ i = .int .i64 k ∧ Hid (StAt Ts col' wr b bd (N + k) y t) ∧ Hid (Chg (Fl col) w wr) ∧ Hid (Rec col col' w wr) ∧ Hid (Inv t) ∧ Hid (Bd (K + 15 * k) t) ∧ Hid (St.settle most s = ((St.settle (most - k) t).1, (St.settle (most - k) t).2 + k))) (fun i _ => most - (intOf i).toNat)
  case atStart => exact ⟨0, col, x, s, by omega, rfl, H.out, Chg.refl, .refl, HI.out, HB.out.mono (by omega), rfl⟩
  case round =>
    obtain ⟨k, col', y, t, hk, rfl, HS, HC, HR, HIt, HBt, HE⟩ := hrel
    go_wp2_with fail
    refine (quiet_any col' wr b bd (N + k) y t HS.out HIt.out).mono ?_
    rintro e w1 ⟨rfl, hb1⟩
    have HB1 := Lib.hid hb1
    have HS1 := Lib.hid (HS.out.below hb1)
    have HC1 := Lib.hid (HC.out.two (Chg.of_below hb1))
    clear hb1
    by_cases hq : t.quiet = true
    · have HX : Hid (St.settle most s = (t, k)) := show _ = _ by rw [HE.out, settle_quiet hq]; simp
      have Hq := Lib.hid hq
      rw [hq]
      clear hq
      go_wp2_with fail
      refine (quiet_any col' w1 b bd (N + k) y t HS1.out HIt.out).mono ?_
      rintro e w2 ⟨rfl, hb2⟩
      have HB2 := Lib.hid hb2
      clear hb2
      go_wp2_with fail
      go_ret2
      rw [HX.out]
      exact ⟨col', y, rfl, (HS1.out.below HB2.out).moreN (by omega), HC1.out.two (Chg.of_below HB2.out), HR.out.old, HR.out.grow⟩
    · have hq' : t.quiet = false := by simpa using hq
      rw [hq']
      by_cases hlt : k < most
      · have hlt2 : (k : Int) < (most : Int) := by omega
        have hkk : (k : Int) < 1000000 := by omega
        have HX : Hid (St.settle most s = ((St.settle (most - (k + 1)) t.round).1, (St.settle (most - (k + 1)) t.round).2 + (k + 1))) := show _ = _ by
          rw [HE.out, show most - k = (most - (k + 1)) + 1 by omega, settle_step hq']
          simp only [Prod.mk.injEq, true_and]
          omega
        clear hq hq'
        go_wp2_with fail
        refine (round_any col' w1 b bd (N + k) y t (K + 15 * k) HS1.out HIt.out HBt.out (by omega) (by omega) (by omega)).mono ?_
        rintro e w2 hr2
        have Hr2 := Lib.hid (Ret5.after hr2 HC1.out ⟨HR.out.old, HR.out.grow⟩)
        obtain ⟨c2, y2, rfl, _⟩ := hr2
        obtain ⟨c3, y3, _, h3, h4, h5⟩ := Hr2.out
        have HS3 := Lib.hid h3
        have HC3 := Lib.hid h4
        have HR3 := Lib.hid h5
        have HI3 := Lib.hid HIt.out.round
        have HB3 := Lib.hid (HBt.out.round (by omega) HIt.out)
        clear h3 h4 h5 Hr2
        go_wp2_with fail
        go_roundw
        case rel => exact ⟨k + 1, c3, y3, _, by omega, by go_num, HS3.out, HC3.out, HR3.out, HI3.out, HB3.out.mono (by omega), HX.out⟩
        case measure => simp [intOf]; omega
      · obtain rfl : k = most := by omega
        have hlt2 : ¬ (k : Int) < (k : Int) := by omega
        have HX : Hid (St.settle k s = (t, k)) := show _ = _ by rw [HE.out, Nat.sub_self]; simp [St.settle]
        have Hq := Lib.hid hq'
        clear hq hq'
        go_wp2_with fail
        refine (quiet_any col' w1 b bd (N + k) y t HS1.out HIt.out).mono ?_
        rintro e w2 ⟨rfl, hb2⟩
        have HB2 := Lib.hid hb2
        clear hb2
        go_wp2_with fail
        go_ret2
        rw [HX.out]
        exact ⟨col', y, rfl, HS1.out.below HB2.out, HC1.out.two (Chg.of_below HB2.out), HR.out.old, HR.out.grow⟩
end Go.Proofs.Ytojmnfelecnenaa
namespace Go.Proofs.Ytojmnfelecnenaa
set_option linter.unusedSimpArgs false
set_option linter.unusedVariables false
open Go.RowKit Go.Sort

inductive Cmd | read | write | sync | tick | clean | dispatch | end_ | fault | round | other
  deriving DecidableEq
def cmdOf (w : ByteArray) : Cmd :=
  if w.toList == [114, 101, 97, 100] then .read
  else if w.toList == [119, 114, 105, 116, 101] then .write
  else if w.toList == [115, 121, 110, 99] then .sync
  else if w.toList == [116, 105, 99, 107] then .tick
  else if w.toList == [99, 108, 101, 97, 110] then .clean
  else if w.toList == [100, 105, 115, 112, 97, 116, 99, 104] then .dispatch
  else if w.toList == [101, 110, 100] then .end_
  else if w.toList == [102, 97, 117, 108, 116] then .fault
  else if w.toList == [114, 111, 117, 110, 100] then .round
  else .other
/-- The step, and the error it gives. -/
def stepM (s : St) (z : Sp) : St × Nat := match cmdOf z.word with
  | .read => s.ask z.a 1 z.b noB
  | .write => s.ask z.a 2 z.b z.data
  | .sync => s.ask z.a 3 0 noB
  | .tick => (s.tick, 0)
  | .clean => (s.clean.1, 0)
  | .dispatch => (s.dispatch.1, 0)
  | .end_ => s.end_ z.a false
  | .fault => s.end_ z.a true
  | .round => (s.round, 0)
  | .other => (s, 0)
theorem Inv.stepM {s : St} (h : Inv s) (z : Sp) : Inv (Go.Proofs.Ytojmnfelecnenaa.stepM s z).1 := by
  unfold Go.Proofs.Ytojmnfelecnenaa.stepM
  split
  · exact h.ask_ ..
  · exact h.ask_ ..
  · exact h.ask_ ..
  · exact h.tick
  · exact h.clean
  · exact h.dispatch
  · exact h.end_ ..
  · exact h.end_ ..
  · exact h.round
  · exact h
theorem Bd.stepM {K : Int} {s : St} (h : Bd K s) (h0 : 0 ≤ K) (hI : Inv s) (z : Sp) : Bd (K + 15) (Go.Proofs.Ytojmnfelecnenaa.stepM s z).1 := by
  unfold Go.Proofs.Ytojmnfelecnenaa.stepM
  split
  · exact (h.ask h0 ..).mono (by omega)
  · exact (h.ask h0 ..).mono (by omega)
  · exact (h.ask h0 ..).mono (by omega)
  · exact (h.tick h0).mono (by omega)
  · exact h.clean.mono (by omega)
  · exact h.dispatch.mono (by omega)
  · exact (h.end_ h0 hI ..).mono (by omega)
  · exact (h.end_ h0 hI ..).mono (by omega)
  · exact h.round h0 hI
  · exact h.mono (by omega)
def stepsM (s : St) (l : List Sp) : St := l.foldl (fun s z => (stepM s z).1) s
theorem stepsM_succ (s : St) {l : List Sp} {k : Nat} {z : Sp} (h : l[k]? = some z) : stepsM s (l.take (k + 1)) = (stepM (stepsM s (l.take k)) z).1 := by
  unfold stepsM
  rw [List.take_add_one, h, List.foldl_append]; rfl
theorem Inv.stepsM {s : St} (h : Inv s) : ∀ l, Inv (Go.Proofs.Ytojmnfelecnenaa.stepsM s l) := by
  intro l
  unfold Go.Proofs.Ytojmnfelecnenaa.stepsM
  induction l generalizing s with
  | nil => exact h
  | cons z l ih => exact ih (h.stepM z)
theorem Bd.stepsM : ∀ (l : List Sp) {K : Int} {s : St}, Bd K s → 0 ≤ K → Inv s → Bd (K + 15 * l.length) (Go.Proofs.Ytojmnfelecnenaa.stepsM s l)
  | [], K, s, h, _, _ => h.mono (by simp)
  | z :: l, K, s, h, h0, hI => (Bd.stepsM l (h.stepM h0 hI z) (by omega) (hI.stepM z)).mono (by simp only [List.length_cons]; omega)
theorem cmd_read {w : ByteArray}  (h : (w.toList == [114, 101, 97, 100]) = true) : cmdOf w = .read := by unfold cmdOf; simp only [h]; rfl
theorem cmd_write {w : ByteArray} (h0 : (w.toList == [114, 101, 97, 100]) = false) (h : (w.toList == [119, 114, 105, 116, 101]) = true) : cmdOf w = .write := by unfold cmdOf; simp only [h0, h]; rfl
theorem cmd_sync {w : ByteArray} (h0 : (w.toList == [114, 101, 97, 100]) = false) (h1 : (w.toList == [119, 114, 105, 116, 101]) = false) (h : (w.toList == [115, 121, 110, 99]) = true) : cmdOf w = .sync := by unfold cmdOf; simp only [h0, h1, h]; rfl
theorem cmd_tick {w : ByteArray} (h0 : (w.toList == [114, 101, 97, 100]) = false) (h1 : (w.toList == [119, 114, 105, 116, 101]) = false) (h2 : (w.toList == [115, 121, 110, 99]) = false) (h : (w.toList == [116, 105, 99, 107]) = true) : cmdOf w = .tick := by unfold cmdOf; simp only [h0, h1, h2, h]; rfl
theorem cmd_clean {w : ByteArray} (h0 : (w.toList == [114, 101, 97, 100]) = false) (h1 : (w.toList == [119, 114, 105, 116, 101]) = false) (h2 : (w.toList == [115, 121, 110, 99]) = false) (h3 : (w.toList == [116, 105, 99, 107]) = false) (h : (w.toList == [99, 108, 101, 97, 110]) = true) : cmdOf w = .clean := by unfold cmdOf; simp only [h0, h1, h2, h3, h]; rfl
theorem cmd_dispatch {w : ByteArray} (h0 : (w.toList == [114, 101, 97, 100]) = false) (h1 : (w.toList == [119, 114, 105, 116, 101]) = false) (h2 : (w.toList == [115, 121, 110, 99]) = false) (h3 : (w.toList == [116, 105, 99, 107]) = false) (h4 : (w.toList == [99, 108, 101, 97, 110]) = false) (h : (w.toList == [100, 105, 115, 112, 97, 116, 99, 104]) = true) : cmdOf w = .dispatch := by unfold cmdOf; simp only [h0, h1, h2, h3, h4, h]; rfl
theorem cmd_end_ {w : ByteArray} (h0 : (w.toList == [114, 101, 97, 100]) = false) (h1 : (w.toList == [119, 114, 105, 116, 101]) = false) (h2 : (w.toList == [115, 121, 110, 99]) = false) (h3 : (w.toList == [116, 105, 99, 107]) = false) (h4 : (w.toList == [99, 108, 101, 97, 110]) = false) (h5 : (w.toList == [100, 105, 115, 112, 97, 116, 99, 104]) = false) (h : (w.toList == [101, 110, 100]) = true) : cmdOf w = .end_ := by unfold cmdOf; simp only [h0, h1, h2, h3, h4, h5, h]; rfl
theorem cmd_fault {w : ByteArray} (h0 : (w.toList == [114, 101, 97, 100]) = false) (h1 : (w.toList == [119, 114, 105, 116, 101]) = false) (h2 : (w.toList == [115, 121, 110, 99]) = false) (h3 : (w.toList == [116, 105, 99, 107]) = false) (h4 : (w.toList == [99, 108, 101, 97, 110]) = false) (h5 : (w.toList == [100, 105, 115, 112, 97, 116, 99, 104]) = false) (h6 : (w.toList == [101, 110, 100]) = false) (h : (w.toList == [102, 97, 117, 108, 116]) = true) : cmdOf w = .fault := by unfold cmdOf; simp only [h0, h1, h2, h3, h4, h5, h6, h]; rfl
theorem cmd_round {w : ByteArray} (h0 : (w.toList == [114, 101, 97, 100]) = false) (h1 : (w.toList == [119, 114, 105, 116, 101]) = false) (h2 : (w.toList == [115, 121, 110, 99]) = false) (h3 : (w.toList == [116, 105, 99, 107]) = false) (h4 : (w.toList == [99, 108, 101, 97, 110]) = false) (h5 : (w.toList == [100, 105, 115, 112, 97, 116, 99, 104]) = false) (h6 : (w.toList == [101, 110, 100]) = false) (h7 : (w.toList == [102, 97, 117, 108, 116]) = false) (h : (w.toList == [114, 111, 117, 110, 100]) = true) : cmdOf w = .round := by unfold cmdOf; simp only [h0, h1, h2, h3, h4, h5, h6, h7, h]; rfl
theorem cmd_other {w : ByteArray} (h0 : (w.toList == [114, 101, 97, 100]) = false) (h1 : (w.toList == [119, 114, 105, 116, 101]) = false) (h2 : (w.toList == [115, 121, 110, 99]) = false) (h3 : (w.toList == [116, 105, 99, 107]) = false) (h4 : (w.toList == [99, 108, 101, 97, 110]) = false) (h5 : (w.toList == [100, 105, 115, 112, 97, 116, 99, 104]) = false) (h6 : (w.toList == [101, 110, 100]) = false) (h7 : (w.toList == [102, 97, 117, 108, 116]) = false) (h8 : (w.toList == [114, 111, 117, 110, 100]) = false) : cmdOf w = .other := by unfold cmdOf; simp only [h0, h1, h2, h3, h4, h5, h6, h7, h8]; rfl
theorem errV_nil : Value.nilIface = errV 0 := rfl
set_option maxRecDepth 100000 in
set_option maxHeartbeats 4000000 in
theorem step_any (col : Nat → Nat) (w : World) (b bd N : Nat) (x : Sv) (s : St) (z : Sp) (K : Int) (h : StAt Ts col w b bd N x s) (hI : Inv s) (hB : Bd K s) (k0 : 0 ≤ K) (hK : K ≤ 600000000) (hN : N ≤ 900000000) :
    Calls Try.prog 18 #[.pointer (some ⟨b, 0, none⟩), .agg #[.string z.word, .int .i64 z.a, .int .i64 z.b, .string z.data]] w (Ret5 Ts col w b bd (N + 1) (stepM s z).1 (errV (stepM s z).2)) := by
  obtain ⟨w1, hw1⟩ : ∃ w1, w.alloc (.cells #[.string z.word, .int .i64 z.a, .int .i64 z.b, .string z.data] 33) = w1 := ⟨_, rfl⟩
  have hb1 : Below w.heap.size w w1 := hw1 ▸ (Below.refl _ _).alloc (Nat.le_refl _) _
  have H1 := Lib.hid (h.below hb1)
  have HB1 := Lib.hid hb1
  have HI := Lib.hid hI
  have HB := Lib.hid hB
  have HW := Lib.hid hw1
  have HC1 : Hid (Chg (Fl col) w w1) := Chg.of_below hb1
  clear h hI hB hw1 hb1
  go_enter Try.func18, Try.ntmps18
  rcases Bool.eq_false_or_eq_true (z.word.toList == [114, 101, 97, 100]) with h0 | h0
  · have He : Hid (stepM s z = s.ask z.a 1 z.b noB) := show _ = _ by unfold stepM; rw [cmd_read h0]
    go_wp2_with fail
    rw [HW.out]
    refine (ask_any col w1 b bd N x s z.a 1 z.b noB K H1.out HI.out HB.out k0 (by omega)).mono ?_
    rintro e w2 ⟨c2, y2, rfl, hst2, hc2, hr2⟩
    have Hst2 := Lib.hid hst2
    have HC2 := Lib.hid (HC1.out.two hc2)
    have HR2 := Lib.hid hr2
    clear hst2 hc2 hr2
    go_wp2_with fail
    go_ret
    rw [He.out]
    exact ⟨c2, y2, rfl, Hst2.out.moreN (by omega), HC2.out, fun k hk => HR2.out.old k (Nat.lt_of_lt_of_le hk HB1.out.size), fun k hk => (HR2.out.grow k hk).imp id (fun h1 => Nat.le_trans HB1.out.size h1)⟩
  rcases Bool.eq_false_or_eq_true (z.word.toList == [119, 114, 105, 116, 101]) with h1 | h1
  · have He : Hid (stepM s z = s.ask z.a 2 z.b z.data) := show _ = _ by unfold stepM; rw [cmd_write h0 h1]
    go_wp2_with fail
    rw [HW.out]
    refine (ask_any col w1 b bd N x s z.a 2 z.b z.data K H1.out HI.out HB.out k0 (by omega)).mono ?_
    rintro e w2 ⟨c2, y2, rfl, hst2, hc2, hr2⟩
    have Hst2 := Lib.hid hst2
    have HC2 := Lib.hid (HC1.out.two hc2)
    have HR2 := Lib.hid hr2
    clear hst2 hc2 hr2
    go_wp2_with fail
    go_ret
    rw [He.out]
    exact ⟨c2, y2, rfl, Hst2.out.moreN (by omega), HC2.out, fun k hk => HR2.out.old k (Nat.lt_of_lt_of_le hk HB1.out.size), fun k hk => (HR2.out.grow k hk).imp id (fun h1 => Nat.le_trans HB1.out.size h1)⟩
  rcases Bool.eq_false_or_eq_true (z.word.toList == [115, 121, 110, 99]) with h2 | h2
  · have He : Hid (stepM s z = s.ask z.a 3 0 noB) := show _ = _ by unfold stepM; rw [cmd_sync h0 h1 h2]
    go_wp2_with fail
    rw [HW.out]
    refine (ask_any col w1 b bd N x s z.a 3 0 noB K H1.out HI.out HB.out k0 (by omega)).mono ?_
    rintro e w2 ⟨c2, y2, rfl, hst2, hc2, hr2⟩
    have Hst2 := Lib.hid hst2
    have HC2 := Lib.hid (HC1.out.two hc2)
    have HR2 := Lib.hid hr2
    clear hst2 hc2 hr2
    go_wp2_with fail
    go_ret
    rw [He.out]
    exact ⟨c2, y2, rfl, Hst2.out.moreN (by omega), HC2.out, fun k hk => HR2.out.old k (Nat.lt_of_lt_of_le hk HB1.out.size), fun k hk => (HR2.out.grow k hk).imp id (fun h1 => Nat.le_trans HB1.out.size h1)⟩
  rcases Bool.eq_false_or_eq_true (z.word.toList == [116, 105, 99, 107]) with h3 | h3
  · have He : Hid (stepM s z = (s.tick, 0)) := show _ = _ by unfold stepM; rw [cmd_tick h0 h1 h2 h3]
    go_wp2_with fail
    rw [HW.out]
    refine (tick_any col w1 b bd N x s K H1.out HI.out HB.out k0 (by omega)).mono ?_
    rintro e w2 ⟨y2, rfl, hst2, hc2, _⟩
    have Hst2 := Lib.hid hst2
    have HC2 := Lib.hid (HC1.out.two hc2)
    clear hst2 hc2
    go_wp2_with fail
    go_ret
    rw [He.out]
    exact ⟨col, y2, rfl, Hst2.out.moreN (by omega), HC2.out, .refl⟩
  rcases Bool.eq_false_or_eq_true (z.word.toList == [99, 108, 101, 97, 110]) with h4 | h4
  · have He : Hid (stepM s z = (s.clean.1, 0)) := show _ = _ by unfold stepM; rw [cmd_clean h0 h1 h2 h3 h4]
    go_wp2_with fail
    rw [HW.out]
    refine (clean_st col w1 b bd N x s H1.out HI.out ⟨by have := HB.out.use; omega, by have := HB.out.tag; omega⟩).mono ?_
    rintro e w2 ⟨y2, rfl, hst2, hc2, _⟩
    have Hst2 := Lib.hid hst2
    have HC2 := Lib.hid (HC1.out.two (H1.out.chg1 hc2))
    clear hst2 hc2
    go_wp2_with fail
    go_ret
    rw [He.out]
    exact ⟨col, y2, rfl, Hst2.out.moreN (by omega), HC2.out, .refl⟩
  rcases Bool.eq_false_or_eq_true (z.word.toList == [100, 105, 115, 112, 97, 116, 99, 104]) with h5 | h5
  · have He : Hid (stepM s z = (s.dispatch.1, 0)) := show _ = _ by unfold stepM; rw [cmd_dispatch h0 h1 h2 h3 h4 h5]
    go_wp2_with fail
    rw [HW.out]
    refine (dispatch_any col w1 b bd N x s H1.out HI.out).mono ?_
    rintro e w2 ⟨c2, y2, rfl, hst2, hc2, hr2⟩
    have Hst2 := Lib.hid hst2
    have HC2 := Lib.hid (HC1.out.two hc2)
    have HR2 := Lib.hid hr2
    clear hst2 hc2 hr2
    go_wp2_with fail
    go_ret
    rw [He.out]
    exact ⟨c2, y2, rfl, Hst2.out.moreN (by omega), HC2.out, fun k hk => HR2.out.old k (Nat.lt_of_lt_of_le hk HB1.out.size), fun k hk => (HR2.out.grow k hk).imp id (fun h1 => Nat.le_trans HB1.out.size h1)⟩
  rcases Bool.eq_false_or_eq_true (z.word.toList == [101, 110, 100]) with h6 | h6
  · have He : Hid (stepM s z = s.end_ z.a false) := show _ = _ by unfold stepM; rw [cmd_end_ h0 h1 h2 h3 h4 h5 h6]
    have h9 : (z.word.toList == [102, 97, 117, 108, 116]) = false := by have e := eq_of_beq h6; rw [e]; rfl
    go_wp2_with fail
    rw [HW.out]
    refine (end_any col w1 b bd N x s z.a false K H1.out HI.out HB.out k0 (by omega) hN).mono ?_
    rintro e w2 ⟨c2, y2, rfl, hst2, hc2, hr2⟩
    have Hst2 := Lib.hid hst2
    have HC2 := Lib.hid (HC1.out.two hc2)
    have HR2 := Lib.hid hr2
    clear hst2 hc2 hr2
    go_wp2_with fail
    go_ret
    rw [He.out]
    exact ⟨c2, y2, rfl, Hst2.out, HC2.out, fun k hk => HR2.out.old k (Nat.lt_of_lt_of_le hk HB1.out.size), fun k hk => (HR2.out.grow k hk).imp id (fun h1 => Nat.le_trans HB1.out.size h1)⟩
  rcases Bool.eq_false_or_eq_true (z.word.toList == [102, 97, 117, 108, 116]) with h7 | h7
  · have He : Hid (stepM s z = s.end_ z.a true) := show _ = _ by unfold stepM; rw [cmd_fault h0 h1 h2 h3 h4 h5 h6 h7]
    go_wp2_with fail
    rw [HW.out]
    refine (end_any col w1 b bd N x s z.a true K H1.out HI.out HB.out k0 (by omega) hN).mono ?_
    rintro e w2 ⟨c2, y2, rfl, hst2, hc2, hr2⟩
    have Hst2 := Lib.hid hst2
    have HC2 := Lib.hid (HC1.out.two hc2)
    have HR2 := Lib.hid hr2
    clear hst2 hc2 hr2
    go_wp2_with fail
    go_ret
    rw [He.out]
    exact ⟨c2, y2, rfl, Hst2.out, HC2.out, fun k hk => HR2.out.old k (Nat.lt_of_lt_of_le hk HB1.out.size), fun k hk => (HR2.out.grow k hk).imp id (fun h1 => Nat.le_trans HB1.out.size h1)⟩
  rcases Bool.eq_false_or_eq_true (z.word.toList == [114, 111, 117, 110, 100]) with h8 | h8
  · have He : Hid (stepM s z = (s.round, 0)) := show _ = _ by unfold stepM; rw [cmd_round h0 h1 h2 h3 h4 h5 h6 h7 h8]
    go_wp2_with fail
    rw [HW.out]
    refine (round_any col w1 b bd N x s K H1.out HI.out HB.out k0 hK hN).mono ?_
    rintro e w2 ⟨c2, y2, rfl, hst2, hc2, hr2⟩
    have Hst2 := Lib.hid hst2
    have HC2 := Lib.hid (HC1.out.two hc2)
    have HR2 := Lib.hid hr2
    clear hst2 hc2 hr2
    go_wp2_with fail
    go_ret
    rw [He.out]
    exact ⟨c2, y2, rfl, Hst2.out, HC2.out, fun k hk => HR2.out.old k (Nat.lt_of_lt_of_le hk HB1.out.size), fun k hk => (HR2.out.grow k hk).imp id (fun h1 => Nat.le_trans HB1.out.size h1)⟩
  have He : Hid (stepM s z = (s, 0)) := show _ = _ by unfold stepM; rw [cmd_other h0 h1 h2 h3 h4 h5 h6 h7 h8]
  go_wp2_with fail
  rw [HW.out]
  go_ret
  rw [He.out]
  exact ⟨col, x, rfl, H1.out.moreN (by omega), HC1.out, .refl⟩
end Go.Proofs.Ytojmnfelecnenaa
namespace Go.Proofs.Ytojmnfelecnenaa
set_option linter.unusedSimpArgs false
set_option linter.unusedVariables false
open Go.RowKit Go.Sort

/-- A stack of the law's own, and blocks of its own that nobody else writes. -/
structure Lst (W0 w : World) (col : Nat → Nat) (b bd N : Nat) (K : Int) (x : Sv) (s : St) (l : List (Nat × TypeId × Array Value)) : Prop where
  st : StAt Ts col w b bd N x s
  inv : Inv s
  bnd : Bd K s
  k0 : 0 ≤ K
  below : Below W0.heap.size W0 w
  own : ∀ k, Fl col k → W0.heap.size ≤ k
  row : ∀ y ∈ l, w.heap[y.1]? = some (.cells y.2.2 y.2.1 (0, 0)) ∧ W0.heap.size ≤ y.1 ∧ col y.1 = 0
section
variable {W0 w w' : World} {col col' : Nat → Nat} {b bd N M : Nat} {K L : Int} {x y : Sv} {s t : St} {l : List (Nat × TypeId × Array Value)}
theorem Lst.step (h : Lst W0 w col b bd N K x s l) (hb : Below w.heap.size w w') : Lst W0 w' col b bd N K x s l :=
  ⟨h.st.below hb, h.inv, h.bnd, h.k0, h.below.trans (hb.mono h.below.size), h.own, fun y hy => ⟨(hb.block _ (Array.getElem?_eq_some_iff.1 (h.row y hy).1).1).trans (h.row y hy).1, (h.row y hy).2⟩⟩
theorem Lst.alloc (h : Lst W0 w col b bd N K x s l) (n : Nat) (cs : Array Value) (A : TypeId) (hn : w.heap.size = n) : Lst W0 (w.alloc (.cells cs A)) col b bd N K x s ((n, A, cs) :: l) := by
  subst hn
  have h1 := h.step ((Below.refl w.heap.size w).alloc (Nat.le_refl _) (.cells cs A))
  refine ⟨h1.st, h1.inv, h1.bnd, h1.k0, h1.below, h1.own, fun y hy => ?_⟩
  rcases List.mem_cons.1 hy with rfl | hy
  · exact ⟨heap_alloc_new _ _, h.below.size, h.st.s0 _ (Nat.le_refl _)⟩
  · exact h1.row y hy
theorem Lst.call (h : Lst W0 w col b bd N K x s l) (ha : StAt Ts col' w' b bd M y t) (hI : Inv t) (hB : Bd L t) (hL : 0 ≤ L) (hc : Chg (Fl col) w w') (hr : Rec col col' w w') : Lst W0 w' col' b bd M L y t l := by
  refine ⟨ha, hI, hB, hL, h.below.trans ((hc.below h.own h.below.size)), fun k hk => (hr.grow k hk).elim (h.own k) (fun h1 => Nat.le_trans h.below.size h1), fun z hz => ?_⟩
  obtain ⟨h1, h2, h3⟩ := h.row z hz
  have hlt := (Array.getElem?_eq_some_iff.1 h1).1
  exact ⟨(hc.block _ hlt (fun hf => hf.1 h3)).trans h1, h2, by rw [hr.old _ hlt]; exact h3⟩
theorem Lst.drop (h : Lst W0 w col b bd N K x s l) : Lst W0 w col b bd N K x s [] := ⟨h.st, h.inv, h.bnd, h.k0, h.below, h.own, by simp⟩
theorem Lst.tail {a : Nat × TypeId × Array Value} (h : Lst W0 w col b bd N K x s (a :: l)) : Lst W0 w col b bd N K x s l := ⟨h.st, h.inv, h.bnd, h.k0, h.below, h.own, fun y hy => h.row y (List.mem_cons_of_mem _ hy)⟩
theorem Lst.cell (h : Lst W0 w col b bd N K x s l) (i : Nat) {n : Nat} {T : TypeId} {cs : Array Value} (hi : l[i]? = some (n, T, cs)) (k : Nat) : w.cell? ⟨n, k, none⟩ = cs[k]? := cell_of_row _ _ k _ _ _ (h.row _ (List.mem_of_getElem? hi)).1
theorem Lst.five {v : Value} {e : Ending} (h : Lst W0 w col b bd N K x s l) (hr : Ret5 Ts col w b bd M t v e w') (hI : Inv t) (hB : Bd L t) (hL : 0 ≤ L) : e = .returned v ∧ ∃ col' y, Lst W0 w' col' b bd M L y t l := by
  obtain ⟨col', y, he, hst, hc, hrc⟩ := hr
  exact ⟨he, col', y, h.call hst hI hB hL hc hrc⟩
theorem Lst.two {v : Value} {e : Ending} (h : Lst W0 w col b bd N K x s l) (hr : Ret2 Ts col w b bd N x t v e w') (hI : Inv t) (hB : Bd L t) (hL : 0 ≤ L) : e = .returned v ∧ ∃ col' y, Lst W0 w' col' b bd N L y t l := by
  obtain ⟨y, he, hst, hc, _⟩ := hr
  exact ⟨he, col, y, h.call hst hI hB hL (h.st.chg1 hc) .refl⟩
theorem Lst.four {v : Value} {e : Ending} (h : Lst W0 w col b bd N K x s l) (hr : Ret4 Ts col w b bd N x t v e w') (hI : Inv t) (hB : Bd L t) (hL : 0 ≤ L) : e = .returned v ∧ ∃ col' y, Lst W0 w' col' b bd N L y t l := by
  obtain ⟨y, he, hst, hc, _⟩ := hr
  exact ⟨he, col, y, h.call hst hI hB hL hc .refl⟩
end
def lightSp (l : List Sp) (most : Nat) : Bool := decide (l.length ≤ most) && l.all (fun z => decide (z.word.size ≤ 20) && decide (z.data.size ≤ 20))
set_option maxRecDepth 100000 in
set_option maxHeartbeats 1000000 in
theorem lightsteps_any (S : Nat → Prop) (l : List Sp) (v : Value) (most : Nat) (w : World) (h : StepsAt S w v l) (hm : most ≤ 1000) :
    Calls Try.prog 15 #[v, .int .i64 (most : Int)] w (RetSame (.bool (lightSp l most)) w) := by
  obtain ⟨A, cap, rfl, hcl, hcap⟩ := h.form
  have H := Lib.hid h
  unfold maxLen at hcap
  clear h
  by_cases hl : l.length ≤ most
  · have hl2 : ¬ (most : Int) < (l.length : Int) := by omega
    have Hl := Lib.hid hl
    go_enter Try.func15, Try.ntmps15
    go_wp2_with fail
    go_loop [5] (fun i => ∃ k : Nat, k ≤ l.length ∧ i = .int .i64 k ∧ Hid ((l.take k).all (fun z => decide (z.word.size ≤ 20) && decide (z.data.size ≤ 20)) = true)) (fun i => l.length - (intOf i).toNat)
    case atStart => exact ⟨0, by omega, rfl, rfl⟩
    case round =>
      obtain ⟨k, hk, rfl, hall⟩ := hrel
      by_cases hlt : k < l.length
      · have hlt2 : (k : Int) < (l.length : Int) := by omega
        obtain ⟨g, off, rfl, _, hgl, hc⟩ := H.out.at_ (by omega)
        have hx : l[k]? = some l[k] := List.getElem?_eq_getElem hlt
        obtain ⟨hok, c0, c1, c2, c3⟩ := hc k _ hx
        have hw := hok.word
        have hd := hok.data
        unfold maxLen at hw hd
        clear hc hok
        have Hx := Lib.hid hx
        clear hx
        generalize l[k] = z at *
        by_cases h1 : z.word.size ≤ 20
        · have h1' : ¬ (20 : Int) < (z.word.size : Int) := by omega
          by_cases h2 : z.data.size ≤ 20
          · have h2' : ¬ (20 : Int) < (z.data.size : Int) := by omega
            go_wp2_with fail
            go_round
            case rel => exact ⟨k + 1, by omega, by go_num, by show _ = true; rw [all_take_succ _ _ _ _ Hx.out, hall.out]; simp [h1, h2]⟩
            case measure => simp [intOf]; omega
          · have h2' : (20 : Int) < (z.data.size : Int) := by omega
            have e : Hid (lightSp l most = false) := show _ = _ by unfold lightSp; rw [all_not _ _ _ _ Hx.out (by simp [h2])]; simp
            go_wp2_with fail
            go_ret
            rw [e.out]
            exact ⟨rfl, rfl⟩
        · have h1' : (20 : Int) < (z.word.size : Int) := by omega
          have e : Hid (lightSp l most = false) := show _ = _ by unfold lightSp; rw [all_not _ _ _ _ Hx.out (by simp [h1])]; simp
          go_wp2_with fail
          go_ret
          rw [e.out]
          exact ⟨rfl, rfl⟩
      · have hlt2 : ¬ (k : Int) < (l.length : Int) := by omega
        have e : Hid (lightSp l most = true) := show _ = _ by unfold lightSp; rw [all_end _ _ _ (by omega) hall.out]; simp [Hl.out]
        go_wp2_with fail
        go_ret
        rw [e.out]
        exact ⟨rfl, rfl⟩
  · have hl2 : (most : Int) < (l.length : Int) := by omega
    have e : Hid (lightSp l most = false) := show _ = _ by unfold lightSp; simp [hl]
    go_enter Try.func15, Try.ntmps15
    go_wp2_with fail
    go_ret
    rw [e.out]
    exact ⟨rfl, rfl⟩
/-- A new stack over a new disk. -/
def st0 : St := St.new Dv.new
theorem inv0 : Inv st0 := Inv.new DvOk.new rfl
theorem bd0 : Bd 0 st0 := ⟨by decide, by decide, by decide⟩
theorem Lst.begin {W0 w w1 w2 : World} {b : Nat} {col : Nat → Nat} {y : Sv} (hb : Below W0.heap.size W0 w) (hd : DevAt TDp TPp (fun _ => False) (fun k => k = w.heap.size) w1 w.heap.size Dv.new) (hb1 : Below w.heap.size w w1) (hs1 : w1.heap.size = w.heap.size + 1)
    (hst : StAt Ts col w2 b w.heap.size 0 y (St.new Dv.new)) (hb2 : Below w1.heap.size w1 w2) (hfl : ∀ k, Fl col k → k = w.heap.size ∨ w1.heap.size ≤ k) : Lst W0 w2 col b w.heap.size 0 0 y st0 [] :=
  ⟨hst, inv0, bd0, Int.le_refl _, hb.trans ((hb1.trans (hb2.mono hb1.size)).mono hb.size), fun k hk => by have := hb.size; rcases hfl k hk with h | h <;> omega, by simp⟩
def wkX : ByteArray := ⟨#[120]⟩
def wk1 : St := (st0.ask 0 2 3 wkX).1
def wk2 : St := (wk1.ask 1 1 3 noB).1
theorem wk_e1 : (st0.ask 0 2 3 wkX).2 = 0 := by decide
theorem wk_e2 : (wk1.ask 1 1 3 noB).2 = 0 := by decide
theorem wk_got : wk2.got 1 = (wkX, 0) := by rfl
theorem wk_dirty : dirtyB wk2.bufs = 1 := by rfl
end Go.Proofs.Ytojmnfelecnenaa
namespace Go.Proofs.Ytojmnfelecnenaa
set_option linter.unusedSimpArgs false
set_option linter.unusedVariables false
open Go.RowKit Go.Sort

set_option maxRecDepth 100000 in
set_option maxHeartbeats 2000000 in
theorem works_any (w : World) : Calls Try.prog 14 #[] w (Ret (.bool true) w) := by
  go_enter Try.func14, Try.ntmps14
  go_wp2_with fail
  refine (devnew_any w).mono ?_
  rintro e w1 ⟨rfl, hd1, hb1, hs1⟩
  go_wp2_with fail
  refine (stnew_any (fun _ => False) (fun k => k = w.heap.size) w1 w.heap.size Dv.new (hd1 _) (fun k hk => by omega) (fun k hk => hk.elim) (fun k hk => hk.elim)).mono ?_
  rintro e w2 ⟨b, col, y, rfl, hst, hb2, hfl, _⟩
  have H2 := Lib.hid (Lst.begin (Below.refl _ _) (hd1 _) hb1 hs1 hst hb2 hfl)
  obtain ⟨bd, hbd⟩ : ∃ n, w.heap.size = n := ⟨_, rfl⟩
  clear hd1 hb1 hs1 hst hb2 hfl
  go_wp2_with fail
  refine (ask_any col w2 b _ 0 y st0 0 2 3 wkX 0 H2.out.st H2.out.inv H2.out.bnd (by omega) (by omega)).mono ?_
  rintro e w3 hr
  obtain ⟨rfl, col3, y3, h3⟩ := H2.out.five (t := wk1) hr (inv0.ask_ ..) (bd0.ask (by omega) ..) (by omega)
  have H3 := Lib.hid h3
  rw [wk_e1]
  clear hr h3
  go_wp2_with fail
  refine (ask_any col3 w3 b _ 0 y3 wk1 1 1 3 noB _ H3.out.st H3.out.inv H3.out.bnd (by omega) (by omega)).mono ?_
  rintro e w4 hr
  obtain ⟨rfl, col4, y4, h4⟩ := H3.out.five (t := wk2) hr (H3.out.inv.ask_ ..) (H3.out.bnd.ask (by omega) ..) (by omega)
  have H4 := Lib.hid h4
  rw [wk_e2]
  clear hr h4
  go_wp2_with fail
  refine (got_any col4 w4 b _ 0 y4 wk2 1 H4.out.st (by omega)).mono ?_
  rintro e w5 ⟨rfl, hb5⟩
  rw [wk_got]
  have H5 := Lib.hid (H4.out.step hb5)
  clear hb5
  unfold wkX
  go_wp2_with fail
  refine (stdirty_any col4 w5 b _ 0 y4 wk2 H5.out.st H5.out.inv.len8).mono ?_
  rintro e w6 ⟨rfl, hb6⟩
  rw [wk_dirty]
  have H6 := Lib.hid (H5.out.step hb6)
  clear hb6
  go_wp2_with fail
  go_ret
  exact ⟨rfl, H6.out.below⟩
theorem Lst.cast' {W0 w : World} {col : Nat → Nat} {b bd N M : Nat} {K L : Int} {x : Sv} {s : St} {l : List (Nat × TypeId × Array Value)} (h : Lst W0 w col b bd N K x s l) (hn : N ≤ M) (hk : K ≤ L) : Lst W0 w col b bd M L x s l :=
  ⟨h.st.moreN hn, h.inv, h.bnd.mono hk, Int.le_trans h.k0 hk, h.below, h.own, h.row⟩
/-- It returns a stack behind the steps, its disk, and whether the steps are few. -/
def RetStepped (w : World) (l : List Sp) : Ending → World → Prop := fun e w' =>
  (lightSp l 120 = false ∧ e = .returned (.tuple #[.pointer none, .pointer none, .bool false]) ∧ w = w') ∨
  (lightSp l 120 = true ∧ ∃ (b bd : Nat) (col : Nat → Nat) (y : Sv), e = .returned (.tuple #[.pointer (some ⟨b, 0, none⟩), .pointer (some ⟨bd, 0, none⟩), .bool true]) ∧ Lst w w' col b bd 120 1800 y (stepsM st0 l) [])
theorem lightSp_len {l : List Sp} {m : Nat} (h : lightSp l m = true) : l.length ≤ m := by
  unfold lightSp at h
  rw [Bool.and_eq_true, decide_eq_true_eq] at h
  exact h.1
theorem StepsAt.cells {S : Nat → Prop} {w : World} {A : Option Addr} {n cap k : Nat} {l : List Sp} (h : StepsAt S w (.slice A n cap) l) (hk : k < l.length) : ∃ (g off : Nat) (z : Sp), A = some ⟨g, off, none⟩ ∧ g < w.heap.size ∧ l[k]? = some z ∧
    w.cell? ⟨g, off + k * 4, none⟩ = some (.string z.word) ∧ w.cell? ⟨g, off + k * 4 + 1, none⟩ = some (.int .i64 z.a) ∧ w.cell? ⟨g, off + k * 4 + 2, none⟩ = some (.int .i64 z.b) ∧ w.cell? ⟨g, off + k * 4 + 3, none⟩ = some (.string z.data) := by
  obtain ⟨g, off, e, _, hgl, hc⟩ := h.at_ (by omega)
  have hx : l[k]? = some l[k] := List.getElem?_eq_getElem hk
  obtain ⟨_, c0, c1, c2, c3⟩ := hc k _ hx
  exact ⟨g, off, _, e, hgl, hx, c0, c1, c2, c3⟩
set_option maxRecDepth 100000 in
set_option maxHeartbeats 2000000 in
theorem stepped_any (S : Nat → Prop) (l : List Sp) (v : Value) (w : World) (h : StepsAt S w v l) :
    Calls Try.prog 24 #[v] w (RetStepped w l) := by
  obtain ⟨A, cap, rfl, hcl, hcap⟩ := h.form
  have H := Lib.hid h
  unfold maxLen at hcap
  clear h
  go_enter Try.func24, Try.ntmps24
  go_wp2_with fail
  refine (lightsteps_any S l _ 120 w H.out (by omega)).mono ?_
  rintro e w1 ⟨rfl, rfl⟩
  cases hl : lightSp l 120 with
  | false =>
    have Hl := Lib.hid hl
    clear hl
    go_wp2_with fail
    go_ret3
    exact .inl ⟨Hl.out, rfl, rfl⟩
  | true =>
    have hlen := lightSp_len hl
    have Hl := Lib.hid hl
    clear hl
    go_wp2_with fail
    refine (devnew_any w).mono ?_
    rintro e w1 ⟨rfl, hd1, hb1, hs1⟩
    go_wp2_with fail
    refine (stnew_any (fun _ => False) (fun k => k = w.heap.size) w1 w.heap.size Dv.new (hd1 _) (fun k hk => by omega) (fun k hk => hk.elim) (fun k hk => hk.elim)).mono ?_
    rintro e w2 ⟨b, col, y, rfl, hst, hb2, hfl, _⟩
    have hL := Lst.begin (Below.refl _ _) (hd1 _) hb1 hs1 hst hb2 hfl
    obtain ⟨bd, hbd⟩ : ∃ n, w.heap.size = n := ⟨_, rfl⟩
    rw [hbd] at hL ⊢
    have H2 := Lib.hid hL
    clear hd1 hb1 hs1 hst hb2 hfl hL hbd
    go_wp2_with fail
    go_loopw [7] (fun i wr => ∃ (k : Nat) (col : Nat → Nat) (y : Sv), k ≤ l.length ∧ i = .int .i64 k ∧ Hid (Lst w wr col b bd k (15 * (k : Int)) y (stepsM st0 (l.take k)) [])) (fun i _ => l.length - (intOf i).toNat)
    case atStart => exact ⟨0, col, y, by omega, rfl, H2.out⟩
    case round =>
      obtain ⟨k, col, y, hk, rfl, HL⟩ := hrel
      by_cases hlt : k < l.length
      · have hlt2 : (k : Int) < (l.length : Int) := by omega
        obtain ⟨g, off, z, rfl, hgl, hx, c0, c1, c2, c3⟩ := (H.out.below HL.out.below).cells hlt
        have Hx := Lib.hid hx
        clear hx
        go_wp2_with fail
        refine (step_any col wr b bd k y _ z (15 * (k : Int)) HL.out.st HL.out.inv HL.out.bnd (by omega) (by omega) (by omega)).mono ?_
        rintro e w3 hr
        obtain ⟨rfl, col3, y3, h3⟩ := HL.out.five hr (HL.out.inv.stepM z) (HL.out.bnd.stepM (by omega) HL.out.inv z) (by omega)
        rw [← stepsM_succ _ Hx.out] at h3
        have H3 : Hid (Lst w w3 col3 b bd (k + 1) (15 * ((k + 1 : Nat) : Int)) y3 (stepsM st0 (l.take (k + 1))) []) := by
          have e : 15 * (k : Int) + 15 = 15 * ((k + 1 : Nat) : Int) := by omega
          rw [← e]; exact h3
        clear hr h3 c0 c1 c2 c3
        go_wp2_with fail
        go_roundw
        case rel => exact ⟨k + 1, col3, y3, by omega, by go_num, H3.out⟩
        case measure => simp [intOf]; omega
      · obtain rfl : k = l.length := by omega
        have hlt2 : ¬ (l.length : Int) < (l.length : Int) := by omega
        have HE : Hid (l.take l.length = l) := List.take_length
        go_wp2_with fail
        go_ret3
        have h3 := HL.out
        rw [HE.out] at h3
        exact .inr ⟨Hl.out, b, bd, col, y, rfl, ⟨h3.st.moreN hlen, h3.inv, h3.bnd.mono (by omega), by omega, h3.below, h3.own, h3.row⟩⟩
end Go.Proofs.Ytojmnfelecnenaa
