/- The law TopFair: its walk. -/
import Derived.Test.YtfklcfpkbnddfaaLawTopElev
import Derived.Test.YtfklcfpkbnddfaaFair
namespace Go.Proofs.Ytfklcfpkbnddfaa
set_option linter.unusedSimpArgs false
set_option linter.unusedVariables false
open Go.RowKit Go.Sort

/-- A row of one request, known whole. -/
theorem rd_one {S : Nat → Prop} {w : World} {g : Nat} {T : TypeId} {c : Rc} (hS : S g) (h : w.heap[g]? = some (.cells #[.bool c.r.write, .int .i64 c.r.lo, .int .i64 c.r.many, c.dv, c.tv, .int .i64 c.r.born] T (0, 0))) :
    Rd S w 6 (.slice (some ⟨g, 0, none⟩) 1 1) 1 c.cells :=
  ⟨_, 1, rfl, Nat.le_refl _, by simp [maxLen], rfl, fun _ => ⟨g, 0, rfl, hS, fun j u hj => by rw [cell_of_row _ _ _ _ _ _ h, Nat.zero_add]; simpa [Rc.cells] using hj⟩⟩
theorem RcOk.one {S : Nat → Prop} {w : World} {c : Rc} (h : RcOk S w c) : ∀ u ∈ c.cells, u.oneCell' = true := by
  have := cells_one (cs := [c]) (S := S) (w := w) (by intro x hx; simp at hx; subst hx; exact h)
  simpa using this

abbrev rqC (r : Rq) (dv tv : Value) : Array Value := #[.bool r.write, .int .i64 r.lo, .int .i64 r.many, dv, tv, .int .i64 r.born]
/-- What the law's own variables hold: the request, the turn. -/
structure FairSt (w wr : World) (r : Rq) (dv tv : Value) (t : Tn) : Prop where
  below : Below w.heap.size w wr
  rq : wr.heap[w.heap.size]? = some (.cells (rqC r dv tv) 45 (0, 0))
  tb : wr.heap[w.heap.size + 1]? = some (.cells (tnCells t) 36 (0, 0))
  lt : w.heap.size + 1 < wr.heap.size
theorem FairSt.step {w wr w' : World} {r : Rq} {dv tv : Value} {t : Tn} (h : FairSt w wr r dv tv t) (hb : Below wr.heap.size wr w') : FairSt w w' r dv tv t :=
  ⟨h.below.trans (hb.mono h.below.size), (hb.block _ (by have := h.lt; omega)).trans h.rq, (hb.block _ h.lt).trans h.tb, by have := h.lt; have := hb.size; omega⟩
theorem FairSt.q0 {w wr : World} {r : Rq} {dv tv : Value} {t : Tn} (h : FairSt w wr r dv tv t) : wr.cell? ⟨w.heap.size, 0, none⟩ = some (.bool r.write) := cell_of_row _ _ 0 _ _ _ h.rq
theorem FairSt.c {w wr : World} {r : Rq} {dv tv : Value} {t : Tn} (h : FairSt w wr r dv tv t) : wr.cell? ⟨w.heap.size + 1, 0, none⟩ = some (.bool t.write) ∧ wr.cell? ⟨w.heap.size + 1, 1, none⟩ = some (.int .i64 t.gone) ∧ wr.cell? ⟨w.heap.size + 1, 2, none⟩ = some (.int .i64 t.starved) ∧ wr.cell? ⟨w.heap.size + 1, 3, none⟩ = some (.int .i64 t.wh) :=
  ⟨cell_of_row _ _ 0 _ _ _ h.tb, cell_of_row _ _ 1 _ _ _ h.tb, cell_of_row _ _ 2 _ _ _ h.tb, cell_of_row _ _ 3 _ _ _ h.tb⟩
theorem FairSt.f {w wr : World} {r : Rq} {dv tv : Value} {t : Tn} (h : FairSt w wr r dv tv t) : wr.frozen? ⟨w.heap.size + 1, 0, none⟩ = false ∧ wr.frozen? ⟨w.heap.size + 1, 1, none⟩ = false ∧ wr.frozen? ⟨w.heap.size + 1, 2, none⟩ = false ∧ wr.frozen? ⟨w.heap.size + 1, 3, none⟩ = false :=
  ⟨frozen_of_row _ _ 0 _ _ h.tb, frozen_of_row _ _ 1 _ _ h.tb, frozen_of_row _ _ 2 _ _ h.tb, frozen_of_row _ _ 3 _ _ h.tb⟩
theorem FairSt.put {w wr : World} {r : Rq} {dv tv : Value} {t : Tn} (h : FairSt w wr r dv tv t) (t' : Tn) : FairSt w ((((wr.setCell ⟨w.heap.size + 1, 0, none⟩ (.bool t'.write)).setCell ⟨w.heap.size + 1, 1, none⟩ (.int .i64 t'.gone)).setCell ⟨w.heap.size + 1, 2, none⟩ (.int .i64 t'.starved)).setCell ⟨w.heap.size + 1, 3, none⟩ (.int .i64 t'.wh)) r dv tv t' := by
  refine ⟨h.below.trans ((put_below _ wr t').mono (by omega)), (put_other _ wr t' _ (by omega)).trans h.rq, ?_, by simpa using h.lt⟩
  have h1 := heap_setCell_same _ _ 0 _ _ (.bool t'.write) h.tb
  have h2 := heap_setCell_same _ _ 1 _ _ (.int .i64 t'.gone) h1
  have h3 := heap_setCell_same _ _ 2 _ _ (.int .i64 t'.starved) h2
  have h4 := heap_setCell_same _ _ 3 _ _ (.int .i64 t'.wh) h3
  rw [h4]; rfl

/-- What the law asks of its inputs. -/
inductive FairIn (L : List Rq) (r : Rq) (t : Tn) (now : Int) : Prop
  | light (h : lightReqs L = false)
  | good (h : lightReqs L = true) (h : goodReqs L = false)
  | kind (h : lightReqs L = true) (h : goodReqs L = true) (h : r.write = false)
  | low (h : lightReqs L = true) (h : goodReqs L = true) (h : r.write = true) (h : now < 0)
  | high (h : lightReqs L = true) (h : goodReqs L = true) (h : r.write = true) (h : 0 ≤ now) (h : 1000000000 < now)
  | starved (h : lightReqs L = true) (h : goodReqs L = true) (h : r.write = true) (h : 0 ≤ now) (h : now ≤ 1000000000) (h : t.starved < 0)
  | gone (h : lightReqs L = true) (h : goodReqs L = true) (h : r.write = true) (h : 0 ≤ now) (h : now ≤ 1000000000) (h : 0 ≤ t.starved) (h : t.gone < 0)
theorem fair_in (L : List Rq) (r : Rq) (t : Tn) (now : Int) : FairIn L r t now ∨ (lightReqs L = true ∧ goodReqs L = true ∧ r.write = true ∧ 0 ≤ now ∧ now ≤ 1000000000 ∧ 0 ≤ t.starved ∧ 0 ≤ t.gone) := by
  cases g1 : lightReqs L with
  | false => exact .inl (.light g1)
  | true =>
    cases g2 : goodReqs L with
    | false => exact .inl (.good g1 g2)
    | true =>
      cases g3 : r.write with
      | false => exact .inl (.kind g1 g2 g3)
      | true =>
        rcases Int.lt_or_le now 0 with g4 | g4
        · exact .inl (.low g1 g2 g3 g4)
        · rcases Int.lt_or_le 1000000000 now with g5 | g5
          · exact .inl (.high g1 g2 g3 g4 g5)
          · rcases Int.lt_or_le t.starved 0 with g6 | g6
            · exact .inl (.starved g1 g2 g3 g4 g5 g6)
            · rcases Int.lt_or_le t.gone 0 with g7 | g7
              · exact .inl (.gone g1 g2 g3 g4 g5 g6 g7)
              · exact .inr ⟨rfl, rfl, rfl, g4, g5, g6, g7⟩

set_option maxRecDepth 100000 in
set_option maxHeartbeats 8000000 in
theorem topfair_good (cs : List Rc) (v : Value) (c : Rc) (t : Tn) (now : Int) (w : World) (h : Rd (fun _ => True) w 6 v cs.length (cs.flatMap Rc.cells)) (hok : ∀ x ∈ cs, RcOk (fun _ => True) w x) (hc : RcOk (fun _ => True) w c)
    (hlen : cs.length * 80 ≤ 140737488351232) (hst : i64 t.starved) :
    Calls Try.prog 13 #[v, rqV c.r c.dv c.tv, tnV t, .int .i64 now] w (Ret (.bool true) w) := by
  obtain ⟨i0, hi0, hz0, hz1, hz2⟩ := info_parts reqInfo
  have H := Lib.hid h
  obtain ⟨A, cap, rfl, h1, h2⟩ := h.form
  unfold maxLen at h2
  clear h
  have Hok := Lib.hid hok
  have Hc := Lib.hid hc
  have H1 := Lib.hid (cells_one hok)
  have H2 := Lib.hid hc.one
  obtain ⟨Ad, cd, e1, _, _⟩ := hc.data.form
  obtain ⟨At, ct, e2, _, _⟩ := hc.tags.form
  obtain ⟨r, dv, tv⟩ := c
  simp only at e1 e2 Hc H2 ⊢
  subst e1
  subst e2
  clear hok hc
  have Hst := Lib.hid hst
  clear hst
  go_enter Try.func13, Try.ntmps13
  go_wp2_with fail
  have hA := (Below.refl w.heap.size w).alloc (Nat.le_refl _) (Obj.cells #[.bool r.write, .int .i64 r.lo, .int .i64 r.many, .slice Ad r.data.length cd, .slice At r.tags.length ct, .int .i64 r.born] 45)
  have hbx := heap_alloc_new w (Obj.cells #[.bool r.write, .int .i64 r.lo, .int .i64 r.many, .slice Ad r.data.length cd, .slice At r.tags.length ct, .int .i64 r.born] 45)
  have hsz : (w.alloc (Obj.cells #[.bool r.write, .int .i64 r.lo, .int .i64 r.many, .slice Ad r.data.length cd, .slice At r.tags.length ct, .int .i64 r.born] 45)).heap.size = w.heap.size + 1 := by simp
  generalize w.alloc (Obj.cells #[.bool r.write, .int .i64 r.lo, .int .i64 r.many, .slice Ad r.data.length cd, .slice At r.tags.length ct, .int .i64 r.born] 45) = Wa at hA hbx hsz ⊢
  have hB := TnBox.start Wa t
  rw [hsz] at hB
  generalize Wa.alloc (Obj.cells #[Value.bool t.write, Value.int IntKind.i64 t.gone, Value.int IntKind.i64 t.starved, Value.int IntKind.i64 t.wh] 36) = Wb at hB ⊢
  refine (went_any _).mono ?_
  rintro e w1 ⟨rfl, hb1⟩
  have hB1 := Lib.hid (hB.step hb1)
  have hbx1 := Lib.hid ((hB1.out.below.block w.heap.size (by omega)).trans hbx)
  have hT : Below w.heap.size w w1 := hA.trans ((hB.below.mono (by omega)).trans (hb1.mono (by have := hB.below.size; omega)))
  have hsz1 := hB1.out.lt
  clear hb1 hB hbx hsz hA
  obtain ⟨⟨q0, _⟩, ⟨q1, _⟩, ⟨q2, _⟩, ⟨q3, _⟩, ⟨q4, _⟩, ⟨q5, _⟩⟩ := box6 hbx1.out
  have HQ := Lib.hid (And.intro q0 (And.intro q1 (And.intro q2 (And.intro q3 (And.intro q4 q5)))))
  go_wp2_with fail
  go_region_held3 (fun w' => w'.cell? ⟨w.heap.size, 0, none⟩ = some (.bool r.write) ∧ w'.cell? ⟨w.heap.size, 1, none⟩ = some (.int .i64 r.lo) ∧ w'.cell? ⟨w.heap.size, 2, none⟩ = some (.int .i64 r.many) ∧
      w'.cell? ⟨w.heap.size, 3, none⟩ = some (.slice Ad r.data.length cd) ∧ w'.cell? ⟨w.heap.size, 4, none⟩ = some (.slice At r.tags.length ct) ∧ w'.cell? ⟨w.heap.size, 5, none⟩ = some (.int .i64 r.born))
    (((with_reducible refine keep6 (W := w1) (B := w1.heap.size) ?hb (by omega) HQ.out); case hb => repeat (first | (with_reducible exact Below.refl _ _) | (with_reducible exact hZ2) | (with_reducible exact hZ1) | ((with_reducible refine Below.alloc ?_ ?hp _); case hp => first | (simp; done) | (exact hZ1.size)) | (with_reducible refine Below.drew ?_))))
    (first
      | ((refine step_append_rd (S := fun _ => True) _ (by rfl) (.const (.slice none 0 0)) (.tmp 20) _ (by rfl) w1.heap.size 45 i0 _ 6 80 Try.underlying34 hi0 hz0 hz1 hz2 rfl (by omega) (.slice none 0 0) 0 [] (by rfl) (World.ownsRow_nil _ _ _ _) (.slice A cs.length cap) cs.length (cs.flatMap Rc.cells) (by rfl) (H.out.below (hT.trans (Below.mono (by repeat (first | (with_reducible exact Below.refl _ _) | ((with_reducible refine Below.alloc ?_ ?hp _); case hp => simp) | (with_reducible refine Below.drew ?_))) hT.size))) H1.out (by simp only [maxLen]; omega) (by omega) (by simp) ?_; intro v1 w2 hown1 hg1 hat1; have hZ1 : Below w1.heap.size w1 w2 := Below.grown (by repeat (first | (with_reducible exact Below.refl _ _) | ((with_reducible refine Below.alloc ?_ ?hp _); case hp => simp) | (with_reducible refine Below.drew ?_))) hg1 (by simp) (fun k hk => by simp [Value.ownBlock] at hk)))
      | ((refine step_append_rd (S := fun _ => True) _ (by rfl) (.tmp 21) (.tmp 23) _ (by rfl) w1.heap.size 45 i0 _ 6 80 Try.underlying34 hi0 hz0 hz1 hz2 rfl (by omega) v1 (0 + cs.length) ([] ++ cs.flatMap Rc.cells) (by rfl) (hown1.alloc _) (.slice (some ⟨w2.heap.size, 0, none⟩) 1 1) 1 (Rc.cells ⟨r, .slice Ad r.data.length cd, .slice At r.tags.length ct⟩) (by rfl) (rd_one trivial (heap_alloc_new w2 (Obj.cells #[.bool r.write, .int .i64 r.lo, .int .i64 r.many, .slice Ad r.data.length cd, .slice At r.tags.length ct, .int .i64 r.born] 45))) H2.out (by simp only [maxLen]; omega) (by omega) (by have := hZ1.size; simp; omega) ?_; intro v2 w3 hown2 hg2 hat2; have hZ2 : Below w1.heap.size w1 w3 := Below.grown (by repeat (first | (with_reducible exact Below.refl _ _) | (with_reducible exact hZ1) | ((with_reducible refine Below.alloc ?_ ?hp _); case hp => first | (simp; done) | (exact hZ1.size)) | (with_reducible refine Below.drew ?_))) hg2 (by simp; have := hZ1.size; omega) (fun k hk => (hown1.lt k hk).1)))
      | ((refine step_append_rd (S := fun _ => True) _ (by rfl) (.tmp 21) (.tmp 23) _ (by rfl) w1.heap.size 45 i0 _ 6 80 Try.underlying34 hi0 hz0 hz1 hz2 rfl (by omega) v1 (0 + cs.length) ([] ++ cs.flatMap Rc.cells) (by rfl) hown1 (.slice (some ⟨w1.heap.size, 0, none⟩) 1 1) 1 (Rc.cells ⟨r, .slice Ad r.data.length cd, .slice At r.tags.length ct⟩) (by rfl) (rd_one trivial ((hg1.block w1.heap.size (by simp) (by simp [Value.ownBlock])).trans (heap_alloc_new w1.drew (Obj.cells #[.bool r.write, .int .i64 r.lo, .int .i64 r.many, .slice Ad r.data.length cd, .slice At r.tags.length ct, .int .i64 r.born] 45)))) H2.out (by simp only [maxLen]; omega) (by omega) (hZ1.size) ?_; intro v2 w3 hown2 hg2 hat2; have hZ2 : Below w1.heap.size w1 w3 := Below.grown hZ1 hg2 (hZ1.size) (fun k hk => (hown1.lt k hk).1))))
  all_goals
    have hF : FairSt w w3 r (.slice Ad r.data.length cd) (.slice At r.tags.length ct) t := FairSt.step (wr := w1) ⟨hT, hbx1.out, hB1.out.b1, hB1.out.lt⟩ hZ2
    have HO : Hid (ReqsOwn (fun b => b ≠ w.heap.size ∧ b ≠ w.heap.size + 1) w1.heap.size w3 v2 (cs.map (·.r) ++ [r])) := by
      refine ⟨cs ++ [⟨r, .slice Ad r.data.length cd, .slice At r.tags.length ct⟩], by simp, ?_, fun x hx => ?_⟩
      · rw [List.length_append, List.flatMap_append]
        simpa using hown2
      · rcases List.mem_append.1 hx with h | h
        · exact ((Hok.out x h).lt.more (fun b hb => by have := hb.2; have := hT.size; omega)).below hF.below
        · simp at h; subst h; exact (Hc.out.lt.more (fun b hb => by have := hb.2; have := hT.size; omega)).below hF.below
    have HL := Lib.hid (HO.out.at_ (fun b hb => by omega))
    clear hZ1 hZ2 hown1 hown2 hg1 hg2 hat1 hat2 hbx1 hB1
    rcases fair_in (cs.map (·.r) ++ [r]) r t now with hbad | ⟨g1, g2, g3, g4, g5, g6, g7⟩
    · rcases hbad with ⟨g1⟩ | ⟨g1, g2⟩ | ⟨g1, g2, g3⟩ | ⟨g1, g2, g3, g4⟩ | ⟨g1, g2, g3, g4, g5⟩ | ⟨g1, g2, g3, g4, g5, g6⟩ | ⟨g1, g2, g3, g4, g5, g6, g7⟩
      all_goals
        go_wp2_with (first
        | (go_at_call 23; refine (lightreqs_any _ (cs.map (·.r) ++ [r]) _ _ HL.out).mono ?_; rintro e w4 ⟨rfl, hb4⟩; have hF4 := hF.step hb4; have q0 := hF4.q0; have HL4 := Lib.hid (HL.out.below hb4))
        | (go_at_call 24; refine (goodreqs_any _ (cs.map (·.r) ++ [r]) _ _ HL4.out).mono ?_; rintro e w5 ⟨rfl, hb5⟩; have hF5 := hF4.step hb5; have q0 := hF5.q0; obtain ⟨d0, d1, d2, d3⟩ := hF5.c; have HL5 := Lib.hid (HL4.out.below hb5)))
        go_ret
        exact ⟨rfl, by first | exact hF5.below | exact hF4.below⟩
    · have hcl : cs.length ≤ 9 := by have := light_len g1; simp at this; omega
      have f4 : decide (now < 0) = false := by simp; omega
      have f5 : decide (1000000000 < now) = false := by simp; omega
      have f6 : decide (t.starved < 0) = false := by simp; omega
      have f7 : decide (t.gone < 0) = false := by simp; omega
      have G2 := Lib.hid g2
      have G3 := Lib.hid g3
      have Hlen1 : Hid ((cs.map (·.r) ++ [r]).length = cs.length + 1) := by show _ = _; simp
      go_wp2_with (first
          | (go_at_call 23; refine (lightreqs_any _ (cs.map (·.r) ++ [r]) _ _ HL.out).mono ?_; rintro e w4 ⟨rfl, hb4⟩; have hF4 := hF.step hb4; have q0 := hF4.q0; have HL4 := Lib.hid (HL.out.below hb4))
          | (go_at_call 24; refine (goodreqs_any _ (cs.map (·.r) ++ [r]) _ _ HL4.out).mono ?_; rintro e w5 ⟨rfl, hb5⟩; have hF5 := hF4.step hb5; have q0 := hF5.q0; obtain ⟨d0, d1, d2, d3⟩ := hF5.c; have HL5 := Lib.hid (HL4.out.below hb5)))
      have HR := Lib.hid (show ReqsAt (fun _ => True) w (.slice A cs.length cap) (cs.map (·.r)) from ⟨cs, rfl, H.out, Hok.out⟩)
      have HR5 := Lib.hid (HR.out.below hF5.below)
      clear d0 d1 d2 d3 q0 q1 q2 q3 q4 q5 g2 g3 f4 f5 f6 f7
      go_loop [11] (fun i => ∃ k : Nat, k ≤ cs.length ∧ i = .int .i64 k) (fun i => cs.length - (intOf i).toNat)
      case atStart => exact ⟨0, by omega, rfl⟩
      case round =>
        obtain ⟨k, hk, rfl⟩ := hrel
        by_cases hlt : k < cs.length
        · obtain ⟨b, off, rfl, _, hbl, hcc⟩ := HR5.out.at_ (by simp; omega)
          have hkl : k < (cs.map (·.r)).length := by simpa using hlt
          have hx : (cs.map (·.r))[k]? = some (cs.map (·.r))[k] := List.getElem?_eq_getElem hkl
          obtain ⟨_, _, _, _, _, k0, _⟩ := hcc k _ hx
          clear hcc hx
          generalize (cs.map (·.r))[k] = rk at k0
          have hki : (k : Int) < (cs.length : Int) := by omega
          cases hw : rk.write with
          | true =>
            rw [hw] at k0
            go_wp2
            go_ret
            exact ⟨rfl, hF5.below⟩
          | false =>
            rw [hw] at k0
            go_wp2
            go_round
            case rel => exact ⟨k + 1, by omega, by go_num⟩
            case measure => simp [intOf]; omega
        · go_wp2_with fail
          obtain ⟨wo, rfl⟩ : ∃ wo : World, wo = w5 := ⟨_, rfl⟩
          go_loopw [10, 12, 13, 14, 15, 16] (fun lv n _ _ _ _ wr => ∃ (k : Nat) (m : List Rq) (t' : Tn), n = .int .i64 k ∧ Hid (goodReqs m = true) ∧ Hid (ReqsAt (fun b => b ≠ w.heap.size ∧ b ≠ w.heap.size + 1) wr lv m) ∧
              Hid (FairSt w wr r (.slice Ad r.data.length cd) (.slice At r.tags.length ct) t') ∧ Hid (∃ x ∈ m, x.write = true) ∧ Hid (0 ≤ t'.starved ∧ i64 t'.starved) ∧ Hid (fairM t' + k ≤ 8) ∧ Hid (m.length = cs.length + 1) ∧ k ≤ 8)
            (fun _ n _ _ _ _ _ => 10 - (intOf n).toNat)
          case atStart =>
            have hfs := fair_start t g6
            exact ⟨0, _, t, rfl, G2, HL5, hF5, ⟨r, by simp, G3.out⟩, ⟨g6, Hst.out⟩, (by show _ ≤ _; omega), Hlen1, by omega⟩
          case round =>
            obtain ⟨k2, m, t', rfl, Hg, Hm, HF, Hw, Hs, Hf, Hml, hk2⟩ := hrel
            have hne : m ≠ [] := by obtain ⟨x, hx, _⟩ := Hw.out; exact List.ne_nil_of_mem hx
            obtain ⟨A', cap', rfl, c1, c2⟩ := Hm.out.form
            unfold maxLen at c2
            have hmlen := Hml.out
            obtain ⟨j, rj, t'', hn⟩ := next_is t' now Hg.out hne
            have hjm := hn.lt
            have Hn := Lib.hid hn
            have env : Hid (nextV m t' now = .tuple #[.int .i64 (j : Int), tnV t'']) := by show _ = _; unfold nextV; rw [hn.eq]
            clear hn
            have Hml2 := Lib.hid hmlen
            have hmb : m.length ≤ 10 := by omega
            clear hmlen
            obtain ⟨⟨d0, d1, d2, d3⟩⟩ : Nonempty (wr.cell? ⟨w.heap.size + 1, 0, none⟩ = some (.bool t'.write) ∧ wr.cell? ⟨w.heap.size + 1, 1, none⟩ = some (.int .i64 t'.gone) ∧ wr.cell? ⟨w.heap.size + 1, 2, none⟩ = some (.int .i64 t'.starved) ∧ wr.cell? ⟨w.heap.size + 1, 3, none⟩ = some (.int .i64 t'.wh)) := ⟨HF.out.c⟩
            go_wp2_with fail
            refine (next_any' _ m _ t' now _ Hm.out Hg.out hne (Hs.out.2) g4 g5).mono ?_
            rintro e w6 ⟨rfl, hb6⟩
            rw [env.out]
            have HF6 := Lib.hid (HF.out.step hb6)
            have Hm6 := Lib.hid (Hm.out.below hb6)
            clear hb6 d0 d1 d2 d3
            obtain ⟨tw, tg, ts, th⟩ := t''
            cases tw with
            | true =>
              go_wp2_with fail
              go_ret
              refine ⟨rfl, ?_⟩
              repeat (first | (with_reducible exact HF6.out.below) | ((with_reducible refine Below.alloc ?_ ?hp _); case hp => exact HF6.out.below.size) | ((with_reducible refine Below.setCell ?_ ?hp _); case hp => exact HF6.out.below.size))
            | false =>
              go_wp2_with fail
              have hB2 := TnBox.start w6 ⟨false, tg, ts, th⟩
              have HF7 := Lib.hid (HF6.out.step hB2.below)
              have Hm7 := Lib.hid (Hm6.out.below hB2.below)
              simp only [tnCells] at hB2
              generalize hW2 : w6.alloc (Obj.cells #[Value.bool false, Value.int IntKind.i64 tg, Value.int IntKind.i64 ts, Value.int IntKind.i64 th] 36) = w7 at hB2 HF7 Hm7 ⊢
              clear hW2
              refine (take_any _ m _ j rj _ Hm7.out (fun b hb => by have := HF7.out.lt; omega) Hn.out.get (by omega)).mono ?_
              rintro e w8 ⟨v8, rv8, rfl, hown8, ⟨c8, hc8, rfl, hrv8⟩, hb8⟩
              have HB2 := Lib.hid hB2
              have Hb8 := Lib.hid hb8
              obtain ⟨cs8, hcs8, hown8, hok8⟩ := hown8
              have Hown8 := Lib.hid hown8
              have Hok8 := Lib.hid hok8
              have Hcs8 := Lib.hid hcs8
              have hl8 : cs8.length = m.length - 1 := by
                have := congrArg List.length hcs8
                rw [List.length_map, List.length_eraseIdx_of_lt hjm] at this
                exact this
              have Hl8 := Lib.hid hl8
              have hl9 : cs8.length ≤ 9 := by omega
              have Hrv8 := Lib.hid hrv8
              have Hrv8o := Lib.hid hrv8.one
              have hz8 := hb8.size
              have hz7 := HF7.out.lt
              have hz6 := hB2.lt
              obtain ⟨Ad8, cd8, e1, _, _⟩ := hrv8.data.form
              obtain ⟨At8, ct8, e2, _, _⟩ := hrv8.tags.form
              obtain ⟨r8, dv8, tv8⟩ := c8
              simp only at e1 e2 Hrv8 Hrv8o hc8
              subst e1
              subst e2
              have Hc8 := Lib.hid hc8
              clear hown8 hrv8 hb8 hB2 hok8 hcs8 hl8 hc8
              simp only
              go_wp2_with (at_builtin; refine wpList_append_rd (S := fun b => b ≠ w.heap.size ∧ b ≠ w.heap.size + 1) _ rfl (.tmp 86) (.tmp 88) _ rfl w7.heap.size 45 i0 _ 6 80 Try.underlying34 hi0 hz0 hz1 hz2 rfl (by omega) v8 cs8.length (cs8.flatMap Rc.cells) rfl ((Hown8.out.alloc _).alloc _) (.slice (some ⟨w8.heap.size + 1, 0, none⟩) 1 1) 1 (Rc.cells ⟨r8, .slice Ad8 r8.data.length cd8, .slice At8 r8.tags.length ct8⟩) rfl (rd_one (by omega) (heap_alloc2_new w8 _ _)) Hrv8o.out (by simp only [maxLen]; omega) (by omega) (by simp; omega) ?_; intro v9 w9 hown9 hg9 hat9; have hb9 : Below w7.heap.size w7 w9 := Hb8.out.trans ((((Below.refl w7.heap.size w8).alloc hz8 _).alloc (by simp; omega) _).grown hg9 (by simp; omega) (fun k hk => (Hown8.out.lt k hk).1)); have HF9 := Lib.hid (HF7.out.step hb9); have HB9 := Lib.hid (HB2.out.step hb9); obtain ⟨⟨e0, e1, e2, e3⟩⟩ : Nonempty _ := ⟨HB9.out.c⟩; obtain ⟨⟨d0, d1, d2, d3⟩⟩ : Nonempty _ := ⟨HF9.out.c⟩; obtain ⟨⟨p0, p1, p2, p3⟩⟩ : Nonempty _ := ⟨HF9.out.f⟩; simp only at e0 e1 e2 e3)
              have HO9 : Hid (ReqsOwn (fun b => b ≠ w.heap.size ∧ b ≠ w.heap.size + 1) w7.heap.size w9 v9 (m.eraseIdx j ++ [r8])) := by
                have hb89 : Below w7.heap.size w8 w9 := ((((Below.refl w7.heap.size w8).alloc hz8 _).alloc (by simp; omega) _).grown hg9 (by simp; omega) (fun k hk => (Hown8.out.lt k hk).1))
                refine ⟨cs8 ++ [⟨r8, .slice Ad8 r8.data.length cd8, .slice At8 r8.tags.length ct8⟩], by rw [← Hcs8.out]; simp, ?_, fun x hx => ?_⟩
                · rw [List.length_append, List.flatMap_append]
                  simpa using hown9
                · rcases List.mem_append.1 hx with h | h
                  · exact (Hok8.out x h).keep (fun b hb _ => hb89.block b hb.2)
                  · simp at h; subst h; exact Hrv8.out.keep (fun b hb _ => hb89.block b hb.2)
              have hP := HF9.out.put ⟨false, tg, ts, th⟩
              have hPm := Lib.hid ((HO9.out.at_ (fun b hb => by omega)).keep (fun b hb _ => put_other (w.heap.size + 1) w9 ⟨false, tg, ts, th⟩ b hb.2))
              clear e0 e1 e2 e3 d0 d1 d2 d3 p0 p1 p2 p3 hown9 hg9 hat9 hb9
              go_roundw
              case rel =>
                obtain ⟨x, hx, hxw⟩ := Hw.out
                obtain ⟨hf1, hf2⟩ := fair_step Hn.out hx hxw Hs.out.1 rfl
                have hf0 := (fair_start ⟨false, tg, ts, th⟩ hf2).1
                have hf3 := Hf.out
                have hp := perm_back Hn.out.get
                rw [Hc8.out] at hPm
                exact ⟨k2 + 1, m.eraseIdx j ++ [rj], ⟨false, tg, ts, th⟩, by go_num, good_perm hp Hg.out, hPm.out, hP, ⟨x, hp.mem_iff.1 hx, hxw⟩, ⟨hf2, Hn.out.st64 Hs.out.2⟩, (by show _ ≤ _; omega), (by show _ = _; rw [← hp.length_eq]; exact Hml2.out), by omega⟩
              case measure => simp [intOf]; omega
end Go.Proofs.Ytfklcfpkbnddfaa
