/- The law TopMerge: its walk. -/
import Derived.Test.YtfklcfpkbnddfaaMod4
import Derived.Test.YtfklcfpkbnddfaaSame
import Derived.Test.YtfklcfpkbnddfaaLay
import Derived.Test.YtfklcfpkbnddfaaLight
import Derived.Test.YtfklcfpkbnddfaaCheck2
import Derived.Test.YtfklcfpkbnddfaaOpen
namespace Go.Proofs.Ytfklcfpkbnddfaa
set_option linter.unusedSimpArgs false
set_option linter.unusedVariables false
open Go.RowKit Go.Sort

/-- A request without data, with one tag, as a literal makes it. -/
theorem req_lit {w : World} {g0 : Nat} {wb : Bool} {lo many tag born : Int} {T' : TypeId}
    (h0 : w.heap[g0]? = some (.cells #[.int .i64 tag] T' (0, 0))) (b1 : i64 lo) (b2 : i64 many) (b3 : i64 tag) (b4 : i64 born) :
    ReqAt Any w (rqV ⟨wb, lo, many, [], [tag], born⟩ (.slice none 0 0) (.slice (some ⟨g0, 0, none⟩) 1 1)) ⟨wb, lo, many, [], [tag], born⟩ := by
  refine ⟨⟨⟨wb, lo, many, [], [tag], born⟩, .slice none 0 0, .slice (some ⟨g0, 0, none⟩) 1 1⟩, rfl, rfl, ⟨Rd.nil, by simp⟩, ⟨⟨some ⟨g0, 0, none⟩, 1, rfl, Nat.le_refl _, by simp [maxLen], rfl, fun _ => ⟨g0, 0, rfl, trivial, fun j u hj => by rw [cell_of_row _ _ _ _ _ _ h0]; simpa using hj⟩⟩, ?_⟩, b1, b2, b4⟩
  intro x hx
  simp at hx
  subst hx
  exact b3
abbrev litA : Rq := ⟨false, 3, 1, [], [1], 0⟩
abbrev litB : Rq := ⟨false, 4, 1, [], [2], 0⟩
theorem litA_ok : ReqOk litA := by constructor <;> decide
theorem litB_ok : ReqOk litB := by constructor <;> decide
theorem lit_merge : mergeM litA litB = some ⟨false, 3, 2, [], [1, 2], 0⟩ := by decide

theorem ReqAt.data_ {S : Nat → Prop} {w : World} {r : Rq} {dv tv : Value} (h : ReqAt S w (rqV r dv tv) r) : StrsAt S w dv r.data := by
  obtain ⟨c, rfl, e, hok⟩ := h
  simp only [rqV, Value.agg.injEq, Array.mk.injEq, List.cons.injEq] at e
  rw [e.2.2.2.1]
  exact hok.data
theorem cell_below {w w' : World} {a : Addr} {v : Value} (hb : Below w.heap.size w w') (h : w.cell? a = some v) : w'.cell? a = some v := by
  rw [hb.cell (block_lt_of_cell h)]; exact h

set_option maxRecDepth 100000 in
set_option maxHeartbeats 4000000 in
theorem topmerge_walk (a b : Rq) (va vb : Value) (w : World) (ha : ReqAt Any w va a) (hb : ReqAt Any w vb b) :
    Calls Try.prog 10 #[va, vb] w (Ret (.bool true) w) := by
  obtain ⟨Ad, cd, At, ct, rfl, had, hat, adl, atl, _, _, _⟩ := ha.opened
  obtain ⟨Bd, dd, Bt, dt, rfl, hbd, hbt, bdl, btl, _, _, _⟩ := hb.opened
  have Ha := Lib.hid ha
  have Hb := Lib.hid hb
  have Had := Lib.hid had
  have Hbd := Lib.hid hbd
  clear had hat hbd hbt ha hb
  have HS : Hid (∀ w : World, ∀ b, w.heap.size ≤ b → Any b) := fun _ _ _ => trivial
  go_enter Try.func10, Try.ntmps10
  go_wp2_with fail
  have L := ((((Lay.refl w).alloc' (w.heap.size) #[Value.bool a.write, Value.int IntKind.i64 a.lo, Value.int IntKind.i64 a.many, Value.slice Ad a.data.length cd, Value.slice At a.tags.length ct, Value.int IntKind.i64 a.born] 45 rfl).alloc' (w.heap.size + 1) #[Value.bool b.write, Value.int IntKind.i64 b.lo, Value.int IntKind.i64 b.many, Value.slice Bd b.data.length dd, Value.slice Bt b.tags.length dt, Value.int IntKind.i64 b.born] 45 (by simp)).alloc' (w.heap.size + 1 + 1) #[Value.int IntKind.i64 1] 3 (by simp)).alloc' (w.heap.size + 1 + 1 + 1) #[Value.int IntKind.i64 2] 3 (by simp)
  generalize World.alloc _ _ = W1 at L ⊢
  refine (merge_any Any litA litB _ _ _ (HS.out _) (req_lit (L.at_ 1 rfl) (by unfold i64; omega) (by unfold i64; omega) (by unfold i64; omega) (by unfold i64; omega)) (req_lit (L.at_ 0 rfl) (by unfold i64; omega) (by unfold i64; omega) (by unfold i64; omega) (by unfold i64; omega)) litA_ok litB_ok).mono ?_
  rintro e w2 ⟨v, rfl, hv, hb2⟩
  have L2 := L.step hb2
  rw [lit_merge] at hv ⊢
  obtain ⟨Xd, xd, Xt, xt, rfl, _, _, _, _, _, _, _⟩ := hv.opened
  clear hv L hb2
  simp only [Option.getD, Option.isSome] at *
  obtain ⟨a0, a1, a2, a3, a4, a5⟩ := L2.ca6 3 rfl
  go_wp2_with fail
  have L3 := L2.alloc' w2.heap.size #[Value.bool false, Value.int IntKind.i64 3, Value.int IntKind.i64 2, Value.slice Xd 0 xd, Value.slice Xt 2 xt, Value.int IntKind.i64 0] 45 rfl
  generalize World.alloc _ _ = W3 at L3 ⊢
  clear a0 a1 a2 a3 a4 a5 L2
  refine (lightreq_any Any a _ _ (Ha.out.below L3.below)).mono ?_
  rintro e w4 ⟨rfl, hb4⟩
  have L4 := L3.step hb4
  clear L3 hb4
  cases g1 : lightReq a with
  | false =>
    go_wp2
    go_ret
    exact ⟨rfl, L4.below⟩
  | true =>
    have G1 := Lib.hid g1
    clear g1
    obtain ⟨c0, c1, c2, c3, c4, c5⟩ := L4.c6 3 rfl
    go_wp2_with fail
    refine (lightreq_any Any b _ _ (Hb.out.below L4.below)).mono ?_
    rintro e w5 ⟨rfl, hb5⟩
    have L5 := L4.step hb5
    clear L4 hb5 c0 c1 c2 c3 c4 c5
    cases g2 : lightReq b with
    | false =>
      go_wp2
      go_ret
      exact ⟨rfl, L5.below⟩
    | true =>
      have G2 := Lib.hid g2
      clear g2
      obtain ⟨c0, c1, c2, c3, c4, c5⟩ := L5.c6 4 rfl
      go_wp2_with fail
      refine (reqcheck_any Any a _ _ (Ha.out.below L5.below)).mono ?_
      rintro e w6 ⟨rfl, hb6⟩
      have L6 := L5.step hb6
      clear L5 hb6 c0 c1 c2 c3 c4 c5
      by_cases g3 : reqF a = 0
      rotate_left
      · have g3' : (reqF a == 0) = false := by simpa using g3
        clear g3
        go_wp2
        go_ret
        exact ⟨rfl, L6.below⟩
      have G3 := Lib.hid (reqF_zero g3)
      rw [g3]
      clear g3
      obtain ⟨c0, c1, c2, c3, c4, c5⟩ := L6.c6 3 rfl
      go_wp2_with fail
      refine (reqcheck_any Any b _ _ (Hb.out.below L6.below)).mono ?_
      rintro e w7 ⟨rfl, hb7⟩
      have L7 := L6.step hb7
      clear L6 hb7 c0 c1 c2 c3 c4 c5
      by_cases g4 : reqF b = 0
      rotate_left
      · have g4' : (reqF b == 0) = false := by simpa using g4
        clear g4
        go_wp2
        go_ret
        exact ⟨rfl, L7.below⟩
      have G4 := Lib.hid (reqF_zero g4)
      rw [g4]
      clear g4
      obtain ⟨c0, c1, c2, c3, c4, c5⟩ := L7.c6 3 rfl
      obtain ⟨d0, d1, d2, d3, d4, d5⟩ := L7.c6 4 rfl
      go_wp2_with fail
      refine (merge_any Any a b _ _ _ (HS.out _) (Ha.out.below L7.below) (Hb.out.below L7.below) G3.out G4.out).mono ?_
      rintro e w8 ⟨v, rfl, hv, hb8⟩
      have L8 := L7.step hb8
      obtain ⟨Xd, xd, Xt, xt, rfl, _, _, xdl, xtl, _, _, _⟩ := hv.opened
      have Hx := Lib.hid hv
      clear hv L7 hb8 c0 c1 c2 c3 c4 c5 d0 d1 d2 d3 d4 d5
      obtain ⟨c0, c1, c2, c3, c4, c5⟩ := L8.ca6 3 rfl
      obtain ⟨d0, d1, d2, d3, d4, d5⟩ := L8.ca6 4 rfl
      have Hm := Lib.hid (merge_comm G3.out G4.out)
      generalize hx : (mergeM a b).getD zeroR = x at *
      go_wp2_with fail
      have L9 := L8.alloc' w8.heap.size #[Value.bool x.write, Value.int IntKind.i64 x.lo, Value.int IntKind.i64 x.many, Value.slice Xd x.data.length xd, Value.slice Xt x.tags.length xt, Value.int IntKind.i64 x.born] 45 rfl
      have Hx9 := Lib.hid (Hx.out.below ((Below.refl _ _).alloc (Nat.le_refl _) _ : Below w8.heap.size w8 (w8.alloc (Obj.cells #[Value.bool x.write, Value.int IntKind.i64 x.lo, Value.int IntKind.i64 x.many, Value.slice Xd x.data.length xd, Value.slice Xt x.tags.length xt, Value.int IntKind.i64 x.born] 45))))
      generalize World.alloc _ _ = W9 at L9 Hx9 ⊢
      clear c0 c1 c2 c3 c4 c5 d0 d1 d2 d3 d4 d5 L8 Hx
      refine (merge_any Any b a _ _ _ (HS.out _) (Hb.out.below L9.below) (Ha.out.below L9.below) G4.out G3.out).mono ?_
      rintro e w10 ⟨v, rfl, hv, hb10⟩
      rw [Hm.out] at hv ⊢
      rw [hx] at hv
      have L10 := L9.step hb10
      have Hx10 := Lib.hid (Hx9.out.below hb10)
      obtain ⟨Yd, yd, Yt, yt, rfl, _, _, ydl, ytl, _, _, _⟩ := hv.opened
      have Hy := Lib.hid hv
      clear hv L9 hb10 Hx9
      obtain ⟨c0, c1, c2, c3, c4, c5⟩ := L10.ca6 0 rfl
      have hne : ∀ t : Bool, (t != t) = false := by decide
      have Hxo := Lib.hid hx
      clear hx
      go_wp2_with fail
      have L11 := L10.alloc' w10.heap.size #[Value.bool x.write, Value.int IntKind.i64 x.lo, Value.int IntKind.i64 x.many, Value.slice Yd x.data.length yd, Value.slice Yt x.tags.length yt, Value.int IntKind.i64 x.born] 45 rfl
      have hbA := ((Below.refl _ _).alloc (Nat.le_refl _) _ : Below w10.heap.size w10 (w10.alloc (Obj.cells #[Value.bool x.write, Value.int IntKind.i64 x.lo, Value.int IntKind.i64 x.many, Value.slice Yd x.data.length yd, Value.slice Yt x.tags.length yt, Value.int IntKind.i64 x.born] 45)))
      have Hx11 := Lib.hid (Hx10.out.below hbA)
      have Hy11 := Lib.hid (Hy.out.below hbA)
      clear hbA
      generalize World.alloc _ _ = W11 at L11 Hx11 Hy11 ⊢
      clear c0 c1 c2 c3 c4 c5 L10 Hx10 Hy
      refine (samereq_any Any x x _ _ _ Hx11.out Hy11.out).mono ?_
      rintro e w12 ⟨rfl, hb12⟩
      rw [sameB_true.2 rfl]
      have L12 := L11.step hb12
      have Hx12 := Lib.hid (Hx11.out.below hb12)
      clear L11 hb12 Hx11 Hy11
      obtain ⟨c0, c1, c2, c3, c4, c5⟩ := L12.c6 1 rfl
      cases hab : mergeM a b with
      | none =>
        simp only [Option.isSome] at *
        go_wp2
        go_ret
        exact ⟨rfl, L12.below⟩
      | some x' =>
        obtain rfl : x' = x := by have := Hxo.out; rw [hab] at this; exact this
        have hj := merge_some G3.out G4.out hab
        clear hab Hxo
        simp only [Option.isSome] at *
        go_wp2_with fail
        refine (reqcheck_any Any x' _ _ Hx12.out).mono ?_
        rintro e w13 ⟨rfl, hb13⟩
        rw [reqF_ok hj.ok]
        have L13 := L12.step hb13
        have Hx13 := Lib.hid (Hx12.out.below hb13)
        clear L12 hb13 Hx12 c0 c1 c2 c3 c4 c5
        obtain ⟨c0, c1, c2, c3, c4, c5⟩ := L13.c6 1 rfl
        obtain ⟨a0, a1, a2, a3, a4, a5⟩ := L13.c6 6 rfl
        obtain ⟨b0, b1, b2, b3, b4, b5⟩ := L13.c6 5 rfl
        obtain ⟨s1, s2, s3, s4, s5⟩ := G3.out.span
        obtain ⟨t1, t2, t3, t4, t5⟩ := G4.out.span
        obtain ⟨u1, u2⟩ := G3.out.tags
        obtain ⟨v1, v2⟩ := G4.out.tags
        have hm := hj.many
        have htg := hj.tags
        rw [hj.write] at c0
        have f2 : IntKind.i64.wrap (a.many + b.many) = a.many + b.many := IntWalk.i64_in _ (by omega)
        have f3 : (x'.many != a.many + b.many) = false := by simp [hj.many]
        have f4 : ((x'.tags.length : Int) != (a.tags.length : Int) + (b.tags.length : Int)) = false := by simp [hj.tags]
        have f5 : decide (a.born < x'.born) = false := by have := hj.bornA; simp; omega
        have f6 : decide (b.born < x'.born) = false := by have := hj.bornB; simp; omega
        have Hj := Lib.hid hj
        clear hj hm htg
        have Dx := Lib.hid Hx13.out.data_
        have Da := Lib.hid (Had.out.below L13.below)
        have Db := Lib.hid (Hbd.out.below L13.below)
        have Hc := Lib.hid (⟨c0, c1, c2, c3, a1, a2, a3, b1, b2, b3⟩ : _ ∧ _ ∧ _ ∧ _ ∧ _ ∧ _ ∧ _ ∧ _ ∧ _ ∧ _)
        have HL := Lib.hid L13.below
        go_wp2_with fail
        clear c0 c1 c2 c3 c4 c5 a0 a1 a2 a3 a4 a5 b0 b1 b2 b3 b4 b5 f2 f3 f4 f5 f6 L13
        go_loopw [10, 11] (fun i _ wr => ∃ k : Nat, k ≤ 32 ∧ i = .int .i64 k ∧ Below w13.heap.size w13 wr) (fun i _ _ => 32 - (intOf i).toNat)
        case atStart => exact ⟨0, by omega, rfl, Below.refl _ _⟩
        case round =>
          obtain ⟨k, hk, rfl, hw⟩ := hrel
          by_cases hlt : k < 32
          rotate_left
          · go_wp2
            go_ret
            exact ⟨rfl, HL.out.trans (hw.mono HL.out.size)⟩
          · skip
            have hF : Hid (∀ w', Below w13.heap.size w13 w' → w'.cell? ⟨w8.heap.size, 0, none⟩ = some (.bool a.write) ∧ w'.cell? ⟨w8.heap.size, 1, none⟩ = some (.int .i64 x'.lo) ∧ w'.cell? ⟨w8.heap.size, 2, none⟩ = some (.int .i64 x'.many) ∧ w'.cell? ⟨w8.heap.size, 3, none⟩ = some (.slice Xd x'.data.length xd) ∧
              w'.cell? ⟨w.heap.size, 1, none⟩ = some (.int .i64 a.lo) ∧ w'.cell? ⟨w.heap.size, 2, none⟩ = some (.int .i64 a.many) ∧ w'.cell? ⟨w.heap.size, 3, none⟩ = some (.slice Ad a.data.length cd) ∧
              w'.cell? ⟨w.heap.size + 1, 1, none⟩ = some (.int .i64 b.lo) ∧ w'.cell? ⟨w.heap.size + 1, 2, none⟩ = some (.int .i64 b.many) ∧ w'.cell? ⟨w.heap.size + 1, 3, none⟩ = some (.slice Bd b.data.length dd)) := by
              obtain ⟨c0, c1, c2, c3, a1, a2, a3, b1, b2, b3⟩ := Hc.out
              exact fun w' hb => ⟨cell_below hb c0, cell_below hb c1, cell_below hb c2, cell_below hb c3, cell_below hb a1, cell_below hb a2, cell_below hb a3, cell_below hb b1, cell_below hb b2, cell_below hb b3⟩
            have hx := Hj.out.has k
            obtain ⟨p1, p2, p3, p4, p5⟩ := Hj.out.ok.span
            obtain ⟨c0, c1, c2, c3, a1, a2, a3, b1, b2, b3⟩ := hF.out _ hw
            have c0 := cell_regrown c0
            have c1 := cell_regrown c1
            have c2 := cell_regrown c2
            have a1 := cell_regrown a1
            have a2 := cell_regrown a2
            have b1 := cell_regrown b1
            have b2 := cell_regrown b2
            have hkd : decide ((k : Int) < 32) = true := by simp; omega
            cases hA : hasB a.lo a.many k with
            | true =>
              have hxt : hasB x'.lo x'.many k = true := by rw [hx, hA]; rfl
              clear hx
              go_wp2_with fail
              refine wp_region_quiet_below mixed (by kernel_rfl) ?_
              repeat (quiet_step (first | (go_at_call 20; exact Calls.rg (has_any _ _ _ _ (by omega) (by omega) (by omega) (by omega)))))
              refine wpQuiet_nil ?_
              intro _ hw'
              obtain ⟨⟨dq, osq⟩, hw''⟩ := hw'
              subst hw''
              have hw4 := hw.trans (Below.mono (below_regrown wr dq osq) hw.size)
              generalize grow (redrawn wr dq) osq = w4 at hw4 ⊢
              clear c0 c1 c2 c3 a1 a2 a3 b1 b2 b3 hw
              obtain ⟨c0, c1, c2, c3, a1, a2, a3, b1, b2, b3⟩ := hF.out _ hw4
              rcases Bool.eq_false_or_eq_true a.write with hwr | hwr
              · skip
                rw [hwr] at c0
                have Hwr := Lib.hid hwr
                clear hwr
                obtain ⟨i, j, s, e1, e2, g1, g2⟩ := Hj.out.dataA Hwr.out k hA
                obtain ⟨bx, ox, rfl, _, _, hcx⟩ := Dx.out.at_ (by have := List.getElem?_eq_some_iff.1 g1; obtain ⟨h, _⟩ := this; omega)
                obtain ⟨bs, os_, rfl, _, _, hcs⟩ := Da.out.at_ (by have := List.getElem?_eq_some_iff.1 g2; obtain ⟨h, _⟩ := this; omega)
                have hcx := Lib.hid (hcx i s g1).1
                have hcs := Lib.hid (hcs j s g2).1
                have i1 : i < x'.data.length := (List.getElem?_eq_some_iff.1 g1).1
                have i2 : j < a.data.length := (List.getElem?_eq_some_iff.1 g2).1
                have i1 : (i : Int) < (x'.data.length : Int) := by omega
                have i2 : (j : Int) < (a.data.length : Int) := by omega
                have e1' : IntKind.i64.wrap ((k : Int) - x'.lo) = (i : Int) := by rw [e1]; exact IntWalk.i64_in _ (by omega)
                have e2' : IntKind.i64.wrap ((k : Int) - a.lo) = (j : Int) := by rw [e2]; exact IntWalk.i64_in _ (by omega)
                clear e1 e2
                have xs := cell_below hw4 hcx.out
                have ss := cell_below hw4 hcs.out
                go_wp2_with fail
                refine (has_any _ _ _ _ (by omega) (by omega) (by omega) (by omega)).mono ?_
                rintro e w5 ⟨rfl, hb5⟩
                have hw5 := hw4.trans (hb5.mono hw4.size)
                clear hw4 hb5 c0 c1 c2 c3 a1 a2 a3 b1 b2 b3 xs ss
                have hw4 := hw5
                clear hw5
                obtain ⟨c0, c1, c2, c3, a1, a2, a3, b1, b2, b3⟩ := hF.out _ hw4
                rw [Hwr.out] at c0
                have xs := cell_below hw4 hcx.out
                have ss := cell_below hw4 hcs.out
                go_wp2_with fail
                refine (has_any _ _ _ _ (by omega) (by omega) (by omega) (by omega)).mono ?_
                rintro e w5 ⟨rfl, hb5⟩
                have hw5 := hw4.trans (hb5.mono hw4.size)
                clear hw4 hb5 c0 c1 c2 c3 a1 a2 a3 b1 b2 b3 xs ss
                have hw4 := hw5
                clear hw5
                obtain ⟨c0, c1, c2, c3, a1, a2, a3, b1, b2, b3⟩ := hF.out _ hw4
                rw [Hwr.out] at c0
                have xs := cell_below hw4 hcx.out
                have ss := cell_below hw4 hcs.out
                go_wp2_with fail
                go_roundw
                case rel => exact ⟨k + 1, by omega, by go_num, hw4⟩
                case measure => simp [intOf]; omega
              · skip
                rw [hwr] at c0
                have Hwr := Lib.hid hwr
                clear hwr
                go_wp2_with fail
                go_roundw
                case rel => exact ⟨k + 1, by omega, by go_num, hw4⟩
                case measure => simp [intOf]; omega
            | false =>
              cases hB : hasB b.lo b.many k with
              | true =>
                have hxt : hasB x'.lo x'.many k = true := by rw [hx, hA, hB]; rfl
                clear hx
                go_wp2_with fail
                refine wp_region_quiet_below mixed (by kernel_rfl) ?_
                repeat (quiet_step (first | (go_at_call 20; exact Calls.rg (has_any _ _ _ _ (by omega) (by omega) (by omega) (by omega)))))
                refine wpQuiet_nil ?_
                intro _ hw'
                obtain ⟨⟨dq, osq⟩, hw''⟩ := hw'
                subst hw''
                have hw4 := hw.trans (Below.mono (below_regrown wr dq osq) hw.size)
                generalize grow (redrawn wr dq) osq = w4 at hw4 ⊢
                clear c0 c1 c2 c3 a1 a2 a3 b1 b2 b3 hw
                obtain ⟨c0, c1, c2, c3, a1, a2, a3, b1, b2, b3⟩ := hF.out _ hw4
                rcases Bool.eq_false_or_eq_true a.write with hwr | hwr
                · skip
                  rw [hwr] at c0
                  have Hwr := Lib.hid hwr
                  clear hwr
                  obtain ⟨i, j, s, e1, e2, g1, g2⟩ := Hj.out.dataB Hwr.out k hB
                  obtain ⟨bx, ox, rfl, _, _, hcx⟩ := Dx.out.at_ (by have := List.getElem?_eq_some_iff.1 g1; obtain ⟨h, _⟩ := this; omega)
                  obtain ⟨bs, os_, rfl, _, _, hcs⟩ := Db.out.at_ (by have := List.getElem?_eq_some_iff.1 g2; obtain ⟨h, _⟩ := this; omega)
                  have hcx := Lib.hid (hcx i s g1).1
                  have hcs := Lib.hid (hcs j s g2).1
                  have i1 : i < x'.data.length := (List.getElem?_eq_some_iff.1 g1).1
                  have i2 : j < b.data.length := (List.getElem?_eq_some_iff.1 g2).1
                  have i1 : (i : Int) < (x'.data.length : Int) := by omega
                  have i2 : (j : Int) < (b.data.length : Int) := by omega
                  have e1' : IntKind.i64.wrap ((k : Int) - x'.lo) = (i : Int) := by rw [e1]; exact IntWalk.i64_in _ (by omega)
                  have e2' : IntKind.i64.wrap ((k : Int) - b.lo) = (j : Int) := by rw [e2]; exact IntWalk.i64_in _ (by omega)
                  clear e1 e2
                  have xs := cell_below hw4 hcx.out
                  have ss := cell_below hw4 hcs.out
                  go_wp2_with fail
                  refine (has_any _ _ _ _ (by omega) (by omega) (by omega) (by omega)).mono ?_
                  rintro e w5 ⟨rfl, hb5⟩
                  have hw5 := hw4.trans (hb5.mono hw4.size)
                  clear hw4 hb5 c0 c1 c2 c3 a1 a2 a3 b1 b2 b3 xs ss
                  have hw4 := hw5
                  clear hw5
                  obtain ⟨c0, c1, c2, c3, a1, a2, a3, b1, b2, b3⟩ := hF.out _ hw4
                  rw [Hwr.out] at c0
                  have xs := cell_below hw4 hcx.out
                  have ss := cell_below hw4 hcs.out
                  go_wp2_with fail
                  refine (has_any _ _ _ _ (by omega) (by omega) (by omega) (by omega)).mono ?_
                  rintro e w5 ⟨rfl, hb5⟩
                  have hw5 := hw4.trans (hb5.mono hw4.size)
                  clear hw4 hb5 c0 c1 c2 c3 a1 a2 a3 b1 b2 b3 xs ss
                  have hw4 := hw5
                  clear hw5
                  obtain ⟨c0, c1, c2, c3, a1, a2, a3, b1, b2, b3⟩ := hF.out _ hw4
                  rw [Hwr.out] at c0
                  have xs := cell_below hw4 hcx.out
                  have ss := cell_below hw4 hcs.out
                  go_wp2_with fail
                  go_roundw
                  case rel => exact ⟨k + 1, by omega, by go_num, hw4⟩
                  case measure => simp [intOf]; omega
                · skip
                  rw [hwr] at c0
                  have Hwr := Lib.hid hwr
                  clear hwr
                  go_wp2_with fail
                  go_roundw
                  case rel => exact ⟨k + 1, by omega, by go_num, hw4⟩
                  case measure => simp [intOf]; omega
              | false =>
                have hxt : hasB x'.lo x'.many k = false := by rw [hx, hA, hB]; rfl
                clear hx
                go_wp2_with fail
                refine wp_region_quiet_below mixed (by kernel_rfl) ?_
                repeat (quiet_step (first | (go_at_call 20; exact Calls.rg (has_any _ _ _ _ (by omega) (by omega) (by omega) (by omega)))))
                refine wpQuiet_nil ?_
                intro _ hw'
                obtain ⟨⟨dq, osq⟩, hw''⟩ := hw'
                subst hw''
                have hw4 := hw.trans (Below.mono (below_regrown wr dq osq) hw.size)
                generalize grow (redrawn wr dq) osq = w4 at hw4 ⊢
                clear c0 c1 c2 c3 a1 a2 a3 b1 b2 b3 hw
                obtain ⟨c0, c1, c2, c3, a1, a2, a3, b1, b2, b3⟩ := hF.out _ hw4
                rcases Bool.eq_false_or_eq_true a.write with hwr | hwr
                · skip
                  rw [hwr] at c0
                  have Hwr := Lib.hid hwr
                  clear hwr
                  go_wp2_with fail
                  refine (has_any _ _ _ _ (by omega) (by omega) (by omega) (by omega)).mono ?_
                  rintro e w5 ⟨rfl, hb5⟩
                  have hw5 := hw4.trans (hb5.mono hw4.size)
                  clear hw4 hb5 c0 c1 c2 c3 a1 a2 a3 b1 b2 b3
                  have hw4 := hw5
                  clear hw5
                  obtain ⟨c0, c1, c2, c3, a1, a2, a3, b1, b2, b3⟩ := hF.out _ hw4
                  rw [Hwr.out] at c0
                  go_wp2_with fail
                  go_roundw
                  case rel => exact ⟨k + 1, by omega, by go_num, hw4⟩
                  case measure => simp [intOf]; omega
                · skip
                  rw [hwr] at c0
                  have Hwr := Lib.hid hwr
                  clear hwr
                  go_wp2_with fail
                  go_roundw
                  case rel => exact ⟨k + 1, by omega, by go_num, hw4⟩
                  case measure => simp [intOf]; omega
end Go.Proofs.Ytfklcfpkbnddfaa
