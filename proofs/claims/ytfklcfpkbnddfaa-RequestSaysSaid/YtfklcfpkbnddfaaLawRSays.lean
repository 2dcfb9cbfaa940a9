/- The law RequestSays: its walk. -/
import Derived.Test.YtfklcfpkbnddfaaPart
import Derived.Test.YtfklcfpkbnddfaaMerged
namespace Go.Proofs.Ytfklcfpkbnddfaa
set_option linter.unusedSimpArgs false
set_option linter.unusedVariables false
open Go.RowKit Go.Sort

theorem light_tags {r : Rq} (h : lightReq r = true) : r.tags.length ≤ 8 := by
  unfold lightReq at h; simp at h; exact h.1.2
/-- What the first k rounds found. -/
def partK (lo : Int) (data : List ByteArray) (at_ : Int) (k : Nat) : ByteArray × Bool :=
  if lo ≤ at_ ∧ at_ - lo < k then match data[(at_ - lo).toNat]? with
    | some s => (s, true)
    | none => (⟨#[]⟩, false)
  else (⟨#[]⟩, false)
theorem partK_zero (lo : Int) (data : List ByteArray) (at_ : Int) : partK lo data at_ 0 = (⟨#[]⟩, false) := by unfold partK; rw [if_neg (by omega)]
theorem partK_hit {lo : Int} {data : List ByteArray} {at_ : Int} {k : Nat} {s : ByteArray} (h : lo + k = at_) (hs : data[k]? = some s) : partK lo data at_ (k + 1) = (s, true) := by
  have e : (at_ - lo).toNat = k := by omega
  unfold partK; rw [if_pos (by omega), e, hs]
theorem partK_miss {lo : Int} {data : List ByteArray} {at_ : Int} {k : Nat} (h : ¬ lo + k = at_) : partK lo data at_ (k + 1) = partK lo data at_ k := by
  unfold partK
  by_cases h1 : lo ≤ at_ ∧ at_ - lo < k
  · rw [if_pos h1, if_pos (by omega)]
  · rw [if_neg h1, if_neg (by omega)]
theorem partK_end {lo many : Int} {data : List ByteArray} {at_ : Int} {k : Nat} (h : (k : Int) = many ∨ (data.length ≤ k ∧ (k : Int) ≤ many)) : partK lo data at_ k = partM lo many data at_ := by
  unfold partK partM
  by_cases h1 : lo ≤ at_ ∧ at_ - lo < k
  · rw [if_pos h1, if_pos (by rw [hasB_iff]; omega)]; rfl
  · rw [if_neg h1]
    by_cases h2 : hasB lo many at_ = true
    · rw [if_pos h2]
      rw [hasB_iff] at h2
      rw [List.getElem?_eq_none (by omega)]
    · rw [if_neg h2]
theorem same_req1 {r : Rq} {va vb : Value} {w : World} (ha : ReqAt Any w va r) (hb : ReqAt Any w vb r) : Calls Try.prog 33 #[va, vb] w (Ret (.bool true) w) := by
  have := samereq_any Any r r va vb w ha hb
  rwa [sameB_true.2 rfl] at this
theorem same_true (n : Nat) (w : World) : Calls Try.prog 16 #[errV n, .int .i64 n] w (RetSame (.bool true) w) := by
  have := same_any n n w
  rwa [beq_self_eq_true] at this
set_option maxRecDepth 100000 in
set_option maxHeartbeats 4000000 in
theorem rsays_walk (a b : Rq) (va vb D : Value) (at_ : Int) (dl : List ByteArray) (w : World) (ha : ReqAt Any w va a) (hb : ReqAt Any w vb b) (hat_ : i64 at_) (hD : StrsAt Any w D dl) :
    Calls Try.prog 8 #[va, vb, .int .i64 at_, D] w (Ret (.bool true) w) := by
  obtain ⟨Ad, cd, At, ct, rfl, _, _, _, _, _, _, _⟩ := ha.opened
  obtain ⟨Bd, dd, Bt, dt, rfl, _, _, _, _, _, _, _⟩ := hb.opened
  obtain ⟨AD, cD, rfl, hD1, hD2⟩ := hD.form
  unfold maxLen at hD2
  have Ha := Lib.hid ha
  have Hb := Lib.hid hb
  have HD := Lib.hid hD
  have HS : Hid (∀ w : World, ∀ b, w.heap.size ≤ b → Any b) := fun _ _ _ => trivial
  clear ha hb hD
  go_enter Try.func8, Try.ntmps8
  go_wp2_with fail
  have L := (((Lay.refl w).alloc' w.heap.size #[Value.bool a.write, Value.int IntKind.i64 a.lo, Value.int IntKind.i64 a.many, Value.slice Ad a.data.length cd, Value.slice At a.tags.length ct, Value.int IntKind.i64 a.born] 45 rfl).alloc' (w.heap.size + 1) #[Value.bool b.write, Value.int IntKind.i64 b.lo, Value.int IntKind.i64 b.many, Value.slice Bd b.data.length dd, Value.slice Bt b.tags.length dt, Value.int IntKind.i64 b.born] 45 (by simp))
  generalize World.alloc _ _ = W1 at L ⊢
  refine (merges_any _).mono ?_
  rintro e w2 ⟨rfl, hb2⟩
  have L2 := L.step hb2
  clear L hb2
  obtain ⟨c0, c1, c2, c3, c4, c5⟩ := L2.c6 1 rfl
  go_wp2_with fail
  refine (lightreq_any Any a _ _ (Ha.out.below L2.below)).mono ?_
  rintro e w3 ⟨rfl, hb3⟩
  have L3 := L2.step hb3
  clear L2 hb3 c0 c1 c2 c3 c4 c5
  cases g1 : lightReq a with
  | false =>
    go_wp2
    go_ret
    exact ⟨rfl, L3.below⟩
  | true =>
    have ht8 := light_tags g1
    clear g1
    obtain ⟨c0, c1, c2, c3, c4, c5⟩ := L3.c6 0 rfl
    go_wp2_with fail
    refine (lightreq_any Any b _ _ (Hb.out.below L3.below)).mono ?_
    rintro e w4 ⟨rfl, hb4⟩
    have L4 := L3.step hb4
    clear L3 hb4 c0 c1 c2 c3 c4 c5
    cases g2 : lightReq b with
    | false =>
      go_wp2
      go_ret
      exact ⟨rfl, L4.below⟩
    | true =>
      clear g2
      by_cases g3 : 8 < dl.length
      · have g3' : decide ((8 : Int) < (dl.length : Int)) = true := decide_eq_true (by omega)
        go_wp2
        go_ret
        exact ⟨rfl, L4.below⟩
      · have g3' : decide ((8 : Int) < (dl.length : Int)) = false := decide_eq_false (by omega)
        obtain ⟨c0, c1, c2, c3, c4, c5⟩ := L4.c6 1 rfl
        have c0 := cell_regrown c0
        have c1 := cell_regrown c1
        have c2 := cell_regrown c2
        have c3 := cell_regrown c3
        have c4 := cell_regrown c4
        have c5 := cell_regrown c5
        have Ha4 := Lib.hid (Ha.out.below L4.below)
        go_wp2_with fail
        refine wp_region_quiet_below mixed (by kernel_rfl) ?_
        repeat (quiet_step (first
          | (go_at_call 39; exact Calls.rg (reqcheck_any Any a _ _ (Ha4.out.below (below_regrown _ _ _))))
          | (go_at_call 40; exact Calls.rg (reqfault_any Any a _ _ (Ha4.out.below (below_regrown _ _ _))))
          | (go_at_call 16; exact Calls.rgSame (same_true _ _))))
        refine wpQuiet_nil ?_
        intro _ hw'
        obtain ⟨⟨dq, osq⟩, hw''⟩ := hw'
        subst hw''
        have L5 := L4.step (below_regrown w4 dq osq)
        generalize grow (redrawn w4 dq) osq = w5 at L5 ⊢
        clear L4 Ha4 c0 c1 c2 c3 c4 c5
        obtain ⟨c0, c1, c2, c3, c4, c5⟩ := L5.c6 1 rfl
        go_wp2_with fail
        refine (reqfault_any Any a _ _ (Ha.out.below L5.below)).mono ?_
        rintro e w6 ⟨rfl, hb6⟩
        have L6 := L5.step hb6
        clear L5 hb6 c0 c1 c2 c3 c4 c5
        by_cases g4 : reqF a = 0
        rotate_left
        · have g4' : decide (0 < reqF a) = true := decide_eq_true (by omega)
          clear g4
          go_wp2
          go_ret
          exact ⟨rfl, L6.below⟩
        have Ga := Lib.hid (reqF_zero g4)
        rw [g4]
        clear g4
        obtain ⟨c0, c1, c2, c3, c4, c5⟩ := L6.c6 0 rfl
        go_wp2_with fail
        refine (reqfault_any Any b _ _ (Hb.out.below L6.below)).mono ?_
        rintro e w7 ⟨rfl, hb7⟩
        have L7 := L6.step hb7
        clear L6 hb7 c0 c1 c2 c3 c4 c5
        by_cases g5 : reqF b = 0
        rotate_left
        · have g5' : decide (0 < reqF b) = true := decide_eq_true (by omega)
          clear g5
          go_wp2
          go_ret
          exact ⟨rfl, L7.below⟩
        have Gb := Lib.hid (reqF_zero g5)
        rw [g5]
        clear g5
        obtain ⟨c0, c1, c2, c3, c4, c5⟩ := L7.c6 1 rfl
        obtain ⟨d0, d1, d2, d3, d4, d5⟩ := L7.c6 0 rfl
        go_wp2_with fail
        refine (merge_any Any a b _ _ _ (HS.out _) (Ha.out.below L7.below) (Hb.out.below L7.below) Ga.out Gb.out).mono ?_
        rintro e w8 ⟨v, rfl, hv, hb8⟩
        have L8 := L7.step hb8
        generalize hx : (mergeM a b).getD zeroR = x at *
        obtain ⟨Xd, xd, Xt, xt, rfl, _, _, xdl, xtl, _, _, _⟩ := hv.opened
        have Hx := Lib.hid hv
        clear hv L7 hb8 c0 c1 c2 c3 c4 c5 d0 d1 d2 d3 d4 d5
        obtain ⟨c0, c1, c2, c3, c4, c5⟩ := L8.ca6 1 rfl
        obtain ⟨d0, d1, d2, d3, d4, d5⟩ := L8.ca6 0 rfl
        go_wp2_with fail
        have L9 := L8.alloc' w8.heap.size #[Value.bool x.write, Value.int IntKind.i64 x.lo, Value.int IntKind.i64 x.many, Value.slice Xd x.data.length xd, Value.slice Xt x.tags.length xt, Value.int IntKind.i64 x.born] 45 rfl
        have Hx9 := Lib.hid (Hx.out.below ((Below.refl _ _).alloc (Nat.le_refl _) _ : Below w8.heap.size w8 (w8.alloc (Obj.cells #[Value.bool x.write, Value.int IntKind.i64 x.lo, Value.int IntKind.i64 x.many, Value.slice Xd x.data.length xd, Value.slice Xt x.tags.length xt, Value.int IntKind.i64 x.born] 45))))
        generalize World.alloc _ _ = W9 at L9 Hx9 ⊢
        clear c0 c1 c2 c3 c4 c5 d0 d1 d2 d3 d4 d5 L8 Hx
        refine (rmerge_any Any a b _ _ _ (HS.out _) (Ha.out.below L9.below) (Hb.out.below L9.below) Ga.out Gb.out).mono ?_
        rintro e w10 ⟨v, rfl, hv, hb10⟩
        rw [hx] at hv
        have L10 := L9.step hb10
        have Hx10 := Lib.hid (Hx9.out.below hb10)
        obtain ⟨Yd, yd, Yt, yt, rfl, _, _, ydl, ytl, _, _, _⟩ := hv.opened
        have Hy := Lib.hid hv
        clear hv L9 hb10 Hx9
        have hne : ∀ t : Bool, (t != t) = false := by decide
        clear hx
        go_wp2_with fail
        have L11 := L10.alloc' w10.heap.size #[Value.bool x.write, Value.int IntKind.i64 x.lo, Value.int IntKind.i64 x.many, Value.slice Yd x.data.length yd, Value.slice Yt x.tags.length yt, Value.int IntKind.i64 x.born] 45 rfl
        have hbA := ((Below.refl _ _).alloc (Nat.le_refl _) _ : Below w10.heap.size w10 (w10.alloc (Obj.cells #[Value.bool x.write, Value.int IntKind.i64 x.lo, Value.int IntKind.i64 x.many, Value.slice Yd x.data.length yd, Value.slice Yt x.tags.length yt, Value.int IntKind.i64 x.born] 45)))
        have Hx11 := Lib.hid (Hx10.out.below hbA)
        have Hy11 := Lib.hid (Hy.out.below hbA)
        clear hbA
        generalize World.alloc _ _ = W11 at L11 Hx11 Hy11 ⊢
        clear L10 Hx10 Hy
        have Ha11 := Lib.hid (Ha.out.below L11.below)
        obtain ⟨c0, c1, c2, c3, c4, c5⟩ := L11.c6 0 rfl
        obtain ⟨d0, d1, d2, d3, d4, d5⟩ := L11.c6 1 rfl
        obtain ⟨e0, e1, e2, e3, e4, e5⟩ := L11.c6 3 rfl
        have c0 := cell_regrown c0
        have c1 := cell_regrown c1
        have c2 := cell_regrown c2
        have c3 := cell_regrown c3
        have c4 := cell_regrown c4
        have c5 := cell_regrown c5
        have d0 := cell_regrown d0
        have d1 := cell_regrown d1
        have d2 := cell_regrown d2
        have d3 := cell_regrown d3
        have d4 := cell_regrown d4
        have d5 := cell_regrown d5
        have e0 := cell_regrown e0
        have e1 := cell_regrown e1
        have e2 := cell_regrown e2
        have e3 := cell_regrown e3
        have e4 := cell_regrown e4
        have e5 := cell_regrown e5
        refine wp_region_quiet_below mixed (by kernel_rfl) ?_
        repeat (quiet_step (first
          | (go_at_call 33; exact Calls.rg (same_req1 (Hx11.out.below (below_regrown _ _ _)) (Hy11.out.below (below_regrown _ _ _))))
          | (go_at_call 43; exact Calls.rg (text_any Any a _ _ (Ha11.out.below (below_regrown _ _ _)) ht8))
          | (go_at_call 45; exact Calls.rg (rtext_any Any a _ _ (Ha11.out.below (below_regrown _ _ _)) ht8))))
        refine wpQuiet_nil ?_
        intro _ hw'
        obtain ⟨⟨dq, osq⟩, hw''⟩ := hw'
        subst hw''
        have L12 := L11.step (below_regrown W11 dq osq)
        generalize grow (redrawn W11 dq) osq = w12 at L12 ⊢
        clear c0 c1 c2 c3 c4 c5 d0 d1 d2 d3 d4 d5 e0 e1 e2 e3 e4 e5 L11 Ha11 Hx11 Hy11
        obtain ⟨c0, c1, c2, c3, c4, c5⟩ := L12.c6 3 rfl
        obtain ⟨s1, s2, s3, s4, s5⟩ := Ga.out.span
        go_wp2_with fail
        refine (part_any Any a _ _ _ _ _ _ _ dl at_ _ (HD.out.below L12.below) s1 (by omega) hat_ (by omega)).mono ?_
        rintro e w13 ⟨rfl, hb13⟩
        have L13 := L12.step hb13
        clear L12 hb13 c0 c1 c2 c3 c4 c5
        generalize hp : partM a.lo a.many dl at_ = p
        have Hp := Lib.hid hp
        clear hp
        obtain ⟨p1, p2⟩ := p
        simp only
        go_wp2_with fail
        have HL := Lib.hid L13
        clear L13
        go_loopw [13, 15, 16] (fun h t i wr => ∃ (k : Nat) (q : ByteArray × Bool), (k : Int) ≤ a.many ∧ k ≤ dl.length ∧ i = .int .i64 k ∧ t = .string q.1 ∧ h = .bool q.2 ∧ Below w13.heap.size w13 wr ∧ Hid (partK a.lo dl at_ k = q)) (fun _ _ i _ => dl.length - (intOf i).toNat)
        case atStart => exact ⟨0, (⟨#[]⟩, false), by omega, by omega, rfl, rfl, rfl, Below.refl _ _, partK_zero _ _ _⟩
        case round =>
          obtain ⟨k, ⟨q1, q2⟩, hk1, hk2, rfl, rfl, rfl, hb, hq⟩ := hrel
          simp only at *
          obtain ⟨c0, c1, c2, c3, c4, c5⟩ := (HL.out.step hb).c6 3 rfl
          by_cases hend : (k : Int) = a.many ∨ (dl.length ≤ k ∧ (k : Int) ≤ a.many)
          · have he := partK_end (lo := a.lo) (at_ := at_) hend
            rw [hq.out, Hp.out] at he
            injection he with he1 he2
            subst he1 he2
            have hfin : Below w.heap.size w wr := HL.out.below.trans (hb.mono HL.out.size)
            by_cases hm : (k : Int) < a.many
            · have f1 : decide ((k : Int) < a.many) = true := decide_eq_true hm
              have f2 : decide ((k : Int) < (dl.length : Int)) = false := decide_eq_false (by omega)
              go_wp2_with fail
              go_ret
              exact ⟨by simp, hfin⟩
            · have f1 : decide ((k : Int) < a.many) = false := decide_eq_false hm
              go_wp2_with fail
              go_ret
              exact ⟨by simp, hfin⟩
          · have hm : (k : Int) < a.many := by omega
            have hlt : k < dl.length := by omega
            clear hend
            have f1 : decide ((k : Int) < a.many) = true := decide_eq_true hm
            have f2 : decide ((k : Int) < (dl.length : Int)) = true := decide_eq_true (by omega)
            have f3 : IntKind.i64.wrap (a.lo + (k : Int)) = a.lo + (k : Int) := IntWalk.i64_in _ (by omega)
            have f4 : (k : Int) < (dl.length : Int) := by omega
            obtain ⟨bD, oD, rfl, _, _, hc⟩ := ((HD.out.below HL.out.below).below hb).at_ (by omega)
            have hx : dl[k]? = some dl[k] := List.getElem?_eq_getElem hlt
            obtain ⟨hcell, _⟩ := hc k _ hx
            have Hx := Lib.hid hx
            clear hx hc
            generalize dl[k] = s at *
            by_cases hh : a.lo + (k : Int) = at_
            · have Hh := Lib.hid hh
              have f5 : (a.lo + (k : Int) == at_) = true := by simpa using hh
              clear hh
              go_wp2_with fail
              go_roundw
              case rel => exact ⟨k + 1, (s, true), by omega, by omega, by go_num, rfl, rfl, hb, partK_hit Hh.out Hx.out⟩
              case measure => simp [intOf]; omega
            · have Hh := Lib.hid hh
              have f5 : (a.lo + (k : Int) == at_) = false := by simpa using hh
              clear hh
              go_wp2_with fail
              go_roundw
              case rel => exact ⟨k + 1, (q1, q2), by omega, by omega, by go_num, rfl, rfl, hb, by show _ = _; rw [partK_miss Hh.out]; exact hq.out⟩
              case measure => simp [intOf]; omega
end Go.Proofs.Ytfklcfpkbnddfaa
