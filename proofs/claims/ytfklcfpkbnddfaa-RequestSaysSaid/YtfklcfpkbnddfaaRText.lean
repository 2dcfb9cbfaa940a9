/- The reference's ReqText. -/
import Derived.Test.YtfklcfpkbnddfaaJoin
import Derived.Test.YtfklcfpkbnddfaaMem
namespace Go.Proofs.Ytfklcfpkbnddfaa
set_option linter.unusedSimpArgs false
set_option linter.unusedVariables false
open Go.RowKit Go.Sort

abbrev lit (l : List UInt8) : ByteArray := ⟨l.toArray⟩
def kindT (b : Bool) : ByteArray := if b then ⟨#[119]⟩ else ⟨#[114]⟩
def headT (r : Rq) : ByteArray := ((((kindT r.write) ++ decI r.lo) ++ ⟨#[43]⟩) ++ decI r.many) ++ ⟨#[35]⟩
/-- The first k tags, with commas. -/
def tagsT (l : List Int) : Nat → ByteArray → ByteArray
  | 0, s => s
  | k + 1, s => (if 0 < k then tagsT l k s ++ ⟨#[44]⟩ else tagsT l k s) ++ decI (l.getD k 0)
def textM (r : Rq) : ByteArray := tagsT r.tags r.tags.length (headT r)
theorem tagsT_zero (l : List Int) (s : ByteArray) {x : Int} (h : l[0]? = some x) : tagsT l 1 s = s ++ decI x := by
  show (if 0 < 0 then _ else tagsT l 0 s) ++ _ = _
  rw [List.getD_eq_getElem?_getD, h]; rfl
theorem tagsT_succ (l : List Int) (k : Nat) (s : ByteArray) {x : Int} (hk : 0 < k) (h : l[k]? = some x) : tagsT l (k + 1) s = tagsT l k s ++ ⟨#[44]⟩ ++ decI x := by
  show (if 0 < k then tagsT l k s ++ ⟨#[44]⟩ else tagsT l k s) ++ _ = _
  rw [if_pos hk, List.getD_eq_getElem?_getD, h]; rfl
theorem first_tag {l : List Int} {k : Nat} {hd st dx : ByteArray} {x : Int} (hk : k = 0) (hx : l[k]? = some x) (hd' : decI x = dx) (hs : st = tagsT l k hd) : Hid (st ++ dx = tagsT l (k + 1) hd) := by
  subst hk
  show _ = _
  rw [tagsT_zero _ _ hx, hd', hs]; rfl
set_option maxRecDepth 100000 in
set_option maxHeartbeats 2000000 in
theorem rtext_any (S : Nat → Prop) (r : Rq) (v : Value) (w : World) (h : ReqAt S w v r) (ht : r.tags.length ≤ 8) :
    Calls Try.prog 45 #[v] w (Ret (.string (textM r)) w) := by
  obtain ⟨Ad, cd, At, ct, rfl, _, hat, _, _, ⟨l1, l2⟩, ⟨m1, m2⟩, _⟩ := h.opened
  have Ht := Lib.hid hat
  clear hat h
  have s1 := decI_size l1 l2
  have s2 := decI_size m1 m2
  have Hl := Lib.hid (fun w => dec_any r.lo w l1 l2)
  have Hm := Lib.hid (fun w => dec_any r.many w m1 m2)
  have hT : Hid (textM r = tagsT r.tags r.tags.length ((((kindT r.write ++ decI r.lo) ++ ⟨#[43]⟩) ++ decI r.many) ++ ⟨#[35]⟩)) := rfl
  generalize decI r.lo = dl at *
  generalize decI r.many = dm at *
  generalize hk : kindT r.write = kt at *
  have s3 : kt.size = 1 := by rw [← hk]; unfold kindT; split <;> rfl
  have hkk : (r.write = true ∧ kt = ⟨#[119]⟩) ∨ (r.write = false ∧ kt = ⟨#[114]⟩) := by
    cases hw : r.write with
    | true => left; rw [hw] at hk; exact ⟨rfl, hk.symm⟩
    | false => right; rw [hw] at hk; exact ⟨rfl, hk.symm⟩
  clear hk
  rcases hkk with ⟨hw, rfl⟩ | ⟨hw, rfl⟩
  · go_enter Try.func45, Try.ntmps45
    go_wp2_with fail
    have L := (Lay.refl w).alloc' w.heap.size #[Value.bool r.write, Value.int IntKind.i64 r.lo, Value.int IntKind.i64 r.many, Value.slice Ad r.data.length cd, Value.slice At r.tags.length ct, Value.int IntKind.i64 r.born] 45 rfl
    rw [hw] at L
    generalize World.alloc _ _ = W at L ⊢
    obtain ⟨c0, c1, c2, c3, c4, c5⟩ := L.c6 0 rfl
    have c1 := cell_regrown c1
    have c2 := cell_regrown c2
    have z1 : ¬ (9223372036854775807 < 1 + dl.size) := by omega
    have z2 : ¬ (9223372036854775807 < 1 + dl.size + 1) := by omega
    have z3 : ¬ (9223372036854775807 < 1 + dl.size + 1 + dm.size) := by omega
    have z4 : ¬ (9223372036854775807 < 1 + dl.size + 1 + dm.size + 1) := by omega
    refine wp_region_quiet_below mixed (by kernel_rfl) ?_
    repeat (quiet_step (first | (go_at_call 44; first | (with_reducible exact Calls.rg (Hl.out _)) | (with_reducible exact Calls.rg (Hm.out _)))))
    refine wpQuiet_nil ?_
    intro _ hw'
    obtain ⟨⟨dq, osq⟩, hw''⟩ := hw'
    subst hw''
    have L2 := L.step (below_regrown W dq osq)
    generalize grow (redrawn W dq) osq = W2 at L2 ⊢
    clear c0 c1 c2 c3 c4 c5 L z1 z2 z3 z4
    have HL := Lib.hid L2
    clear L2
    go_wp2_with fail
    have hhs : (({ data := #[119] } : ByteArray) ++ dl ++ { data := #[43] } ++ dm ++ { data := #[35] }).size ≤ 90 := by simp only [ByteArray.size_append]; show 1 + _ + 1 + _ + 1 ≤ _; omega
    generalize ({ data := #[119] } : ByteArray) ++ dl ++ { data := #[43] } ++ dm ++ { data := #[35] } = hd at hhs hT ⊢
    go_loopw [3, 4] (fun s i wr => ∃ (k : Nat) (st : ByteArray), k ≤ r.tags.length ∧ i = .int .i64 k ∧ s = .string st ∧ st.size ≤ 90 + 50 * k ∧ Below W2.heap.size W2 wr ∧ Hid (st = tagsT r.tags k hd)) (fun _ i _ => r.tags.length - (intOf i).toNat)
    case atStart => exact ⟨0, hd, by omega, rfl, rfl, by omega, Below.refl _ _, rfl⟩
    case round =>
      obtain ⟨k, st, hk, rfl, rfl, hst, hb, hs⟩ := hrel
      obtain ⟨c0, c1, c2, c3, c4, c5⟩ := (HL.out.step hb).c6 0 rfl
      by_cases hlt : k < r.tags.length
      · obtain ⟨b, off, rfl, _, _, hc⟩ := ((Ht.out.below HL.out.below).below hb).at_ (by omega)
        have hx : r.tags[k]? = some r.tags[k] := List.getElem?_eq_getElem hlt
        obtain ⟨hcell, hx1, hx2⟩ := hc k _ hx
        have Hx := Lib.hid hx
        clear hx hc
        generalize r.tags[k] = x at *
        have hk1 : (k : Int) < (r.tags.length : Int) := by omega
        have hds := decI_size hx1 hx2
        have Hd := Lib.hid (fun w => dec_any x w hx1 hx2)
        generalize hdx : decI x = dx at *
        have Hdx := Lib.hid hdx
        clear hdx
        by_cases hk0 : k = 0
        · have y2 : decide (0 < k) = false := by simp; omega
          have Hk0 := Lib.hid hk0
          clear hk0
          have y1 : ¬ (9223372036854775807 < st.size + dx.size) := by omega
          go_wp2_with fail
          refine (Hd.out _).mono ?_
          rintro e w1 ⟨rfl, hb1⟩
          go_wp2_with fail
          go_roundw
          case rel => exact ⟨k + 1, _, by omega, by go_num, rfl, by rw [ByteArray.size_append]; omega, hb.trans (hb1.mono hb.size), first_tag Hk0.out Hx.out Hdx.out hs.out⟩
          case measure => simp [intOf]; omega
        · have y0 : ¬ (9223372036854775807 < st.size + 1) := by omega
          have y1 : ¬ (9223372036854775807 < st.size + 1 + dx.size) := by omega
          have y2 : decide (0 < k) = true := by simp; omega
          go_wp2_with fail
          refine (Hd.out _).mono ?_
          rintro e w1 ⟨rfl, hb1⟩
          go_wp2_with fail
          go_roundw
          case rel => exact ⟨k + 1, _, by omega, by go_num, rfl, by rw [ByteArray.size_append, ByteArray.size_append]; show _ + 1 + _ ≤ _; omega, hb.trans (hb1.mono hb.size), by show _ = _; rw [tagsT_succ _ _ _ (by omega) Hx.out, Hdx.out, hs.out]⟩
          case measure => simp [intOf]; omega
      · obtain rfl : k = r.tags.length := by omega
        go_wp2_with fail
        go_ret
        exact ⟨congrArg (fun t => Ending.returned (Value.string t)) (hs.out.trans hT.out.symm), HL.out.below.trans (hb.mono HL.out.size)⟩
  · go_enter Try.func45, Try.ntmps45
    go_wp2_with fail
    have L := (Lay.refl w).alloc' w.heap.size #[Value.bool r.write, Value.int IntKind.i64 r.lo, Value.int IntKind.i64 r.many, Value.slice Ad r.data.length cd, Value.slice At r.tags.length ct, Value.int IntKind.i64 r.born] 45 rfl
    rw [hw] at L
    generalize World.alloc _ _ = W at L ⊢
    obtain ⟨c0, c1, c2, c3, c4, c5⟩ := L.c6 0 rfl
    have c1 := cell_regrown c1
    have c2 := cell_regrown c2
    have z1 : ¬ (9223372036854775807 < 1 + dl.size) := by omega
    have z2 : ¬ (9223372036854775807 < 1 + dl.size + 1) := by omega
    have z3 : ¬ (9223372036854775807 < 1 + dl.size + 1 + dm.size) := by omega
    have z4 : ¬ (9223372036854775807 < 1 + dl.size + 1 + dm.size + 1) := by omega
    refine wp_region_quiet_below mixed (by kernel_rfl) ?_
    repeat (quiet_step (first | (go_at_call 44; first | (with_reducible exact Calls.rg (Hl.out _)) | (with_reducible exact Calls.rg (Hm.out _)))))
    refine wpQuiet_nil ?_
    intro _ hw'
    obtain ⟨⟨dq, osq⟩, hw''⟩ := hw'
    subst hw''
    have L2 := L.step (below_regrown W dq osq)
    generalize grow (redrawn W dq) osq = W2 at L2 ⊢
    clear c0 c1 c2 c3 c4 c5 L z1 z2 z3 z4
    have HL := Lib.hid L2
    clear L2
    go_wp2_with fail
    have hhs : (({ data := #[114] } : ByteArray) ++ dl ++ { data := #[43] } ++ dm ++ { data := #[35] }).size ≤ 90 := by simp only [ByteArray.size_append]; show 1 + _ + 1 + _ + 1 ≤ _; omega
    generalize ({ data := #[114] } : ByteArray) ++ dl ++ { data := #[43] } ++ dm ++ { data := #[35] } = hd at hhs hT ⊢
    go_loopw [3, 4] (fun s i wr => ∃ (k : Nat) (st : ByteArray), k ≤ r.tags.length ∧ i = .int .i64 k ∧ s = .string st ∧ st.size ≤ 90 + 50 * k ∧ Below W2.heap.size W2 wr ∧ Hid (st = tagsT r.tags k hd)) (fun _ i _ => r.tags.length - (intOf i).toNat)
    case atStart => exact ⟨0, hd, by omega, rfl, rfl, by omega, Below.refl _ _, rfl⟩
    case round =>
      obtain ⟨k, st, hk, rfl, rfl, hst, hb, hs⟩ := hrel
      obtain ⟨c0, c1, c2, c3, c4, c5⟩ := (HL.out.step hb).c6 0 rfl
      by_cases hlt : k < r.tags.length
      · obtain ⟨b, off, rfl, _, _, hc⟩ := ((Ht.out.below HL.out.below).below hb).at_ (by omega)
        have hx : r.tags[k]? = some r.tags[k] := List.getElem?_eq_getElem hlt
        obtain ⟨hcell, hx1, hx2⟩ := hc k _ hx
        have Hx := Lib.hid hx
        clear hx hc
        generalize r.tags[k] = x at *
        have hk1 : (k : Int) < (r.tags.length : Int) := by omega
        have hds := decI_size hx1 hx2
        have Hd := Lib.hid (fun w => dec_any x w hx1 hx2)
        generalize hdx : decI x = dx at *
        have Hdx := Lib.hid hdx
        clear hdx
        by_cases hk0 : k = 0
        · have y2 : decide (0 < k) = false := by simp; omega
          have Hk0 := Lib.hid hk0
          clear hk0
          have y1 : ¬ (9223372036854775807 < st.size + dx.size) := by omega
          go_wp2_with fail
          refine (Hd.out _).mono ?_
          rintro e w1 ⟨rfl, hb1⟩
          go_wp2_with fail
          go_roundw
          case rel => exact ⟨k + 1, _, by omega, by go_num, rfl, by rw [ByteArray.size_append]; omega, hb.trans (hb1.mono hb.size), first_tag Hk0.out Hx.out Hdx.out hs.out⟩
          case measure => simp [intOf]; omega
        · have y0 : ¬ (9223372036854775807 < st.size + 1) := by omega
          have y1 : ¬ (9223372036854775807 < st.size + 1 + dx.size) := by omega
          have y2 : decide (0 < k) = true := by simp; omega
          go_wp2_with fail
          refine (Hd.out _).mono ?_
          rintro e w1 ⟨rfl, hb1⟩
          go_wp2_with fail
          go_roundw
          case rel => exact ⟨k + 1, _, by omega, by go_num, rfl, by rw [ByteArray.size_append, ByteArray.size_append]; show _ + 1 + _ ≤ _; omega, hb.trans (hb1.mono hb.size), by show _ = _; rw [tagsT_succ _ _ _ (by omega) Hx.out, Hdx.out, hs.out]⟩
          case measure => simp [intOf]; omega
      · obtain rfl : k = r.tags.length := by omega
        go_wp2_with fail
        go_ret
        exact ⟨congrArg (fun t => Ending.returned (Value.string t)) (hs.out.trans hT.out.symm), HL.out.below.trans (hb.mono HL.out.size)⟩
end Go.Proofs.Ytfklcfpkbnddfaa
