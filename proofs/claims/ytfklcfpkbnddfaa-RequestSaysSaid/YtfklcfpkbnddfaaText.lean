/- request.Text. -/
import Derived.Test.YtfklcfpkbnddfaaTextLaw
import Derived.Test.YtfklcfpkbnddfaaOwn
import Derived.Test.YtfklcfpkbnddfaaConcat
import Derived.Test.YtfklcfpkbnddfaaMerge
namespace Go.Proofs.Ytfklcfpkbnddfaa
set_option linter.unusedSimpArgs false
set_option linter.unusedVariables false
open Go.RowKit Go.Sort

theorem rd_row1 (w : World) (u : Value) (T : TypeId) : Rd (fun _ => True) (w.alloc (Obj.cells #[u] T)) 1 (.slice (some ⟨w.heap.size, 0, none⟩) 1 1) 1 [u] :=
  ⟨_, 1, rfl, Nat.le_refl _, by simp [maxLen], rfl, fun _ => ⟨w.heap.size, 0, rfl, trivial, fun j v hv => by
    rw [Nat.zero_add, cell_of_row _ _ j _ _ _ (heap_alloc_new w _)]
    simpa using hv⟩⟩
theorem join_own {w : World} {base n c : Nat} {A : Option Addr} {xs : List ByteArray} (hown : w.ownsRow base 9 1 (.slice A n c) n (xs.map .string)) (hn : xs.length = n) (hN : n ≤ 8) (hl : (Lib.join (xs.map (·.data.toList)) [44]).length ≤ 400) :
    Calls Try.prog 59 #[.slice A n c, .string ⟨#[44]⟩] w (Ret (.string ⟨(Lib.join (xs.map (·.data.toList)) [44]).toArray⟩) w) := by
  rcases Nat.eq_zero_or_pos n with h0 | h0
  · subst h0
    obtain rfl : xs = [] := List.eq_nil_of_length_eq_zero hn
    refine (join_none A c _ w).mono ?_
    rintro e w' ⟨rfl, rfl⟩
    exact ⟨rfl, Below.refl _ _⟩
  · obtain ⟨g, cap, e, hg, hlt, hcap, _⟩ := own_form hown h0
    cases e
    subst hn
    exact (join_some g 0 c xs ⟨#[44]⟩ w (fun j x hx => by
      have := hown.cells (g := g) rfl j (.string x) (by rw [List.getElem?_map, hx]; rfl)
      simpa [Go.WideShapes.add_plain] using this) hlt (by omega) hcap (Nat.le_trans hl (by decide))).mono fun e w' h => h
set_option maxRecDepth 100000 in
set_option maxHeartbeats 2000000 in
theorem text_any (S : Nat → Prop) (r : Rq) (v : Value) (w : World) (h : ReqAt S w v r) (ht : r.tags.length ≤ 8) :
    Calls Try.prog 43 #[v, .func (.func 44) #[] #[]] w (Ret (.string (textM r)) w) := by
  obtain ⟨i0, hi0, hz0, hz1, hz2⟩ := info_parts stringInfo
  obtain ⟨Ad, cd, At, ct, rfl, _, hat, _, _, ⟨l1, l2⟩, ⟨m1, m2⟩, _⟩ := h.opened
  have Ht := Lib.hid hat
  clear hat h
  have s1 := decI_size l1 l2
  have s2 := decI_size m1 m2
  have Hl := Lib.hid (fun w => dec_any r.lo w l1 l2)
  have Hm := Lib.hid (fun w => dec_any r.many w m1 m2)
  have hT : Hid (textM r = tagsT r.tags r.tags.length ((((kindT r.write ++ decI r.lo) ++ ⟨#[43]⟩) ++ decI r.many) ++ ⟨#[35]⟩)) := rfl
  generalize decI r.lo = dl at *
  generalize decI r.many = dm at *
  generalize hk : kindT r.write = kt at *
  have hkk : (r.write = true ∧ kt = ⟨#[119]⟩) ∨ (r.write = false ∧ kt = ⟨#[114]⟩) := by
    cases hw : r.write with
    | true => left; rw [hw] at hk; exact ⟨rfl, hk.symm⟩
    | false => right; rw [hw] at hk; exact ⟨rfl, hk.symm⟩
  clear hk
  rcases hkk with ⟨hw, rfl⟩ | ⟨hw, rfl⟩
  · go_enter Try.func43, Try.ntmps43
    go_wp2_with fail
    have L := (Lay.refl w).alloc' w.heap.size #[Value.bool r.write, Value.int IntKind.i64 r.lo, Value.int IntKind.i64 r.many, Value.slice Ad r.data.length cd, Value.slice At r.tags.length ct, Value.int IntKind.i64 r.born] 45 rfl
    rw [hw] at L
    generalize World.alloc _ _ = W at L ⊢
    obtain ⟨c0, c1, c2, c3, c4, c5⟩ := L.c6 0 rfl
    have c1 := cell_regrown c1
    have c2 := cell_regrown c2
    have z1 : ¬ (9223372036854775807 < dl.size + 1) := by omega
    have z2 : ¬ (9223372036854775807 < dl.size + 1 + dm.size) := by omega
    have z3 : ¬ (9223372036854775807 < 1 + (dl.size + 1 + dm.size)) := by omega
    refine wp_region_quiet_below mixed (by kernel_rfl) ?_
    repeat (quiet_step (first | (go_at_call 44; first | (with_reducible exact Calls.rg (Hl.out _)) | (with_reducible exact Calls.rg (Hm.out _)))))
    refine wpQuiet_nil ?_
    intro _ hw'
    obtain ⟨⟨dq, osq⟩, hw''⟩ := hw'
    subst hw''
    have L2 := L.step (below_regrown W dq osq)
    generalize grow (redrawn W dq) osq = W2 at L2 ⊢
    clear c0 c1 c2 c3 c4 c5 L z1 z2 z3
    have HL := Lib.hid L2
    obtain ⟨c0, c1, c2, c3, c4, c5⟩ := L2.c6 0 rfl
    clear L2
    go_wp2_with fail
    clear c0 c1 c2 c3 c4 c5
    have HS2 := Lib.hid (rfl : W2 = W2)
    go_loopw [6, 28] (fun v i wr => ∃ (k : Nat), k ≤ r.tags.length ∧ i = .int .i64 k ∧ Below W2.heap.size W2 wr ∧ Hid (wr.ownsRow W2.heap.size 9 1 v k ((decs r.tags k).map .string))) (fun _ i _ => r.tags.length - (intOf i).toNat)
    case atStart => exact ⟨0, by omega, rfl, Below.refl _ _, World.ownsRow_nil _ _ _ _⟩
    case round =>
      obtain ⟨k, hk, rfl, hb, HO⟩ := hrel
      by_cases hlt : k < r.tags.length
      · obtain ⟨b, off, rfl, _, _, hc⟩ := ((Ht.out.below HL.out.below).below hb).at_ (by omega)
        have hx : r.tags[k]? = some r.tags[k] := List.getElem?_eq_getElem hlt
        obtain ⟨hcell, hx1, hx2⟩ := hc k _ hx
        have Hx := Lib.hid hx
        clear hx hc
        generalize r.tags[k] = x at *
        have hk1 : (k : Int) < (r.tags.length : Int) := by omega
        have hds := decI_size hx1 hx2
        have Hd := Lib.hid (fun w => dec_any x w hx1 hx2)
        have Hdec := Lib.hid (decs_succ Hx.out)
        generalize decI x = dx at *
        go_wp2_with fail
        refine (Hd.out _).mono ?_
        rintro e w1 ⟨rfl, hb1⟩
        have hbr := (Below.refl w1.heap.size w1).alloc (Nat.le_refl _) (Obj.cells #[Value.string dx] 9)
        have hw1 := hb.trans (hb1.mono hb.size)
        have hwb := hw1.trans (hbr.mono hw1.size)
        have hba := (hb1.trans (hbr.mono hb1.size) : Below wr.heap.size wr _)
        have HO1 := Lib.hid (own_keepL HO.out (fun g _ hg => hba.block g hg))
        have Hrow := Lib.hid (rd_row1 w1 (.string dx) 9)
        have Hwb := Lib.hid hwb
        clear hbr hba hwb
        go_wp2_with (at_builtin; refine wpList_append_rd (S := fun _ => True) _ rfl (.tmp 32) (.tmp 36) _ rfl W2.heap.size 9 i0 _ 1 16 Try.underlying42 hi0 hz0 hz1 hz2 rfl (by omega) _ k ((decs r.tags k).map .string) rfl HO1.out _ 1 _ rfl Hrow.out (fun u hu => by simp at hu; subst hu; rfl) (by simp only [maxLen]; omega) (by omega) Hwb.out.size ?_; intro v5 w5 hown5 hg5 hat5)
        have HB5 := Lib.hid (Hwb.out.grown hg5 Hwb.out.size (fun k hk => (HO1.out.lt k hk).1))
        have HO5 := Lib.hid hown5
        clear hown5 hg5 hat5
        go_roundw
        case rel => exact ⟨k + 1, by omega, by go_num, HB5.out, by show World.ownsRow _ _ _ _ _ _ _; rw [Hdec.out, List.map_append]; exact HO5.out⟩
        case measure => simp [intOf]; omega
      · obtain rfl : k = r.tags.length := by omega
        have hsz : ∀ x ∈ (decs r.tags r.tags.length).map (·.data.toList), x.length ≤ 40 := by
          intro x hx
          obtain ⟨y, hy, rfl⟩ := List.mem_map.1 hx
          obtain ⟨t, htm, rfl⟩ := List.mem_map.1 hy
          have h1 := Ht.out.2 t (List.mem_of_mem_take htm)
          have := decI_size h1.1 h1.2
          simpa using this
        have hjl := join_len _ 40 hsz
        rw [List.length_map, decs_len (Nat.le_refl _)] at hjl
        have hjl' : (Lib.join ((decs r.tags r.tags.length).map (·.data.toList)) [44]).length ≤ 400 := by omega
        have hval := tagsT_join (l := r.tags) (({ data := #[119] } : ByteArray) ++ dl ++ { data := #[43] } ++ dm ++ { data := #[35] }) (Nat.le_refl _)
        have Hdl := Lib.hid (decs_len (l := r.tags) (Nat.le_refl _))
        generalize hJ : Lib.join ((decs r.tags r.tags.length).map (·.data.toList)) [44] = J at *
        have hfin : (({ data := #[119] } : ByteArray) ++ (dl ++ { data := #[43] } ++ dm) ++ { data := #[35] } ++ ⟨J.toArray⟩) = textM r := by
          rw [hT.out]
          apply bytes_eq
          rw [hval]
          simp
        have Hfin := Lib.hid hfin
        have HJ := Lib.hid hJ
        have hjs : (⟨J.toArray⟩ : ByteArray).size ≤ 400 := (show J.toArray.size ≤ 400 by simpa using hjl')
        have hJJ : (⟨(Lib.join ((decs r.tags r.tags.length).map (·.data.toList)) [44]).toArray⟩ : ByteArray) = ⟨J.toArray⟩ := by rw [hJ]
        have hlj : (Lib.join ((decs r.tags r.tags.length).map (·.data.toList)) [44]).length ≤ 400 := by rw [hJ]; exact hjl'
        have HJJ := Lib.hid hJJ
        have Hlj := Lib.hid hlj
        generalize (⟨J.toArray⟩ : ByteArray) = JJ at *
        clear hfin hJ hval hjl hjl' hsz hJJ hlj
        obtain ⟨A6, c6, rfl⟩ := own_slice HO.out
        have y1 : ¬ (9223372036854775807 < 1 + (dl.size + 1 + dm.size) + 1) := by omega
        have y2 : ¬ (9223372036854775807 < 1 + (dl.size + 1 + dm.size) + 1 + JJ.size) := by omega
        go_wp2_with fail
        refine (join_own HO.out Hdl.out ht Hlj.out).mono ?_
        rw [HJJ.out]
        rintro e w7 ⟨rfl, hb7⟩
        go_wp2_with fail
        go_ret
        exact ⟨congrArg (fun t => Ending.returned (Value.string t)) Hfin.out, HL.out.below.trans (Below.mono (hb.trans (hb7.mono hb.size)) HL.out.size)⟩
  · go_enter Try.func43, Try.ntmps43
    go_wp2_with fail
    have L := (Lay.refl w).alloc' w.heap.size #[Value.bool r.write, Value.int IntKind.i64 r.lo, Value.int IntKind.i64 r.many, Value.slice Ad r.data.length cd, Value.slice At r.tags.length ct, Value.int IntKind.i64 r.born] 45 rfl
    rw [hw] at L
    generalize World.alloc _ _ = W at L ⊢
    obtain ⟨c0, c1, c2, c3, c4, c5⟩ := L.c6 0 rfl
    have c1 := cell_regrown c1
    have c2 := cell_regrown c2
    have z1 : ¬ (9223372036854775807 < dl.size + 1) := by omega
    have z2 : ¬ (9223372036854775807 < dl.size + 1 + dm.size) := by omega
    have z3 : ¬ (9223372036854775807 < 1 + (dl.size + 1 + dm.size)) := by omega
    refine wp_region_quiet_below mixed (by kernel_rfl) ?_
    repeat (quiet_step (first | (go_at_call 44; first | (with_reducible exact Calls.rg (Hl.out _)) | (with_reducible exact Calls.rg (Hm.out _)))))
    refine wpQuiet_nil ?_
    intro _ hw'
    obtain ⟨⟨dq, osq⟩, hw''⟩ := hw'
    subst hw''
    have L2 := L.step (below_regrown W dq osq)
    generalize grow (redrawn W dq) osq = W2 at L2 ⊢
    clear c0 c1 c2 c3 c4 c5 L z1 z2 z3
    have HL := Lib.hid L2
    obtain ⟨c0, c1, c2, c3, c4, c5⟩ := L2.c6 0 rfl
    clear L2
    go_wp2_with fail
    clear c0 c1 c2 c3 c4 c5
    have HS2 := Lib.hid (rfl : W2 = W2)
    go_loopw [6, 28] (fun v i wr => ∃ (k : Nat), k ≤ r.tags.length ∧ i = .int .i64 k ∧ Below W2.heap.size W2 wr ∧ Hid (wr.ownsRow W2.heap.size 9 1 v k ((decs r.tags k).map .string))) (fun _ i _ => r.tags.length - (intOf i).toNat)
    case atStart => exact ⟨0, by omega, rfl, Below.refl _ _, World.ownsRow_nil _ _ _ _⟩
    case round =>
      obtain ⟨k, hk, rfl, hb, HO⟩ := hrel
      by_cases hlt : k < r.tags.length
      · obtain ⟨b, off, rfl, _, _, hc⟩ := ((Ht.out.below HL.out.below).below hb).at_ (by omega)
        have hx : r.tags[k]? = some r.tags[k] := List.getElem?_eq_getElem hlt
        obtain ⟨hcell, hx1, hx2⟩ := hc k _ hx
        have Hx := Lib.hid hx
        clear hx hc
        generalize r.tags[k] = x at *
        have hk1 : (k : Int) < (r.tags.length : Int) := by omega
        have hds := decI_size hx1 hx2
        have Hd := Lib.hid (fun w => dec_any x w hx1 hx2)
        have Hdec := Lib.hid (decs_succ Hx.out)
        generalize decI x = dx at *
        go_wp2_with fail
        refine (Hd.out _).mono ?_
        rintro e w1 ⟨rfl, hb1⟩
        have hbr := (Below.refl w1.heap.size w1).alloc (Nat.le_refl _) (Obj.cells #[Value.string dx] 9)
        have hw1 := hb.trans (hb1.mono hb.size)
        have hwb := hw1.trans (hbr.mono hw1.size)
        have hba := (hb1.trans (hbr.mono hb1.size) : Below wr.heap.size wr _)
        have HO1 := Lib.hid (own_keepL HO.out (fun g _ hg => hba.block g hg))
        have Hrow := Lib.hid (rd_row1 w1 (.string dx) 9)
        have Hwb := Lib.hid hwb
        clear hbr hba hwb
        go_wp2_with (at_builtin; refine wpList_append_rd (S := fun _ => True) _ rfl (.tmp 32) (.tmp 36) _ rfl W2.heap.size 9 i0 _ 1 16 Try.underlying42 hi0 hz0 hz1 hz2 rfl (by omega) _ k ((decs r.tags k).map .string) rfl HO1.out _ 1 _ rfl Hrow.out (fun u hu => by simp at hu; subst hu; rfl) (by simp only [maxLen]; omega) (by omega) Hwb.out.size ?_; intro v5 w5 hown5 hg5 hat5)
        have HB5 := Lib.hid (Hwb.out.grown hg5 Hwb.out.size (fun k hk => (HO1.out.lt k hk).1))
        have HO5 := Lib.hid hown5
        clear hown5 hg5 hat5
        go_roundw
        case rel => exact ⟨k + 1, by omega, by go_num, HB5.out, by show World.ownsRow _ _ _ _ _ _ _; rw [Hdec.out, List.map_append]; exact HO5.out⟩
        case measure => simp [intOf]; omega
      · obtain rfl : k = r.tags.length := by omega
        have hsz : ∀ x ∈ (decs r.tags r.tags.length).map (·.data.toList), x.length ≤ 40 := by
          intro x hx
          obtain ⟨y, hy, rfl⟩ := List.mem_map.1 hx
          obtain ⟨t, htm, rfl⟩ := List.mem_map.1 hy
          have h1 := Ht.out.2 t (List.mem_of_mem_take htm)
          have := decI_size h1.1 h1.2
          simpa using this
        have hjl := join_len _ 40 hsz
        rw [List.length_map, decs_len (Nat.le_refl _)] at hjl
        have hjl' : (Lib.join ((decs r.tags r.tags.length).map (·.data.toList)) [44]).length ≤ 400 := by omega
        have hval := tagsT_join (l := r.tags) (({ data := #[114] } : ByteArray) ++ dl ++ { data := #[43] } ++ dm ++ { data := #[35] }) (Nat.le_refl _)
        have Hdl := Lib.hid (decs_len (l := r.tags) (Nat.le_refl _))
        generalize hJ : Lib.join ((decs r.tags r.tags.length).map (·.data.toList)) [44] = J at *
        have hfin : (({ data := #[114] } : ByteArray) ++ (dl ++ { data := #[43] } ++ dm) ++ { data := #[35] } ++ ⟨J.toArray⟩) = textM r := by
          rw [hT.out]
          apply bytes_eq
          rw [hval]
          simp
        have Hfin := Lib.hid hfin
        have HJ := Lib.hid hJ
        have hjs : (⟨J.toArray⟩ : ByteArray).size ≤ 400 := (show J.toArray.size ≤ 400 by simpa using hjl')
        have hJJ : (⟨(Lib.join ((decs r.tags r.tags.length).map (·.data.toList)) [44]).toArray⟩ : ByteArray) = ⟨J.toArray⟩ := by rw [hJ]
        have hlj : (Lib.join ((decs r.tags r.tags.length).map (·.data.toList)) [44]).length ≤ 400 := by rw [hJ]; exact hjl'
        have HJJ := Lib.hid hJJ
        have Hlj := Lib.hid hlj
        generalize (⟨J.toArray⟩ : ByteArray) = JJ at *
        clear hfin hJ hval hjl hjl' hsz hJJ hlj
        obtain ⟨A6, c6, rfl⟩ := own_slice HO.out
        have y1 : ¬ (9223372036854775807 < 1 + (dl.size + 1 + dm.size) + 1) := by omega
        have y2 : ¬ (9223372036854775807 < 1 + (dl.size + 1 + dm.size) + 1 + JJ.size) := by omega
        go_wp2_with fail
        refine (join_own HO.out Hdl.out ht Hlj.out).mono ?_
        rw [HJJ.out]
        rintro e w7 ⟨rfl, hb7⟩
        go_wp2_with fail
        go_ret
        exact ⟨congrArg (fun t => Ending.returned (Value.string t)) Hfin.out, HL.out.below.trans (Below.mono (hb.trans (hb7.mono hb.size)) HL.out.size)⟩
end Go.Proofs.Ytfklcfpkbnddfaa
