
/- Use and Clean, the program's and the reference's. -/
import Derived.Test.YtdhiepcglnbkbaaBufGood
import Derived.Test.YtdhiepcglnbkbaaBufClone
namespace Go.Proofs.Ytdhiepcglnbkbaa
set_option linter.unusedSimpArgs false
set_option linter.unusedVariables false
open Go.RowKit

theorem own_slice {w : World} {base n size : Nat} {e : TypeId} {v : Value} {xs : List Value} (h : w.ownsRow base e size v n xs) : ∃ A cap, v = .slice A n cap ∧ n ≤ cap ∧ cap ≤ 9223372036854775807 := by
  rcases h.2 with ⟨h, h0⟩ | ⟨g, cap, cur, h, _, _, h3, h4, _⟩
  · exact ⟨none, 0, by rw [h, h0], by omega, by omega⟩
  · unfold maxLen at h4; exact ⟨_, cap, h, h3, by omega⟩
theorem bufs_of_own {w : World} {base : Nat} {v : Value} {l : List Bf} {S : Nat → Prop} (hS : ∀ b, base ≤ b → S b) (h : w.ownsRow base 72 4 v l.length (flatB l)) (hok : ∀ b ∈ l, BfOk b) : BufsAt S w v l := ⟨Rd.of_own w hS h, hok⟩
theorem own_cells4 {w : World} {base g n cap : Nat} {l : List Bf} (h : w.ownsRow base 72 4 (.slice (some ⟨g, 0, none⟩) n cap) n (flatB l)) {i : Nat} {x : Bf} (hx : l[i]? = some x) :
    w.cell? ⟨g, i * 4, none⟩ = some (.int .i64 x.pos) ∧ w.cell? ⟨g, i * 4 + 1, none⟩ = some (.string x.data) ∧ w.cell? ⟨g, i * 4 + 2, none⟩ = some (.bool x.dirty) ∧ w.cell? ⟨g, i * 4 + 3, none⟩ = some (.int .i64 x.used) := by
  have hg := fun j hj => flatB_get l i j x hx hj
  have hc := fun j u hu => h.cells (g := g) rfl j u hu
  simp only [Go.WideShapes.add_plain, Nat.zero_add] at hc
  exact ⟨hc (i * 4 + 0) _ ((hg 0 (by omega)).trans rfl), hc (i * 4 + 1) _ ((hg 1 (by omega)).trans rfl), hc (i * 4 + 2) _ ((hg 2 (by omega)).trans rfl), hc (i * 4 + 3) _ ((hg 3 (by omega)).trans rfl)⟩
/-- It returns a row of the call's own that holds the sectors. -/
def RetBufs (l : List Bf) (w : World) : Ending → World → Prop := RetOwn 72 4 l.length (flatB l) w

set_option maxRecDepth 100000 in
set_option maxHeartbeats 2000000 in
theorem use_any (S : Nat → Prop) (l : List Bf) (v : Value) (p now : Int) (w : World) (h : BufsAt S w v l) (hr : Rises l) (hn : l.length ≤ 65536) :
    Calls Try.prog 42 #[v, .int .i64 p, .int .i64 now] w (RetBufs (useB l p now) w) := by
  obtain ⟨A, cap, rfl, h1, h2⟩ := h.form
  have hl : (useB l p now).length = l.length := by simp [useB]
  unfold RetBufs
  rw [hl]
  have H := Lib.hid h
  have HR := Lib.hid hr
  clear h hr hl
  go_enter Try.func42, Try.ntmps42
  go_wp2_with fail
  refine (bclone_any S _ l.length (flatB l) _ H.out.1 (flatB_one l) hn).mono ?_
  rintro e w1 ⟨v1, rfl, hown, hb1⟩
  have Hown := Lib.hid hown
  have Hb1 := Lib.hid hb1
  obtain ⟨A1, cp1, rfl, hc1, hc2⟩ := own_slice hown
  clear hown hb1
  go_wp2_with fail
  refine (find_any (fun _ => True) l _ p _ (bufs_of_own (fun _ _ => trivial) Hown.out H.out.2) HR.out hn).mono ?_
  rintro e w2 ⟨rfl, hb2⟩
  have Ho2 := Lib.hid (own_below Hown.out hb2)
  have Hb2 := Lib.hid (Hb1.out.trans (hb2.mono Hb1.out.size))
  clear hb2
  cases hi : isB l p with
  | false =>
    go_wp2_with fail
    go_ret
    exact ⟨_, rfl, by rw [useB_no hi]; exact Ho2.out, Hb2.out⟩
  | true =>
    obtain ⟨x, hx, hp⟩ := isB_at HR.out hi
    have hlt := (List.getElem?_eq_some_iff.1 hx).1
    have hi1 : ((posB l p : Nat) : Int) < (l.length : Int) := by omega
    obtain ⟨g, cp, e, hbg, hgl, _, _⟩ := own_pos Ho2.out (by omega)
    cases e
    obtain ⟨k0, k1, k2, k3⟩ := own_cells4 Ho2.out hx
    have hfr := own_frozen Ho2.out (by omega)
    have Hx := Lib.hid hx
    have Hp := Lib.hid hp
    clear hx hp
    go_wp2_with fail
    go_ret
    refine ⟨_, rfl, ?_, Hb2.out.setCell hbg _⟩
    rw [useB_at HR.out Hx.out Hp.out, ← flatB_set1 (c := { x with used := now }) Hx.out 3 (by omega) (.int .i64 now) rfl]
    exact own_setCell Ho2.out (by omega)

set_option maxRecDepth 100000 in
set_option maxHeartbeats 2000000 in
theorem clean_any (S : Nat → Prop) (l : List Bf) (v : Value) (p : Int) (d : ByteArray) (w : World) (h : BufsAt S w v l) (hr : Rises l) (hn : l.length ≤ 65536) :
    Calls Try.prog 48 #[v, .int .i64 p, .string d] w (RetBufs (cleanB l p d) w) := by
  obtain ⟨A, cap, rfl, h1, h2⟩ := h.form
  have hl : (cleanB l p d).length = l.length := by simp [cleanB]
  unfold RetBufs
  rw [hl]
  have H := Lib.hid h
  have HR := Lib.hid hr
  clear h hr hl
  go_enter Try.func48, Try.ntmps48
  go_wp2_with fail
  refine (bclone_any S _ l.length (flatB l) _ H.out.1 (flatB_one l) hn).mono ?_
  rintro e w1 ⟨v1, rfl, hown, hb1⟩
  have Hown := Lib.hid hown
  have Hb1 := Lib.hid hb1
  obtain ⟨A1, cp1, rfl, hc1, hc2⟩ := own_slice hown
  clear hown hb1
  go_wp2_with fail
  refine (find_any (fun _ => True) l _ p _ (bufs_of_own (fun _ _ => trivial) Hown.out H.out.2) HR.out hn).mono ?_
  rintro e w2 ⟨rfl, hb2⟩
  have Ho2 := Lib.hid (own_below Hown.out hb2)
  have Hb2 := Lib.hid (Hb1.out.trans (hb2.mono Hb1.out.size))
  clear hb2
  cases hi : isB l p with
  | false =>
    go_wp2_with fail
    go_ret
    exact ⟨_, rfl, by rw [cleanB_no (fun b hb hp => absurd hp (isB_false.1 hi b hb))]; exact Ho2.out, Hb2.out⟩
  | true =>
    obtain ⟨x, hx, hp⟩ := isB_at HR.out hi
    have hlt := (List.getElem?_eq_some_iff.1 hx).1
    have hi1 : ((posB l p : Nat) : Int) < (l.length : Int) := by omega
    obtain ⟨g, cp, e, hbg, hgl, _, _⟩ := own_pos Ho2.out (by omega)
    cases e
    obtain ⟨k0, k1, k2, k3⟩ := own_cells4 Ho2.out hx
    have hfr := own_frozen Ho2.out (by omega)
    have Hx := Lib.hid hx
    have Hp := Lib.hid hp
    clear hx hp
    by_cases hd : x.data = d
    · have ht : (x.data.toList == d.toList) = true := by rw [hd]; exact beq_self_eq_true _
      have Hd := Lib.hid hd
      clear hd
      go_wp2_with fail
      go_ret
      refine ⟨_, rfl, ?_, Hb2.out.setCell hbg _⟩
      rw [cleanB_at HR.out Hx.out Hp.out Hd.out, ← flatB_set1 (c := { x with dirty := false }) Hx.out 2 (by omega) (.bool false) rfl]
      exact own_setCell Ho2.out (by omega)
    · have ht : (x.data.toList == d.toList) = false := by simpa using bytes_ne hd
      have Hd := Lib.hid hd
      clear hd
      go_wp2_with fail
      go_ret
      exact ⟨_, rfl, by rw [cleanB_other HR.out Hx.out Hp.out Hd.out]; exact Ho2.out, Hb2.out⟩
/-- The first k turned, the others as they were. -/
def upto (f : Bf → Bf) (l : List Bf) (k : Nat) : List Bf := (l.take k).map f ++ l.drop k
theorem upto_len (f : Bf → Bf) (l : List Bf) (k : Nat) : (upto f l k).length = l.length := by simp [upto]; omega
theorem upto_at {f : Bf → Bf} {l : List Bf} {k : Nat} {x : Bf} (hx : l[k]? = some x) : (upto f l k)[k]? = some x := by
  have hlt := (List.getElem?_eq_some_iff.1 hx).1
  unfold upto
  rw [List.getElem?_append_right (by simp; exact Nat.min_le_left _ _), List.length_map, List.length_take, Nat.min_eq_left (by omega), Nat.sub_self, List.getElem?_drop, Nat.add_zero, hx]
theorem upto_succ {f : Bf → Bf} {l : List Bf} {k : Nat} {x : Bf} (hx : l[k]? = some x) : upto f l (k + 1) = (upto f l k).set k (f x) := by
  have hlt := (List.getElem?_eq_some_iff.1 hx).1
  have hk : ((l.take k).map f).length = k := by rw [List.length_map, List.length_take]; omega
  unfold upto
  rw [List.take_add_one, hx, List.set_append, hk, if_neg (by omega), Nat.sub_self, List.map_append]
  obtain ⟨h, rfl⟩ := List.getElem?_eq_some_iff.1 hx
  have e := List.drop_eq_getElem_cons h
  simp
  rw [e, List.set_cons_zero]
theorem upto_same {f : Bf → Bf} {l : List Bf} {k : Nat} {x : Bf} (hx : l[k]? = some x) (hf : f x = x) : upto f l (k + 1) = upto f l k := by
  rw [upto_succ hx, hf]
  have := upto_at (f := f) hx
  obtain ⟨h, e⟩ := List.getElem?_eq_some_iff.1 this
  conv => lhs; rw [← e]
  exact List.set_getElem_self h
theorem upto_zero (f : Bf → Bf) (l : List Bf) : upto f l 0 = l := by simp [upto]
theorem upto_all (f : Bf → Bf) {l : List Bf} {k : Nat} (hk : l.length ≤ k) : upto f l k = l.map f := by unfold upto; rw [List.take_of_length_le hk, List.drop_eq_nil_of_le hk, List.append_nil]

set_option maxRecDepth 100000 in
set_option maxHeartbeats 2000000 in
theorem ruse_any (S : Nat → Prop) (l : List Bf) (v : Value) (p now : Int) (w : World) (h : BufsAt S w v l) (hn : l.length ≤ 65536) :
    Calls Try.prog 43 #[v, .int .i64 p, .int .i64 now] w (RetBufs (useB l p now) w) := by
  obtain ⟨i0, hi0, hz0, hz1, hz2⟩ := info_parts bufInfo
  have hl : (useB l p now).length = l.length := by simp [useB]
  unfold RetBufs
  rw [hl]
  obtain ⟨f, hf⟩ : ∃ f : Bf → Bf, (fun b => if b.pos = p then { b with used := now } else b) = f := ⟨_, rfl⟩
  have HF : Hid (∀ b, f b = if b.pos = p then { b with used := now } else b) := fun b => by rw [← hf]
  rw [show useB l p now = l.map f by rw [← hf]; rfl]
  have H := Lib.hid h
  clear h hl hf
  obtain ⟨A, cap, rfl, h1, h2⟩ := H.out.form
  go_enter Try.func43, Try.ntmps43
  go_wp2_with (at_builtin; refine wpList_append_rd (S := S) _ rfl (.const (.slice none 0 0)) (.tmp 9) _ rfl w.heap.size 72 i0 _ 4 40 Try.underlying70 hi0 hz0 hz1 hz2 rfl (by omega) (.slice none 0 0) 0 [] rfl (World.ownsRow_nil _ _ _ _) (.slice A l.length cap) l.length (flatB l) rfl H.out.1 (flatB_one l) (by simp only [maxLen]; omega) (by omega) (Nat.le_refl _) ?_; intro v1 w1 hown1 hg1 hat1)
  rw [Nat.zero_add, List.nil_append] at hown1
  have Hb1 : Hid (Below w.heap.size w w1) := Below.grown (Below.refl _ _) hg1 (by simp) (fun k hk => by simp [Value.ownBlock] at hk)
  obtain ⟨A1, cp1, rfl, hc1, hc2⟩ := own_slice hown1
  have Hown := Lib.hid hown1
  clear hown1 hg1 hat1
  go_loopw [8] (fun i wr => ∃ k : Nat, k ≤ l.length ∧ i = .int .i64 k ∧ Hid (Below w.heap.size w wr) ∧ Hid (wr.ownsRow w.heap.size 72 4 (.slice A1 l.length cp1) l.length (flatB (upto f l k)))) (fun i _ => l.length - (intOf i).toNat)
  case atStart => exact ⟨0, by omega, rfl, Hb1, by rw [upto_zero]; exact Hown⟩
  case round =>
    obtain ⟨k, hk, rfl, Hb, Ho⟩ := hrel
    by_cases hlt : k < l.length
    · have hx : l[k]? = some l[k] := List.getElem?_eq_getElem hlt
      have hi1 : (k : Int) < (l.length : Int) := by omega
      obtain ⟨g, cp, e, hbg, hgl, _, _⟩ := own_pos Ho.out (by omega)
      cases e
      obtain ⟨k0, k1, k2, k3⟩ := own_cells4 Ho.out (upto_at hx)
      have hfr := own_frozen Ho.out (by omega)
      have Hx := Lib.hid hx
      clear hx
      generalize l[k] = x at *
      by_cases hp : x.pos = p
      · have hfx := Lib.hid (HF.out x)
        rw [if_pos hp] at hfx
        go_wp2_with fail
        go_roundw
        case rel => exact ⟨k + 1, by omega, by go_num, Hb.out.setCell hbg _, by
          rw [upto_succ Hx.out, hfx.out, ← flatB_set1 (c := { x with used := now }) (upto_at Hx.out) 3 (by omega) (.int .i64 now) rfl]
          exact own_setCell Ho.out (by omega)⟩
        case measure => simp [intOf]; omega
      · have hfx := Lib.hid (HF.out x)
        rw [if_neg hp] at hfx
        go_wp2_with fail
        go_roundw
        case rel => exact ⟨k + 1, by omega, by go_num, Hb, by rw [upto_same Hx.out hfx.out]; exact Ho⟩
        case measure => simp [intOf]; omega
    · have hi1 : decide ((k : Int) < (l.length : Int)) = false := by simp; omega
      go_wp2
      go_ret
      exact ⟨_, rfl, by rw [← upto_all f (show l.length ≤ k by omega)]; exact Ho.out, Hb.out⟩
set_option maxRecDepth 100000 in
set_option maxHeartbeats 2000000 in
theorem rclean_any (S : Nat → Prop) (l : List Bf) (v : Value) (p : Int) (d : ByteArray) (w : World) (h : BufsAt S w v l) (hn : l.length ≤ 65536) :
    Calls Try.prog 49 #[v, .int .i64 p, .string d] w (RetBufs (cleanB l p d) w) := by
  obtain ⟨i0, hi0, hz0, hz1, hz2⟩ := info_parts bufInfo
  have hl : (cleanB l p d).length = l.length := by simp [cleanB]
  unfold RetBufs
  rw [hl]
  obtain ⟨f, hf⟩ : ∃ f : Bf → Bf, (fun b => if b.pos = p ∧ b.data = d then { b with dirty := false } else b) = f := ⟨_, rfl⟩
  have HF : Hid (∀ b, f b = if b.pos = p ∧ b.data = d then { b with dirty := false } else b) := fun b => by rw [← hf]
  rw [show cleanB l p d = l.map f by rw [← hf]; rfl]
  have H := Lib.hid h
  clear h hl hf
  obtain ⟨A, cap, rfl, h1, h2⟩ := H.out.form
  go_enter Try.func49, Try.ntmps49
  go_wp2_with (at_builtin; refine wpList_append_rd (S := S) _ rfl (.const (.slice none 0 0)) (.tmp 9) _ rfl w.heap.size 72 i0 _ 4 40 Try.underlying70 hi0 hz0 hz1 hz2 rfl (by omega) (.slice none 0 0) 0 [] rfl (World.ownsRow_nil _ _ _ _) (.slice A l.length cap) l.length (flatB l) rfl H.out.1 (flatB_one l) (by simp only [maxLen]; omega) (by omega) (Nat.le_refl _) ?_; intro v1 w1 hown1 hg1 hat1)
  rw [Nat.zero_add, List.nil_append] at hown1
  have Hb1 : Hid (Below w.heap.size w w1) := Below.grown (Below.refl _ _) hg1 (by simp) (fun k hk => by simp [Value.ownBlock] at hk)
  obtain ⟨A1, cp1, rfl, hc1, hc2⟩ := own_slice hown1
  have Hown := Lib.hid hown1
  clear hown1 hg1 hat1
  go_loopw [8] (fun i wr => ∃ k : Nat, k ≤ l.length ∧ i = .int .i64 k ∧ Hid (Below w.heap.size w wr) ∧ Hid (wr.ownsRow w.heap.size 72 4 (.slice A1 l.length cp1) l.length (flatB (upto f l k)))) (fun i _ => l.length - (intOf i).toNat)
  case atStart => exact ⟨0, by omega, rfl, Hb1, by rw [upto_zero]; exact Hown⟩
  case round =>
    obtain ⟨k, hk, rfl, Hb, Ho⟩ := hrel
    by_cases hlt : k < l.length
    · have hx : l[k]? = some l[k] := List.getElem?_eq_getElem hlt
      have hi1 : (k : Int) < (l.length : Int) := by omega
      obtain ⟨g, cp, e, hbg, hgl, _, _⟩ := own_pos Ho.out (by omega)
      cases e
      obtain ⟨k0, k1, k2, k3⟩ := own_cells4 Ho.out (upto_at hx)
      have hfr := own_frozen Ho.out (by omega)
      have Hx := Lib.hid hx
      clear hx
      generalize l[k] = x at *
      by_cases hp : x.pos = p
      · by_cases hd : x.data = d
        · have ht : (x.data.toList == d.toList) = true := by rw [hd]; exact beq_self_eq_true _
          have hfx := Lib.hid (HF.out x)
          rw [if_pos ⟨hp, hd⟩] at hfx
          clear hd
          go_wp2_with fail
          go_roundw
          case rel => exact ⟨k + 1, by omega, by go_num, Hb.out.setCell hbg _, by
            rw [upto_succ Hx.out, hfx.out, ← flatB_set1 (c := { x with dirty := false }) (upto_at Hx.out) 2 (by omega) (.bool false) rfl]
            exact own_setCell Ho.out (by omega)⟩
          case measure => simp [intOf]; omega
        · have ht : (x.data.toList == d.toList) = false := by simpa using bytes_ne hd
          have hfx := Lib.hid (HF.out x)
          rw [if_neg (fun e => hd e.2)] at hfx
          clear hd
          go_wp2_with fail
          go_roundw
          case rel => exact ⟨k + 1, by omega, by go_num, Hb, by rw [upto_same Hx.out hfx.out]; exact Ho⟩
          case measure => simp [intOf]; omega
      · have hfx := Lib.hid (HF.out x)
        rw [if_neg (fun e => hp e.1)] at hfx
        have hp2 : decide (x.pos = p) = false := decide_eq_false hp
        go_wp2_with fail
        go_roundw
        case rel => exact ⟨k + 1, by omega, by go_num, Hb, by rw [upto_same Hx.out hfx.out]; exact Ho⟩
        case measure => simp [intOf]; omega
    · have hi1 : decide ((k : Int) < (l.length : Int)) = false := by simp; omega
      go_wp2
      go_ret
      exact ⟨_, rfl, by rw [← upto_all f (show l.length ≤ k by omega)]; exact Ho.out, Hb.out⟩
end Go.Proofs.Ytdhiepcglnbkbaa
