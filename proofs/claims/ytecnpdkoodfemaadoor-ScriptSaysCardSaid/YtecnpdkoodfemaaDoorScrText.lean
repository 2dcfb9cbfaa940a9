
/- script.Text: a step's text. -/
import Derived.Test.YtecnpdkoodfemaaDoorScr
import Derived.Test.YtecnpdkoodfemaaDoorOwnS
import Derived.Lib.ItoaLen
import Derived.Lib.OthersKept
namespace Go.Proofs.YtecnpdkoodfemaaDoor
set_option linter.unusedSimpArgs false
set_option linter.unusedVariables false
open Go.RowKit

def dataM (z : Stp) : ByteArray := if z.data.toList.isEmpty then hyphen else z.data
def partsL (z : Stp) : List ByteArray := [itoaB z.a, itoaB z.b, dataM z]
def wordsM (k : Nat) (z : Stp) : List ByteArray := z.word :: (partsL z).take k
def textJ (k : Nat) (z : Stp) : ByteArray := ⟨(Lib.join ((wordsM k z).map (·.data.toList)) [32]).toArray⟩
def textM (z : Stp) : ByteArray := if checkM z = 0 then textJ ((formK z.word).getD 0) z else ⟨#[]⟩

theorem strInfo : (Tryd.prog.info? 9).map (fun i => (i.zero, i.size, i.bytes)) = some (some (.string ByteArray.empty), 1, 16) := by kernel_rfl
theorem join32_len : ∀ (xs : List (List UInt8)) (B : Nat), (∀ x ∈ xs, x.length ≤ B) → (Lib.join xs [32]).length ≤ xs.length * (B + 1)
  | [], B, _ => by simp [Lib.join, List.intercalate]
  | [a], B, h => by
    have := h a (by simp)
    simp [Lib.join, List.intercalate]; omega
  | a :: b :: r, B, h => by
    have h1 := h a (by simp)
    have h2 := join32_len (b :: r) B (fun x hx => h x (by simp at hx ⊢; right; exact hx))
    have e : Lib.join (a :: b :: r) [32] = a ++ [32] ++ Lib.join (b :: r) [32] := by simp [Lib.join, List.intercalate]
    rw [e]
    simp only [List.length_append, List.length_cons, List.length_nil] at h2 ⊢
    have : (r.length + 1 + 1) * (B + 1) = (r.length + 1) * (B + 1) + (B + 1) := by rw [Nat.succ_mul]
    omega
theorem join_own32 {w : World} {base n c : Nat} {A : Option Addr} {xs : List ByteArray} (hown : w.ownsRow base 9 1 (.slice A n c) n (xs.map .string)) (hn : xs.length = n) (h0 : 0 < n) (hl : (Lib.join (xs.map (·.data.toList)) [32]).length ≤ 1000) (hN : n ≤ 1000) :
    Calls Tryd.prog 19 #[.slice A n c, .string ⟨#[32]⟩] w (Ret (.string ⟨(Lib.join (xs.map (·.data.toList)) [32]).toArray⟩) w) := by
  obtain ⟨g, cap, e, hg, hlt, hcap, _⟩ := own_form hown h0
  cases e
  subst hn
  exact (Tryd.strings_Join g 0 c xs ⟨#[32]⟩ w (fun j x hx => by
    have := hown.cells (g := g) rfl j (.string x) (by rw [List.getElem?_map, hx]; rfl)
    simpa [Go.WideShapes.add_plain] using this) hlt (by omega) hcap (Nat.le_trans hl (by decide))).mono fun e w' h => h

theorem form_size (k : Nat) (h : k ≤ 3) : (⟨(formS k).toArray⟩ : ByteArray).size = k := by
  match k, h with
  | 0, _ | 1, _ | 2, _ | 3, _ => rfl
def formC (i : Nat) : Nat := if i = 0 then 97 else if i = 1 then 98 else 100
theorem form_at (k : Nat) (h : k ≤ 3) (i : Nat) (hi : i < k) (hs : i < (⟨(formS k).toArray⟩ : ByteArray).size) : ((⟨(formS k).toArray⟩ : ByteArray)[i]'hs).toNat = formC i := by
  match k, h, i, hi, hs with
  | 1, _, 0, _, _ | 2, _, 0, _, _ | 2, _, 1, _, _ | 3, _, 0, _, _ | 3, _, 1, _, _ | 3, _, 2, _, _ => rfl

theorem wordsM_len (k : Nat) (z : Stp) (h : k ≤ 3) : (wordsM k z).length = k + 1 := by
  unfold wordsM partsL
  match k, h with
  | 0, _ | 1, _ | 2, _ | 3, _ => rfl
theorem itoaB_size (n : Int) (h0 : -9223372036854775808 ≤ n) (h1 : n ≤ 9223372036854775807) : (itoaB n).size ≤ 21 := Lib.itoa_length_le n h0 h1
theorem dataM_size (z : Stp) (h : z.data.size ≤ 100) : (dataM z).size ≤ 100 := by
  unfold dataM
  split
  · decide
  · exact h
theorem textJ_len (k : Nat) (z : Stp) (hk : k ≤ 3) (hw : z.word.size ≤ 100) (hd : z.data.size ≤ 100) (a0 : -9223372036854775808 ≤ z.a) (a1 : z.a ≤ 9223372036854775807) (b0 : -9223372036854775808 ≤ z.b) (b1 : z.b ≤ 9223372036854775807) :
    (Lib.join ((wordsM k z).map (·.data.toList)) [32]).length ≤ 1000 := by
  have := join32_len ((wordsM k z).map (·.data.toList)) 100 (fun x hx => by
    obtain ⟨y, hy, rfl⟩ := List.mem_map.1 hx
    have e : y.data.toList.length = y.size := by simp
    rw [e]
    unfold wordsM at hy
    rcases List.mem_cons.1 hy with rfl | hy
    · exact hw
    · have := List.mem_of_mem_take hy
      unfold partsL at this
      simp only [List.mem_cons, List.mem_nil_iff, or_false] at this
      rcases this with rfl | rfl | rfl
      · have := itoaB_size z.a a0 a1; omega
      · have := itoaB_size z.b b0 b1; omega
      · exact dataM_size z hd)
  rw [List.length_map, wordsM_len k z hk] at this
  have h4 : (k + 1) * (100 + 1) ≤ 4 * 101 := Nat.mul_le_mul (by omega) (by omega)
  omega

/-- The list of words under way: the step's box, the iterator over the form, the list of the call's own. -/
structure TL (f : ByteArray) (z : Stp) (w : World) (bb s0 bi pos n : Nat) (l : Value) (wr : World) : Prop where
  box : StpBox 32 bb z w wr
  it : wr.heap[bi]? = some (.stringIter f pos)
  own : wr.ownsRow s0 9 1 l (n + 1) ((wordsM n z).map .string)
  lo : w.heap.size ≤ s0
  bs : bb < s0
  bi : s0 ≤ bi
theorem TL.lt {f : ByteArray} {z : Stp} {w wr : World} {bb s0 bi pos n : Nat} {l : Value} (h : TL f z w bb s0 bi pos n l wr) : s0 ≤ wr.heap.size := by
  have := (Array.getElem?_eq_some_iff.1 h.it).1
  have := h.bi
  omega
theorem TL.ne {f : ByteArray} {z : Stp} {w wr : World} {bb s0 bi pos n : Nat} {l : Value} (h : TL f z w bb s0 bi pos n l wr) {g : Nat} (hg : l.ownBlock = some g) : g ≠ bi ∧ s0 ≤ g ∧ g < wr.heap.size := by
  refine ⟨fun e => ?_, h.own.lt g hg⟩
  subst e
  rcases h.own.2 with ⟨_, h0⟩ | ⟨g', cap, cur, hv, _, hh, _⟩
  · omega
  · subst hv
    simp only [Value.ownBlock, Option.some.injEq] at hg
    subst hg
    rw [h.it] at hh
    cases hh
theorem TL.step {f : ByteArray} {z : Stp} {w wr w' : World} {bb s0 bi pos n : Nat} {l : Value} (h : TL f z w bb s0 bi pos n l wr) (hb : Below wr.heap.size wr w') : TL f z w bb s0 bi pos n l w' :=
  ⟨h.box.step hb, (hb.block _ (Array.getElem?_eq_some_iff.1 h.it).1).trans h.it, own_keepL h.own (fun g _ hg => hb.block g hg), h.lo, h.bs, h.bi⟩
theorem StpBox.step2 {T : TypeId} {b s : Nat} {z : Stp} {w W W' : World} (h : StpBox T b z w W) (hb : Below s W W') (h1 : w.heap.size ≤ s) (h2 : b < s) : StpBox T b z w W' :=
  ⟨h.bel.trans (hb.mono h1), h.lo, Nat.lt_of_lt_of_le h.hi hb.size, (hb.block _ h2).trans h.row⟩
theorem TL.next {f : ByteArray} {z : Stp} {w wr : World} {bb s0 bi pos n : Nat} {l : Value} (h : TL f z w bb s0 bi pos n l wr) (pos' : Nat) : TL f z w bb s0 bi pos' n l (wr.iterAt bi f pos') := by
  refine ⟨h.box.step2 (s := s0) (Lib.below_iterAt ⟨rfl, rfl, rfl, Nat.le_refl _, fun _ _ => rfl⟩ h.bi _ _) h.lo h.bs, Lib.iterAt_heap wr bi f pos pos' h.it, ?_, h.lo, h.bs, h.bi⟩
  have hne := fun g hg => (h.ne (g := g) hg).1
  obtain ⟨e1, e2⟩ := h.own
  refine ⟨e1, ?_⟩
  rcases e2 with e2 | ⟨g, cap, cur, rfl, hg, hh, h3⟩
  · exact .inl e2
  · exact .inr ⟨g, cap, cur, rfl, hg, (Lib.iterAt_other wr bi g f pos' (hne g rfl)).trans hh, h3⟩
theorem TL.app {f : ByteArray} {z : Stp} {w wr w' : World} {bb s0 bi pos n : Nat} {l l' : Value} {x : ByteArray} (h : TL f z w bb s0 bi pos n l wr) (hx : (partsL z)[n]? = some x)
    (ho : w'.ownsRow s0 9 1 l' (n + 1 + 1) ((wordsM n z).map .string ++ [.string x])) (hg : wr.grownBy w' l.ownBlock) : TL f z w bb s0 bi pos (n + 1) l' w' := by
  have hb : Below s0 wr w' := (⟨rfl, rfl, rfl, Nat.le_refl _, fun _ _ => rfl⟩ : Below s0 wr wr).grown hg h.lt (fun k hk => (h.ne hk).2.1)
  refine ⟨h.box.step2 hb h.lo h.bs, ?_, ?_, h.lo, h.bs, h.bi⟩
  · exact (hg.block bi (Array.getElem?_eq_some_iff.1 h.it).1 (fun e => (h.ne e.symm).1 rfl)).trans h.it
  · have e : (wordsM (n + 1) z).map Value.string = (wordsM n z).map .string ++ [.string x] := by
      unfold wordsM
      rw [List.take_add_one, hx]
      simp
    rw [e]
    exact ho

set_option maxRecDepth 100000 in
set_option maxHeartbeats 4000000 in
theorem text_any (z : Stp) (w : World) (hw : z.word.size ≤ 100) (hd : z.data.size ≤ 100) (a0 : -9223372036854775808 ≤ z.a) (a1 : z.a ≤ 9223372036854775807) (b0 : -9223372036854775808 ≤ z.b) (b1 : z.b ≤ 9223372036854775807) (hE : Env w) :
    Calls Tryd.prog 10 #[stpV z] w (Ret (.tuple #[.string (textM z), errV (checkM z)]) w) := by
  obtain ⟨i0, hi0, hz0, hz1, hz2⟩ := info_parts strInfo
  have hmax : z.word.size ≤ maxLen := by unfold maxLen; omega
  by_cases hc : checkM z = 0
  · have hT : textM z = textJ ((formK z.word).getD 0) z := by unfold textM; rw [if_pos hc]
    obtain ⟨k, hk⟩ : ∃ k, formK z.word = some k := by
      cases hk : formK z.word with
      | none => unfold checkM at hc; rw [hk] at hc; cases hc
      | some k => exact ⟨k, rfl⟩
    have hk3 := formK_le hk
    have hF := formT_some hk
    rw [hT, hk]
    clear hT
    have HJ := Lib.hid (textJ_len k z hk3 hw hd a0 a1 b0 b1)
    have HE := Lib.hid hE
    have HA := Lib.hid (fun w hE => itoa_any z.a w a0 a1 hE)
    have HBb := Lib.hid (fun w hE => itoa_any z.b w b0 b1 hE)
    have fsz := form_size k hk3
    have fat := form_at k hk3
    generalize (⟨(formS k).toArray⟩ : ByteArray) = f at hF fsz fat
    have FS := Lib.hid fsz
    have FA := Lib.hid fat
    have HT : Hid (textJ k z = ⟨(Lib.join ((wordsM k z).map (·.data.toList)) [32]).toArray⟩) := rfl
    show Calls _ _ _ _ (Ret (.tuple #[.string (textJ k z), errV (checkM z)]) w)
    rw [hc]
    clear hE fsz fat hk a0 a1 b0 b1
    go_enter Tryd.func10, Tryd.ntmps10
    go_wp2_with fail
    have B := StpBox.new 32 z w
    generalize World.alloc _ _ = W at B ⊢
    generalize w.heap.size = bb at B ⊢
    obtain ⟨c0, c1, c2, c3⟩ := B.c
    have BR := B.row
    have HB := Lib.hid B
    clear B
    go_wp2_with fail
    refine (check_any z W hmax).mono ?_
    rintro e w1 ⟨rfl, hb1⟩
    rw [hc, errV_zero]
    have B1 := HB.out.step hb1
    clear hb1 c0 c1 c2 c3 BR
    obtain ⟨c0, c1, c2, c3⟩ := B1.c
    have HB1 := Lib.hid B1
    clear B1
    obtain ⟨c4, _, _, _⟩ := (HB1.out.step ((Below.refl _ _).alloc (Nat.le_refl _) (Obj.cells #[.string z.word] 9))).c
    go_wp2_with fail
    have O2 := own_new1 w1 w1.heap.size (Nat.le_refl _) (.string z.word) 9
    have hb2 : Below w1.heap.size w1 (w1.alloc (Obj.cells #[.string z.word] 9)) := (Below.refl _ _).alloc (Nat.le_refl _) _
    generalize w1.alloc (Obj.cells #[.string z.word] 9) = w2 at O2 hb2 ⊢
    have HB2 := Lib.hid (HB1.out.step hb2)
    have hlo2 : w1.heap.size < w2.heap.size := (O2.lt _ rfl).2
    have h12 := HB1.out.hi
    have hs00 := HB1.out.bel.size
    generalize w1.heap.size = s0 at O2 hb2 hlo2 h12 hs00 ⊢
    refine (form_any z.word w2 hmax).mono ?_
    rintro e w3 ⟨rfl, hb3⟩
    rw [hF]
    have O3 := Lib.hid (own_keepL O2 (fun g _ hg => hb3.block g hg))
    have HB3 := Lib.hid (HB2.out.step hb3)
    have hs3 : s0 < w3.heap.size := Nat.lt_of_lt_of_le hlo2 hb3.size
    clear O2 hb2 hb3 hlo2 c0 c1 c2 c3 c4
    go_wp2_with fail
    have hit := w3.iter_heap f 0
    have O4 := own_keepL (w' := w3.iter f 0) O3.out (fun g _ hg => heap_alloc_old w3 _ hg)
    have hb4 : Below w3.heap.size w3 (w3.iter f 0) := (Below.refl _ _).alloc (Nat.le_refl _) _
    have HB4 := Lib.hid (HB3.out.step hb4)
    generalize w3.iter f 0 = w4 at hit O4 HB4 ⊢
    have hbi3 : s0 ≤ w3.heap.size := by omega
    generalize w3.heap.size = bi at hit hbi3 ⊢
    have T4 : TL f z w bb s0 bi 0 0 (.slice (some ⟨s0, 0, none⟩) 1 1) w4 := ⟨HB4.out, hit, O4, hs00, h12, hbi3⟩
    have HT4 := Lib.hid T4
    clear T4 hit O4 HB4 hbi3 hs00 h12 O3 HB3 hs3 hb4
    go_loopw [5, 9, 10] (fun l _ _ wr => ∃ pos : Nat, pos ≤ k ∧ Hid (TL f z w bb s0 bi pos pos l wr)) (fun _ _ _ wr => k - wr.iterPos bi)
    case atStart => exact ⟨0, by omega, HT4⟩
    case round =>
      obtain ⟨pos, hp, HTL⟩ := hrel
      have hit := HTL.out.it
      have hfs := FS.out
      by_cases hlt : pos < k
      · have hlt' : pos < f.size := by omega
        have hbyte := FA.out pos hlt hlt'
        obtain ⟨c0, c1, c2, c3⟩ := (HTL.out.next (pos + 1)).box.c
        have hnx := fun ty => Lib.run_next_ascii_at (P := Tryd.prog) wr bi f pos ty hit hlt' (by rw [hbyte]; unfold formC; split; omega; split <;> omega)
        rw [hbyte] at hnx
        have T5 := Lib.hid (HTL.out.next (pos + 1))
        generalize wr.iterAt bi f (pos + 1) = w5 at hnx T5 c0 c1 c2 c3
        have hpp : pos = 0 ∨ pos = 1 ∨ pos = 2 := by omega
        rcases hpp with rfl | rfl | rfl
        · replace hnx : ∀ ty, (Instr.next (.pointer (some ⟨bi, 0, none⟩)) true ty).run Tryd.prog wr = .ok (.tuple #[.bool true, .int .i64 0, .int .i32 97]) w5 := hnx
          clear hfs hlt' hbyte
          go_wp2_with fail
          refine (HA.out w5 (HE.out.below T5.out.box.bel)).mono ?_
          rintro e w6 ⟨rfl, hb6⟩
          have T6 := Lib.hid (T5.out.step hb6)
          have T7 := Lib.hid (T6.out.step ((Below.refl _ _).alloc (Nat.le_refl _) (Obj.cells #[.string (itoaB z.a)] 9)))
          have Hrow := Lib.hid (rd_row1 w6 (.string (itoaB z.a)) 9)
          go_wp2_with (at_builtin; refine wpList_append_rd (S := fun _ => True) _ rfl (.tmp 33) (.tmp 37) _ rfl s0 9 i0 _ 1 16 Tryd.underlying49 hi0 hz0 hz1 hz2 rfl (by omega) _ 1 ((wordsM 0 z).map .string) rfl T7.out.own _ 1 _ rfl Hrow.out (fun u hu => by simp at hu; subst hu; rfl) (by simp only [maxLen]; omega) (by omega) T7.out.lt ?_; intro v5 w8 hown8 hg8 hat8)
          have T8 := Lib.hid (T7.out.app (x := itoaB z.a) rfl hown8 hg8)
          clear hown8 hg8 hat8
          go_roundw
          case rel => exact ⟨1, by omega, T8⟩
          case measure => rw [World.iterPos, World.iterPos, T8.out.it, hit]; simp; omega
        · replace hnx : ∀ ty, (Instr.next (.pointer (some ⟨bi, 0, none⟩)) true ty).run Tryd.prog wr = .ok (.tuple #[.bool true, .int .i64 1, .int .i32 98]) w5 := hnx
          clear hfs hlt' hbyte
          go_wp2_with fail
          refine (HBb.out w5 (HE.out.below T5.out.box.bel)).mono ?_
          rintro e w6 ⟨rfl, hb6⟩
          have T6 := Lib.hid (T5.out.step hb6)
          have T7 := Lib.hid (T6.out.step ((Below.refl _ _).alloc (Nat.le_refl _) (Obj.cells #[.string (itoaB z.b)] 9)))
          have Hrow := Lib.hid (rd_row1 w6 (.string (itoaB z.b)) 9)
          go_wp2_with (at_builtin; refine wpList_append_rd (S := fun _ => True) _ rfl (.tmp 41) (.tmp 45) _ rfl s0 9 i0 _ 1 16 Tryd.underlying49 hi0 hz0 hz1 hz2 rfl (by omega) _ 2 ((wordsM 1 z).map .string) rfl T7.out.own _ 1 _ rfl Hrow.out (fun u hu => by simp at hu; subst hu; rfl) (by simp only [maxLen]; omega) (by omega) T7.out.lt ?_; intro v5 w8 hown8 hg8 hat8)
          have T8 := Lib.hid (T7.out.app (x := itoaB z.b) rfl hown8 hg8)
          clear hown8 hg8 hat8
          go_roundw
          case rel => exact ⟨2, by omega, T8⟩
          case measure => rw [World.iterPos, World.iterPos, T8.out.it, hit]; simp; omega
        · replace hnx : ∀ ty, (Instr.next (.pointer (some ⟨bi, 0, none⟩)) true ty).run Tryd.prog wr = .ok (.tuple #[.bool true, .int .i64 2, .int .i32 100]) w5 := hnx
          clear hfs hlt' hbyte
          rcases Bool.eq_false_or_eq_true z.data.toList.isEmpty with he | he
          · skip
            have T7 := Lib.hid (T5.out.step ((Below.refl _ _).alloc (Nat.le_refl _) (Obj.cells #[.string ⟨#[45]⟩] 9)))
            have Hrow := Lib.hid (rd_row1 w5 (.string ⟨#[45]⟩) 9)
            have hdm : (partsL z)[2]? = some ⟨#[45]⟩ := by
              show some (dataM z) = _
              unfold dataM
              rw [he]; rfl
            go_wp2_with (at_builtin; refine wpList_append_rd (S := fun _ => True) _ rfl (.tmp 53) (.tmp 55) _ rfl s0 9 i0 _ 1 16 Tryd.underlying49 hi0 hz0 hz1 hz2 rfl (by omega) _ 3 ((wordsM 2 z).map .string) rfl T7.out.own _ 1 _ rfl Hrow.out (fun u hu => by simp at hu; subst hu; rfl) (by simp only [maxLen]; omega) (by omega) T7.out.lt ?_; intro v5 w8 hown8 hg8 hat8)
            have T8 := Lib.hid (T7.out.app (x := ⟨#[45]⟩) hdm hown8 hg8)
            clear hown8 hg8 hat8
            go_roundw
            case rel => exact ⟨3, by omega, T8⟩
            case measure => rw [World.iterPos, World.iterPos, T8.out.it, hit]; simp; omega
          · skip
            have T7 := Lib.hid (T5.out.step ((Below.refl _ _).alloc (Nat.le_refl _) (Obj.cells #[.string z.data] 9)))
            have Hrow := Lib.hid (rd_row1 w5 (.string z.data) 9)
            have hdm : (partsL z)[2]? = some z.data := by
              show some (dataM z) = _
              unfold dataM
              rw [he]; rfl
            go_wp2_with (at_builtin; refine wpList_append_rd (S := fun _ => True) _ rfl (.tmp 53) (.tmp 55) _ rfl s0 9 i0 _ 1 16 Tryd.underlying49 hi0 hz0 hz1 hz2 rfl (by omega) _ 3 ((wordsM 2 z).map .string) rfl T7.out.own _ 1 _ rfl Hrow.out (fun u hu => by simp at hu; subst hu; rfl) (by simp only [maxLen]; omega) (by omega) T7.out.lt ?_; intro v5 w8 hown8 hg8 hat8)
            have T8 := Lib.hid (T7.out.app (x := z.data) hdm hown8 hg8)
            clear hown8 hg8 hat8
            go_roundw
            case rel => exact ⟨3, by omega, T8⟩
            case measure => rw [World.iterPos, World.iterPos, T8.out.it, hit]; simp; omega
      · obtain rfl : pos = k := by omega
        have hnx := fun ty => Lib.run_next_end_at (P := Tryd.prog) wr bi f pos ty hit (by omega)
        obtain ⟨g, cap, rfl, _, _, _⟩ := own_form HTL.out.own (by omega)
        go_wp2_with fail
        refine (join_own32 HTL.out.own (wordsM_len pos z hk3) (by omega) HJ.out (by omega)).mono ?_
        rintro e w9 ⟨rfl, hb9⟩
        go_wp2
        go_ret2
        exact ⟨by rw [HT.out]; rfl, HTL.out.box.bel.trans (hb9.mono HTL.out.box.bel.size)⟩
  · have hT : textM z = ⟨#[]⟩ := by unfold textM; rw [if_neg hc]
    have hn : (checkM z == 0) = false := beq_eq_false_iff_ne.2 hc
    rw [hT]
    clear hT
    generalize hcm : checkM z = cm at *
    have HC := Lib.hid hcm
    clear hcm
    go_enter Tryd.func10, Tryd.ntmps10
    go_wp2_with fail
    have B := StpBox.new 32 z w
    generalize World.alloc _ _ = W at B ⊢
    generalize w.heap.size = bb at B ⊢
    obtain ⟨c0, c1, c2, c3⟩ := B.c
    have BR := B.row
    have HB := Lib.hid B
    clear B
    go_wp2_with fail
    refine (check_any z W hmax).mono ?_
    rintro e w1 ⟨rfl, hb1⟩
    rw [HC.out]
    go_wp2
    go_ret2
    exact ⟨rfl, HB.out.bel.trans (hb1.mono HB.out.bel.size)⟩
end Go.Proofs.YtecnpdkoodfemaaDoor
