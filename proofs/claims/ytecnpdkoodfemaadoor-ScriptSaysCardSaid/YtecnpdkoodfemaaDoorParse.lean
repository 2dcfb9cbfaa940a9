
/- script.Parse: a text read as a step. -/
import Derived.Test.YtecnpdkoodfemaaDoorSplit
import Derived.Test.YtecnpdkoodfemaaDoorScrText
import Derived.Test.YtecnpdkoodfemaaDoorLay
import Derived.Deep.MidRow
import Derived.Maps.RangeWalk
namespace Go.Proofs.YtecnpdkoodfemaaDoor
set_option linter.unusedSimpArgs false
set_option linter.unusedVariables false
open Go.RowKit

def zeroZ : Stp := ⟨⟨#[]⟩, 0, 0, ⟨#[]⟩⟩
/-- What is written, out of its text. -/
def dataP (x : ByteArray) : ByteArray := if x.toList == [45] then ⟨#[]⟩ else x
/-- The step under way, behind so many parts. -/
def stageZ (w0 : ByteArray) (r : List ByteArray) (p : Nat) : Stp :=
  ⟨w0, if 1 ≤ p then numM (r.getD 0 ⟨#[]⟩) else 0, if 2 ≤ p then numM (r.getD 1 ⟨#[]⟩) else 0, if 3 ≤ p then dataP (r.getD 2 ⟨#[]⟩) else ⟨#[]⟩⟩
def parseW (ws : List ByteArray) : Option Stp := match ws with
  | [] => none
  | w0 :: r => match formK w0 with
    | none => none
    | some k => if r.length ≠ k then none
      else if 3 ≤ k && (r.getD 2 ⟨#[]⟩).toList.isEmpty then none
      else if checkM (stageZ w0 r k) ≠ 0 then none
      else some (stageZ w0 r k)
theorem parseW_no {w0 : ByteArray} {r : List ByteArray} (h : formK w0 = none) : parseW (w0 :: r) = none := by simp only [parseW, h]
theorem parseW_len {w0 : ByteArray} {r : List ByteArray} {k : Nat} (h : formK w0 = some k) (hl : r.length ≠ k) : parseW (w0 :: r) = none := by simp only [parseW, h]; rw [if_pos hl]
theorem parseW_emp {w0 : ByteArray} {r : List ByteArray} (h : formK w0 = some 3) (hl : r.length = 3) (he : (r.getD 2 ⟨#[]⟩).toList.isEmpty = true) : parseW (w0 :: r) = none := by
  simp only [parseW, h]; rw [if_neg (by simp [hl]), if_pos (by simp only [he]; rfl)]
theorem parseW_bad {w0 : ByteArray} {r : List ByteArray} {k : Nat} (h : formK w0 = some k) (hl : r.length = k) (hc : checkM (stageZ w0 r k) ≠ 0) : parseW (w0 :: r) = none := by
  simp only [parseW, h]
  rw [if_neg (by simp [hl])]
  split
  · rfl
  · first | rfl | rw [if_pos hc]
theorem parseW_ok {w0 : ByteArray} {r : List ByteArray} {k : Nat} (h : formK w0 = some k) (hl : r.length = k) (he : (3 ≤ k && (r.getD 2 ⟨#[]⟩).toList.isEmpty) = false) (hc : checkM (stageZ w0 r k) = 0) : parseW (w0 :: r) = some (stageZ w0 r k) := by
  simp only [parseW, h]
  rw [if_neg (by simp [hl]), if_neg (by rw [he]; decide), if_neg (by simp [hc])]
def parseM (t : ByteArray) : Option Stp := parseW (splitM t)
def parseV (o : Option Stp) : Value := match o with
  | some z => .tuple #[stpV z, .nilIface]
  | none => .tuple #[stpV zeroZ, errV 4]
theorem Lay.iter {w wr : World} {l : List (Nat × TypeId × Array Value)} (h : Lay w wr l) {bi : Nat} (h1 : w.heap.size ≤ bi) (h2 : ∀ x ∈ l, x.1 ≠ bi) (f : ByteArray) (p : Nat) : Lay w (wr.iterAt bi f p) l :=
  ⟨Lib.below_iterAt h.below h1 f p, fun x hx => (Lib.iterAt_other wr bi x.1 f p (h2 x hx)).trans (h.row x hx), h.own, h.nd⟩
theorem Lay.c4 {w wr : World} {l : List (Nat × TypeId × Array Value)} (h : Lay w wr l) (i : Nat) {b : Nat} {T : TypeId} {c0 c1 c2 c3 : Value} (hi : l[i]? = some (b, T, #[c0, c1, c2, c3])) :
    wr.cell? ⟨b, 0, none⟩ = some c0 ∧ wr.cell? ⟨b, 1, none⟩ = some c1 ∧ wr.cell? ⟨b, 2, none⟩ = some c2 ∧ wr.cell? ⟨b, 3, none⟩ = some c3 := ⟨h.cell i hi 0, h.cell i hi 1, h.cell i hi 2, h.cell i hi 3⟩
theorem Lay.put4 {w wr : World} {l : List (Nat × TypeId × Array Value)} (h : Lay w wr l) (i : Nat) {b : Nat} {T : TypeId} {u0 u1 u2 u3 : Value} (hi : l[i]? = some (b, T, #[u0, u1, u2, u3])) (v0 v1 v2 v3 : Value) :
    Lay w ((((wr.setCell ⟨b, 0, none⟩ v0).setCell ⟨b, 1, none⟩ v1).setCell ⟨b, 2, none⟩ v2).setCell ⟨b, 3, none⟩ v3) (l.set i (b, T, #[v0, v1, v2, v3])) := by
  have hlt := (List.getElem?_eq_some_iff.1 hi).1
  have h0 := h.set i hi 0 v0
  have h1 := h0.set i (by rw [List.getElem?_set_self hlt]) 1 v1
  have h2 := h1.set i (by rw [List.set_set, List.getElem?_set_self hlt]) 2 v2
  have h3 := h2.set i (by rw [List.set_set, List.set_set, List.getElem?_set_self hlt]) 3 v3
  rw [List.set_set, List.set_set, List.set_set] at h3
  exact h3
theorem stpInfo : (Tryd.prog.info? 32).map (·.size) = some 4 := by kernel_rfl
theorem stp_results {fn : Func} {tmps : Array Value} {W : World} {rb : Nat} {e : Value} {c0 c1 c2 c3 : Value} (h : fn.results = #[.cell 2 32, .tmp 3]) (h2 : tmps.getD 2 undef = .pointer (some ⟨rb, 0, none⟩)) (h3 : tmps.getD 3 undef = e)
    (hrow : W.heap[rb]? = some (.cells #[c0, c1, c2, c3] 32 (0, 0))) : (results fn tmps).run Tryd.prog W = .ok (.tuple #[.agg #[c0, c1, c2, c3], e]) W := by
  have hl := run_loadVar_mid (P := Tryd.prog) W rb 0 32 [c0, c1, c2, c3] _ (fun j v hj => by
    rw [Nat.zero_add, cell_of_row _ _ j _ _ _ hrow]
    simpa using hj) Tryd.underlying32 rfl stpInfo
  rw [results_cell_tmp h, h2, h3]
  simp [asAddr, Result.andThen, hl]
abbrev stpC (z : Stp) : Array Value := #[.string z.word, .int .i64 z.a, .int .i64 z.b, .string z.data]

theorem Lay.word {w wr : World} {l : List (Nat × TypeId × Array Value)} (h : Lay w wr l) (i : Nat) {b : Nat} {T : TypeId} {w0 : ByteArray} {r : List ByteArray} (hi : l[i]? = some (b, T, ((w0 :: r).map Value.string).toArray)) (j : Nat) (hj : j < r.length) :
    wr.cell? ⟨b, j + 1, none⟩ = some (.string (r.getD j ⟨#[]⟩)) := by
  rw [h.cell i hi (j + 1)]
  simp [List.getD, List.getElem?_eq_getElem hj]
/-- What is there behind so many parts: the step, the words, the result; the iterator. -/
structure PL (f w0 : ByteArray) (r : List ByteArray) (w : World) (zb br rb bi pos : Nat) (z : Stp) (wr : World) : Prop where
  lay : Lay w wr [(zb, 32, #[.string z.word, .int .i64 z.a, .int .i64 z.b, .string z.data]), (br, 9, ((w0 :: r).map Value.string).toArray), (rb, 32, #[.string ⟨#[]⟩, .int .i64 0, .int .i64 0, .string ⟨#[]⟩])]
  it : wr.heap[bi]? = some (.stringIter f pos)
  lo : w.heap.size ≤ bi
  nz : zb ≠ bi
  nb : br ≠ bi
  nr : rb ≠ bi
section
variable {f w0 : ByteArray} {r : List ByteArray} {w wr w' : World} {zb br rb bi pos : Nat} {z : Stp}
theorem PL.step (h : PL f w0 r w zb br rb bi pos z wr) (hb : Below wr.heap.size wr w') : PL f w0 r w zb br rb bi pos z w' :=
  ⟨h.lay.step hb, (hb.block _ (Array.getElem?_eq_some_iff.1 h.it).1).trans h.it, h.lo, h.nz, h.nb, h.nr⟩
theorem PL.next (h : PL f w0 r w zb br rb bi pos z wr) (pos' : Nat) : PL f w0 r w zb br rb bi pos' z (wr.iterAt bi f pos') :=
  ⟨h.lay.iter h.lo (fun x hx => by
    simp only [List.mem_cons, List.mem_nil_iff, or_false] at hx
    rcases hx with rfl | rfl | rfl
    · exact h.nz
    · exact h.nb
    · exact h.nr) f pos', Lib.iterAt_heap wr bi f pos pos' h.it, h.lo, h.nz, h.nb, h.nr⟩
theorem PL.setA (h : PL f w0 r w zb br rb bi pos z wr) (v : Int) : PL f w0 r w zb br rb bi pos ⟨z.word, v, z.b, z.data⟩ (wr.setCell ⟨zb, 1, none⟩ (.int .i64 v)) :=
  ⟨h.lay.set 0 rfl 1 _, (Below.heap_setCell _ _ _ _ (fun e => h.nz (by simpa using e.symm))).trans h.it, h.lo, h.nz, h.nb, h.nr⟩
theorem PL.setB (h : PL f w0 r w zb br rb bi pos z wr) (v : Int) : PL f w0 r w zb br rb bi pos ⟨z.word, z.a, v, z.data⟩ (wr.setCell ⟨zb, 2, none⟩ (.int .i64 v)) :=
  ⟨h.lay.set 0 rfl 2 _, (Below.heap_setCell _ _ _ _ (fun e => h.nz (by simpa using e.symm))).trans h.it, h.lo, h.nz, h.nb, h.nr⟩
theorem PL.setD (h : PL f w0 r w zb br rb bi pos z wr) (v : ByteArray) : PL f w0 r w zb br rb bi pos ⟨z.word, z.a, z.b, v⟩ (wr.setCell ⟨zb, 3, none⟩ (.string v)) :=
  ⟨h.lay.set 0 rfl 3 _, (Below.heap_setCell _ _ _ _ (fun e => h.nz (by simpa using e.symm))).trans h.it, h.lo, h.nz, h.nb, h.nr⟩
end
theorem stageZ_0 (w0 : ByteArray) (r : List ByteArray) : stageZ w0 r 0 = ⟨w0, 0, 0, ⟨#[]⟩⟩ := rfl
theorem stageZ_1 (w0 : ByteArray) (r : List ByteArray) : stageZ w0 r 1 = ⟨w0, numM (r.getD 0 ⟨#[]⟩), 0, ⟨#[]⟩⟩ := rfl
theorem stageZ_2 (w0 : ByteArray) (r : List ByteArray) : stageZ w0 r 2 = ⟨w0, numM (r.getD 0 ⟨#[]⟩), numM (r.getD 1 ⟨#[]⟩), ⟨#[]⟩⟩ := rfl
theorem stageZ_3 (w0 : ByteArray) (r : List ByteArray) : stageZ w0 r 3 = ⟨w0, numM (r.getD 0 ⟨#[]⟩), numM (r.getD 1 ⟨#[]⟩), dataP (r.getD 2 ⟨#[]⟩)⟩ := rfl

set_option maxRecDepth 100000 in
set_option maxHeartbeats 4000000 in
theorem parse_any (t : ByteArray) (w : World) (ht : t.size ≤ 1000) (hE : Env w) : Calls Tryd.prog 12 #[.string t] w (Ret (parseV (parseM t)) w) := by
  have HE := Lib.hid hE
  clear hE
  obtain ⟨o, ho⟩ : ∃ o, parseW (splitM t) = o := ⟨_, rfl⟩
  have e : parseM t = o := ho
  rw [e]
  have Ho := Lib.hid ho
  clear e ho
  go_enter Tryd.func12, Tryd.ntmps12
  go_wp2_with fail
  have L1 := (Lay.refl w).alloc' w.heap.size #[Value.string { data := #[] }, .int .i64 0, .int .i64 0, .string { data := #[] }] 32 rfl
  generalize World.alloc _ _ = W1 at L1 ⊢
  generalize w.heap.size = rb at L1 ⊢
  refine (split_any t W1 (by omega) (HE.out.below L1.below)).mono ?_
  rintro e w2 ⟨rfl, rfl⟩
  have L2 := L1.alloc' W1.heap.size ((splitM t).map .string).toArray 9 rfl
  generalize World.alloc _ _ = W2 at L2 ⊢
  generalize W1.heap.size = br at L2 ⊢
  have hsz := splitM_size t
  have hlen : (splitM t).length ≤ 1001 := by
    unfold splitM
    rw [List.length_map]
    have := splitL_len t.data.toList
    have e2 : t.data.toList.length = t.size := by simp
    omega
  have hne : splitM t ≠ [] := by
    unfold splitM
    intro e
    exact splitL_ne _ (List.map_eq_nil_iff.1 e)
  generalize splitM t = ws at *
  obtain ⟨w0, r, rfl⟩ : ∃ w0 r, ws = w0 :: r := by
    cases ws with
    | nil => exact absurd rfl hne
    | cons a b => exact ⟨a, b, rfl⟩
  clear hne
  have hs0 : w0.size ≤ 1000 := Nat.le_trans (hsz w0 (by simp)) ht
  have hm0 : w0.size ≤ maxLen := by unfold maxLen; omega
  have hsr : Hid (∀ x ∈ r, x.size ≤ 1000) := fun x hx => Nat.le_trans (hsz x (by simp [hx])) ht
  rw [List.length_cons] at hlen ⊢
  have c0 : W2.cell? ⟨br, 0, none⟩ = some (.string w0) := L2.cell 0 rfl 0
  have hl1 : (0 : Int) < ((r.length + 1 : Nat) : Int) := by omega
  have HL2 := Lib.hid L2
  clear L1 L2 hsz
  go_wp2_with fail
  refine (form_any w0 W2 hm0).mono ?_
  rintro e W3 ⟨rfl, hb3⟩
  have L3 := HL2.out.step hb3
  clear hb3 HL2 c0
  cases hk : formK w0 with
  | none =>
    rw [formT_none hk]
    obtain rfl := Ho.out.symm.trans (parseW_no hk)
    have HL := Lib.hid L3
    obtain ⟨f0, f1, f2, f3⟩ : _ ∧ _ ∧ _ ∧ _ := ⟨L3.frozen 1 rfl 0, L3.frozen 1 rfl 1, L3.frozen 1 rfl 2, L3.frozen 1 rfl 3⟩
    obtain ⟨c0, c1, c2, c3⟩ := L3.c4 1 rfl
    clear L3
    go_wp2
    have LF := HL.out.put4 1 rfl (.string ⟨#[]⟩) (.int .i64 0) (.int .i64 0) (.string ⟨#[]⟩)
    exact bodyPost_ret (stp_results rfl rfl rfl (LF.at_ 1 rfl)) rfl ⟨rfl, LF.below⟩
  | some k =>
    rw [formT_some hk]
    have hk3 := formK_le hk
    have fsz := form_size k hk3
    have fat := form_at k hk3
    generalize (⟨(formS k).toArray⟩ : ByteArray) = f at fsz fat
    have FS := Lib.hid fsz
    have FA := Lib.hid fat
    have HL := Lib.hid L3
    obtain ⟨f0, f1, f2, f3⟩ : _ ∧ _ ∧ _ ∧ _ := ⟨L3.frozen 1 rfl 0, L3.frozen 1 rfl 1, L3.frozen 1 rfl 2, L3.frozen 1 rfl 3⟩
    obtain ⟨c0, c1, c2, c3⟩ := L3.c4 1 rfl
    have d0 : W3.cell? ⟨br, 0, none⟩ = some (.string w0) := L3.cell 0 rfl 0
    have hwr : IntKind.i64.wrap (1 + (f.size : Int)) = 1 + (f.size : Int) := IntWalk.i64_in _ (by omega)
    clear L3 fsz fat
    by_cases hlk : r.length = k
    · have hcmp : ((r.length : Int) + 1 != 1 + (f.size : Int)) = false := by
        rw [bne_eq_false_iff_eq, FS.out]; omega
      have HK := Lib.hid hlk
      clear hlk
      obtain ⟨e0, e1, e2, e3⟩ : (∀ o, (W3.alloc o).cell? ⟨br, 0, none⟩ = some (.string w0)) ∧ True ∧ True ∧ True := ⟨fun o => (HL.out.step ((Below.refl _ _).alloc (Nat.le_refl _) o)).cell 0 rfl 0, trivial, trivial, trivial⟩
      go_wp2_with fail
      have P0 : PL f w0 r w W3.heap.size br rb (W3.heap.size + 1) 0 (stageZ w0 r 0) ((W3.alloc (.cells #[.string w0, .int .i64 0, .int .i64 0, .string ⟨#[]⟩] 32)).iter f 0) := by
        have h1 := HL.out.lt (x := (br, 9, ((w0 :: r).map Value.string).toArray)) (by simp)
        have h2 := HL.out.lt (x := (rb, 32, #[.string ⟨#[]⟩, .int .i64 0, .int .i64 0, .string ⟨#[]⟩])) (by simp)
        have L4 := (HL.out.alloc' W3.heap.size #[.string w0, .int .i64 0, .int .i64 0, .string ⟨#[]⟩] 32 rfl)
        have hsz4 : (W3.alloc (.cells #[.string w0, .int .i64 0, .int .i64 0, .string ⟨#[]⟩] 32)).heap.size = W3.heap.size + 1 := by simp
        have hlo := L4.size
        refine ⟨L4.step ((Below.refl _ _).alloc (Nat.le_refl _) _), ?_, by omega, by omega, by simp at h1; omega, by simp at h2; omega⟩
        rw [← hsz4]
        exact World.iter_heap _ f 0
      generalize World.iter _ f 0 = W5 at P0 ⊢
      generalize W3.heap.size + 1 = bi at P0 ⊢
      generalize W3.heap.size = zb at P0 ⊢
      have HP0 := Lib.hid P0
      clear P0 HL f0 f1 f2 f3 c0 c1 c2 c3 d0 e0 e1 e2 e3
      go_loopw [8, 9] (fun _ _ wr => ∃ pos : Nat, pos ≤ k ∧ Hid (PL f w0 r w zb br rb bi pos (stageZ w0 r pos) wr) ∧ (pos = 3 → (r.getD 2 ⟨#[]⟩).toList.isEmpty = false)) (fun _ _ wr => k - wr.iterPos bi)
      case atStart => exact ⟨0, by omega, HP0, fun e => by cases e⟩
      case round =>
        obtain ⟨pos, hp, HPL, hemp⟩ := hrel
        have hit := HPL.out.it
        have hfs := FS.out
        by_cases hlt : pos < k
        · have hlt' : pos < f.size := by omega
          have hbyte := FA.out pos hlt hlt'
          have hnx := fun ty => Lib.run_next_ascii_at (P := Tryd.prog) wr bi f pos ty hit hlt' (by rw [hbyte]; unfold formC; split; omega; split <;> omega)
          rw [hbyte] at hnx
          have P5 := Lib.hid (HPL.out.next (pos + 1))
          have hw1 := P5.out.lay.word 1 rfl pos (by rw [HK.out]; omega)
          have hxs : (r.getD pos ⟨#[]⟩).size ≤ 1000 := by
            have hj : pos < r.length := by rw [HK.out]; omega
            have e : r.getD pos ⟨#[]⟩ = r[pos] := by simp [List.getD, List.getElem?_eq_getElem hj]
            rw [e]
            exact hsr.out _ (List.getElem_mem hj)
          have hl2 : ((pos : Int) + 1) < ((r.length + 1 : Nat) : Int) := by have := HK.out; omega
          have P5c := P5.out.lay.frozen 0 rfl 1
          have P5d := P5.out.lay.frozen 0 rfl 2
          have P5e := P5.out.lay.frozen 0 rfl 3
          obtain ⟨x, hx⟩ : ∃ x, r.getD pos ⟨#[]⟩ = x := ⟨_, rfl⟩
          rw [hx] at hw1 hxs
          generalize wr.iterAt bi f (pos + 1) = w5 at hnx P5 hw1 P5c P5d P5e
          have HX := Lib.hid hx
          clear hx hbyte hlt'
          have hpp : pos = 0 ∨ pos = 1 ∨ pos = 2 := by omega
          rcases hpp with rfl | rfl | rfl
          · replace hnx : ∀ ty, (Instr.next (.pointer (some ⟨bi, 0, none⟩)) true ty).run Tryd.prog wr = .ok (.tuple #[.bool true, .int .i64 0, .int .i32 97]) w5 := hnx
            replace hl2 : (1 : Int) < ((r.length + 1 : Nat) : Int) := hl2
            have hwi : IntKind.i64.wrap (1 + 0) = 1 := by decide
            clear hfs
            go_wp2_with fail
            refine (scrnum_any x w5 (by omega) (HE.out.below P5.out.lay.below)).mono ?_
            rintro e w6 ⟨rfl, hb6⟩
            have P6 := Lib.hid (P5.out.step hb6)
            have fz := P6.out.lay.frozen 0 rfl 1
            have cz : w6.cell? ⟨zb, 1, none⟩ = some (.int .i64 0) := P6.out.lay.cell 0 rfl 1
            have P7 := Lib.hid (P6.out.setA (numM x))
            have est : stageZ w0 r 1 = ⟨w0, numM x, 0, ⟨#[]⟩⟩ := by rw [stageZ_1, HX.out]
            clear hb6
            go_wp2
            go_roundw
            case rel => exact ⟨1, by omega, by rw [est]; exact P7, fun e => by cases e⟩
            case measure => rw [World.iterPos, World.iterPos, P7.out.it, hit]; simp; omega
          · replace hnx : ∀ ty, (Instr.next (.pointer (some ⟨bi, 0, none⟩)) true ty).run Tryd.prog wr = .ok (.tuple #[.bool true, .int .i64 1, .int .i32 98]) w5 := hnx
            replace hl2 : (2 : Int) < ((r.length + 1 : Nat) : Int) := hl2
            have hwi : IntKind.i64.wrap (1 + 1) = 2 := by decide
            clear hfs
            go_wp2_with fail
            refine (scrnum_any x w5 (by omega) (HE.out.below P5.out.lay.below)).mono ?_
            rintro e w6 ⟨rfl, hb6⟩
            have P6 := Lib.hid (P5.out.step hb6)
            have fz := P6.out.lay.frozen 0 rfl 2
            have cz : w6.cell? ⟨zb, 2, none⟩ = some (.int .i64 0) := P6.out.lay.cell 0 rfl 2
            have P7 := Lib.hid (P6.out.setB (numM x))
            have est : stageZ w0 r 2 = ⟨w0, numM (r.getD 0 ⟨#[]⟩), numM x, ⟨#[]⟩⟩ := by rw [stageZ_2, HX.out]
            clear hb6
            go_wp2
            go_roundw
            case rel => exact ⟨2, by omega, by rw [est]; exact P7, fun e => by cases e⟩
            case measure => rw [World.iterPos, World.iterPos, P7.out.it, hit]; simp; omega
          · replace hnx : ∀ ty, (Instr.next (.pointer (some ⟨bi, 0, none⟩)) true ty).run Tryd.prog wr = .ok (.tuple #[.bool true, .int .i64 2, .int .i32 100]) w5 := hnx
            replace hl2 : (3 : Int) < ((r.length + 1 : Nat) : Int) := hl2
            have hwi : IntKind.i64.wrap (1 + 2) = 3 := by decide
            have cz : w5.cell? ⟨zb, 3, none⟩ = some (.string ⟨#[]⟩) := P5.out.lay.cell 0 rfl 3
            have P6 := Lib.hid (P5.out.setD x)
            have cz2 : (w5.setCell ⟨zb, 3, none⟩ (.string x)).cell? ⟨zb, 3, none⟩ = some (.string x) := P6.out.lay.cell 0 rfl 3
            have fz2 := P6.out.lay.frozen 0 rfl 3
            clear hfs
            rcases Bool.eq_false_or_eq_true (x.toList == [45]) with hq | hq
            · have est : stageZ w0 r 3 = ⟨w0, numM (r.getD 0 ⟨#[]⟩), numM (r.getD 1 ⟨#[]⟩), ⟨#[]⟩⟩ := by
                rw [stageZ_3, HX.out]
                unfold dataP
                rw [hq]; rfl
              have P7 := Lib.hid (P6.out.setD ⟨#[]⟩)
              have hem : (r.getD 2 ⟨#[]⟩).toList.isEmpty = false := by
                rw [HX.out, eq_of_beq hq]; rfl
              go_wp2
              go_roundw
              case rel => exact ⟨3, by omega, by rw [est]; exact P7, fun _ => hem⟩
              case measure => rw [World.iterPos, World.iterPos, P7.out.it, hit]; simp; omega
            · rcases Bool.eq_false_or_eq_true x.toList.isEmpty with he | he
              · obtain rfl : k = 3 := by omega
                obtain rfl := Ho.out.symm.trans (parseW_emp hk HK.out (by rw [HX.out]; exact he))
                obtain ⟨f0, f1, f2, f3⟩ : _ ∧ _ ∧ _ ∧ _ := ⟨P6.out.lay.frozen 2 rfl 0, P6.out.lay.frozen 2 rfl 1, P6.out.lay.frozen 2 rfl 2, P6.out.lay.frozen 2 rfl 3⟩
                obtain ⟨c0, c1, c2, c3⟩ := P6.out.lay.c4 2 rfl
                go_wp2
                have LF := P6.out.lay.put4 2 rfl (.string ⟨#[]⟩) (.int .i64 0) (.int .i64 0) (.string ⟨#[]⟩)
                exact bodyPost_ret (stp_results rfl rfl rfl (LF.at_ 2 rfl)) rfl ⟨rfl, LF.below⟩
              · have est : stageZ w0 r 3 = ⟨w0, numM (r.getD 0 ⟨#[]⟩), numM (r.getD 1 ⟨#[]⟩), x⟩ := by
                  rw [stageZ_3, HX.out]
                  unfold dataP
                  rw [hq]; rfl
                have hem : (r.getD 2 ⟨#[]⟩).toList.isEmpty = false := by rw [HX.out]; exact he
                go_wp2
                go_roundw
                case rel => exact ⟨3, by omega, by rw [est]; exact P6, fun _ => hem⟩
                case measure => rw [World.iterPos, World.iterPos, P6.out.it, hit]; simp; omega
        · obtain rfl : pos = k := by omega
          have hnx := fun ty => Lib.run_next_end_at (P := Tryd.prog) wr bi f pos ty hit (by omega)
          obtain ⟨c0, c1, c2, c3⟩ := HPL.out.lay.c4 0 rfl
          have hch := Lib.hid (fun w hs => check_any (stageZ w0 r pos) w hs)
          have hem2 : (decide (3 ≤ pos) && (r.getD 2 ⟨#[]⟩).toList.isEmpty) = false := by
            by_cases h3 : pos = 3
            · rw [hemp h3, Bool.and_false]
            · have : decide (3 ≤ pos) = false := decide_eq_false (by omega)
              rw [this]; rfl
          by_cases hc : checkM (stageZ w0 r pos) = 0
          · obtain rfl := Ho.out.symm.trans (parseW_ok hk HK.out hem2 hc)
            go_wp2_with fail
            refine (hch.out wr hm0).mono ?_
            rintro e w6 ⟨rfl, hb6⟩
            rw [hc, errV_zero]
            have P6 := Lib.hid (HPL.out.step hb6)
            clear c0 c1 c2 c3
            obtain ⟨c0, c1, c2, c3⟩ := P6.out.lay.c4 0 rfl
            obtain ⟨b0, b1, b2, b3⟩ := P6.out.lay.c4 2 rfl
            obtain ⟨f0, f1, f2, f3⟩ : _ ∧ _ ∧ _ ∧ _ := ⟨P6.out.lay.frozen 2 rfl 0, P6.out.lay.frozen 2 rfl 1, P6.out.lay.frozen 2 rfl 2, P6.out.lay.frozen 2 rfl 3⟩
            go_wp2
            have LF := P6.out.lay.put4 2 rfl (.string (stageZ w0 r pos).word) (.int .i64 (stageZ w0 r pos).a) (.int .i64 (stageZ w0 r pos).b) (.string (stageZ w0 r pos).data)
            exact bodyPost_ret (stp_results rfl rfl rfl (LF.at_ 2 rfl)) rfl ⟨rfl, LF.below⟩
          · obtain rfl := Ho.out.symm.trans (parseW_bad hk HK.out hc)
            have hn : (checkM (stageZ w0 r pos) == 0) = false := beq_eq_false_iff_ne.2 hc
            go_wp2_with fail
            refine (hch.out wr hm0).mono ?_
            rintro e w6 ⟨rfl, hb6⟩
            have P6 := Lib.hid (HPL.out.step hb6)
            clear c0 c1 c2 c3
            obtain ⟨b0, b1, b2, b3⟩ := P6.out.lay.c4 2 rfl
            obtain ⟨f0, f1, f2, f3⟩ : _ ∧ _ ∧ _ ∧ _ := ⟨P6.out.lay.frozen 2 rfl 0, P6.out.lay.frozen 2 rfl 1, P6.out.lay.frozen 2 rfl 2, P6.out.lay.frozen 2 rfl 3⟩
            go_wp2
            have LF := P6.out.lay.put4 2 rfl (.string ⟨#[]⟩) (.int .i64 0) (.int .i64 0) (.string ⟨#[]⟩)
            exact bodyPost_ret (stp_results rfl rfl rfl (LF.at_ 2 rfl)) rfl ⟨rfl, LF.below⟩
    · have hcmp : ((r.length : Int) + 1 != 1 + (f.size : Int)) = true := by
        rw [bne_iff_ne, FS.out]; omega
      obtain rfl := Ho.out.symm.trans (parseW_len hk hlk)
      go_wp2
      have LF := HL.out.put4 1 rfl (.string ⟨#[]⟩) (.int .i64 0) (.int .i64 0) (.string ⟨#[]⟩)
      exact bodyPost_ret (stp_results rfl rfl rfl (LF.at_ 1 rfl)) rfl ⟨rfl, LF.below⟩
end Go.Proofs.YtecnpdkoodfemaaDoor
