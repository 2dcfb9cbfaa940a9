
/- Arguments that are a list of sectors, a sector, an array that tells who is held: opened. -/
import Derived.Test.YtdhiepcglnbkbaaOpen
import Derived.Test.YtdhiepcglnbkbaaBufLeast
namespace Go.Proofs.Ytdhiepcglnbkbaa
set_option linter.unusedSimpArgs false
set_option linter.unusedVariables false
open Go.ChangeShapes Go.WideShapes Go.ChangeAt Go.RowKit Go.Joins Go.Deep

theorem cells_buf : Try.prog.cellsOf 72 = 4 := by kernel_rfl
theorem cells_held : Try.prog.cellsOf 73 = 32 := by kernel_rfl
theorem cells_bool : Try.prog.cellsOf 4 = 1 := by kernel_rfl
section
variable {H : Type} {enc : TypeId × Value → H} {W : World} {base b0 : Nat} {v : Value} {d : DataW H} {p : List MemPlace}
set_option maxRecDepth 100000 in
/-- Four cells that read as a sector. -/
theorem buf_of {fuel : Nat} {cs : List Value} {x : DataW H × List MemPlace} {sp : Nat → Bool} (h : DataW.trod enc Try.prog W base sp true fuel 72 cs = some x) : ∃ b : Bf, cs = b.cells ∧ BfOk b := by
  obtain ⟨xs, n, _, _, hlen, hxl, hf⟩ := DataW.trod_struct Try.underlying72 h
  rw [cells_buf] at hlen
  match cs, hlen with
  | [v0, v1, v2, v3], _ =>
    match xs, hxl with
    | [x0, x1, x2, x3], _ =>
      have f0 := hf 0 _ rfl
      have f1 := hf 1 _ rfl
      have f2 := hf 2 _ rfl
      have f3 := hf 3 _ rfl
      have cs1 : Try.prog.cellsOf 9 = 1 := by kernel_rfl
      simp [cs1, cells_bool, cells_int] at f0 f1 f2 f3
      obtain ⟨m, e0, _, w0⟩ := DataW.trod_int Try.underlying3 f0
      obtain ⟨s, e1, _, ws⟩ := DataW.trod_string Try.underlying9 f1
      obtain ⟨y, e2, _⟩ := DataW.trod_bool Try.underlying4 f2
      obtain ⟨u, e3, _, w3⟩ := DataW.trod_int Try.underlying3 f3
      simp at e0 e1 e2 e3
      subst e0 e1 e2 e3
      exact ⟨⟨m, s, y, u⟩, rfl, bounds_i64 w0, bounds_i64 w3, ws⟩
set_option maxRecDepth 100000 in
theorem open_buf (hv : Value.okWide Try.prog W .any b0 72 v) (h : DataW.Trod enc Try.prog W base (fun _ => true) true 72 v d p) : ∃ b : Bf, v = bfV b ∧ BfOk b := by
  obtain ⟨cs, rfl, hsz⟩ := okWide_struct Try.underlying72 hv
  obtain ⟨fuel, hf⟩ := h
  obtain ⟨b, e, hb⟩ := buf_of hf
  refine ⟨b, ?_, hb⟩
  have e : cs.toList = b.cells := e
  have : cs = b.cells.toArray := by rw [← e]
  rw [this]; rfl
set_option maxRecDepth 100000 in
theorem open_held (hv : Value.okWide Try.prog W .any b0 73 v) (h : DataW.Trod enc Try.prog W base (fun _ => true) true 73 v d p) : ∃ hl : List Bool, v = .agg (hldV hl) ∧ hl.length = 32 := by
  obtain ⟨cs, rfl, hsz⟩ : ∃ cs : Array Value, v = .agg cs ∧ cs.size = Try.prog.cellsOf 73 := by
    simp only [Value.okWide, Try.underlying73] at hv
    obtain ⟨cs, h1, h2, _⟩ := hv
    exact ⟨cs, h1, h2⟩
  obtain ⟨fuel, hf⟩ := h
  obtain ⟨xs, m, _, _, hlen, hxl, hf⟩ := DataW.trod_array Try.underlying73 hf
  rw [cells_held] at hlen
  have hlen : cs.toList.length = 32 := hlen
  have key : ∀ i, i < 32 → ∃ b, cs.toList[i]? = some (.bool b) := by
    intro i hi
    have h2 := hf i hi
    rw [cells_bool, List.getElem?_eq_getElem (by omega)] at h2
    have hci : cs.toList[i]? = some cs.toList[i] := List.getElem?_eq_getElem (by omega)
    have e : ((Value.agg cs).cells.toList.drop (i * 1)).take 1 = [cs.toList[i]] := by
      show (cs.toList.drop (i * 1)).take 1 = _
      rw [Nat.mul_one, List.drop_eq_getElem_cons (by omega)]; rfl
    rw [e] at h2
    obtain ⟨y, e2, _⟩ := DataW.trod_bool Try.underlying4 h2
    simp at e2
    exact ⟨y, by rw [hci]; simp [e2]⟩
  refine ⟨(List.range 32).map (fun i => match (cs.toList[i]? : Option Value) with | some (Value.bool b) => b | _ => false), ?_, by simp⟩
  congr 1
  apply Array.toList_inj.1
  unfold hldV
  rw [List.toList_toArray, List.map_map]
  apply List.ext_getElem?
  intro i
  rw [List.getElem?_map]
  by_cases hi : i < 32
  · obtain ⟨b, hb⟩ := key i hi
    rw [List.getElem?_range hi, hb]
    rw [Array.getElem?_toList] at hb
    simp [hb]
  · rw [List.getElem?_eq_none (by omega), List.getElem?_eq_none (by simp; omega)]; rfl
set_option maxRecDepth 100000 in
theorem bufs_of (h : DataW.Trod enc Try.prog W base (fun _ => true) true 70 v d p) (hs : ∃ A n c, v = .slice A n c) : ∃ l, BufsAt Any W v l := by
  obtain ⟨A, n0, c0, rfl⟩ := hs
  obtain ⟨fuel, hf⟩ := h
  rcases open_slice Try.underlying70 hf with ⟨hcs, _⟩ | ⟨a, len, cap, m, n, D, Pl, hcs, _, hl, hm, hmm, _, hi⟩
  · simp [Value.cells] at hcs
    obtain ⟨rfl, rfl, rfl⟩ := hcs
    exact ⟨[], Rd.nil, by simp⟩
  · simp [Value.cells] at hcs
    obtain ⟨rfl, rfl, rfl⟩ := hcs
    simp at hmm
    subst hmm
    rw [cells_buf] at hi
    have hc : ∀ i, i < n0 → ∃ c : Bf, W.cells? base (a.add (i * 4)) 4 = some c.cells ∧ BfOk c := by
      intro i hin
      obtain ⟨cs', h1, h2⟩ := hi i (by omega)
      obtain ⟨c, rfl, hok⟩ := buf_of h2
      exact ⟨c, h1, hok⟩
    clear hi
    have hlist : ∀ k, k ≤ n0 → ∃ cs : List Bf, cs.length = k ∧ ∀ i c, cs[i]? = some c → W.cells? base (a.add (i * 4)) 4 = some c.cells ∧ BfOk c := by
      intro k
      induction k with
      | zero => intro _; exact ⟨[], rfl, by simp⟩
      | succ k ih =>
        intro hk
        obtain ⟨cs, hlen, hall⟩ := ih (by omega)
        obtain ⟨c, h1, h2⟩ := hc k (by omega)
        refine ⟨cs ++ [c], by simp [hlen], fun i c' hi => ?_⟩
        rcases Nat.lt_or_ge i cs.length with hlt | hge
        · rw [List.getElem?_append_left hlt] at hi; exact hall i c' hi
        · rw [List.getElem?_append_right hge] at hi
          have hi0 : i - cs.length = 0 := by
            rcases Nat.eq_zero_or_pos (i - cs.length) with h | h
            · exact h
            · rw [List.getElem?_eq_none (by simp; omega)] at hi; cases hi
          rw [hi0] at hi
          simp at hi
          subst hi
          obtain rfl : i = k := by omega
          exact ⟨h1, h2⟩
    obtain ⟨cs, hlen, hall⟩ := hlist n0 (Nat.le_refl _)
    subst hlen
    refine ⟨cs, ⟨some a, _, rfl, hl, hm, flatB_len cs, fun hn => ?_⟩, fun c hc => ?_⟩
    · have h0 := (hall 0 cs[0] (List.getElem?_eq_getElem hn)).1
      obtain ⟨_, hcl, hat⟩ := World.cells?_some h0
      have hz := hat 0 (by omega)
      obtain ⟨b, off, rfl⟩ : ∃ b off, a = ⟨b, off, none⟩ := by
        apply ints_spot (u := .int .i64 cs[0].pos)
        have : (a.add (0 * 4)).add 0 = a.add 0 := by simp [Addr.add]
        rw [← this, hz]; rfl
      refine ⟨b, off, rfl, trivial, fun j u hu => ?_⟩
      have hjl : j < cs.length * 4 := by
        rcases Nat.lt_or_ge j (cs.length * 4) with h | h
        · exact h
        · rw [List.getElem?_eq_none (by rw [flatB_len]; omega)] at hu; cases hu
      have hq : j / 4 < cs.length := by omega
      have hcq : cs[j / 4]? = some cs[j / 4] := List.getElem?_eq_getElem hq
      have he : j = j / 4 * 4 + j % 4 := by omega
      rw [he, flatB_get cs _ _ _ hcq (by omega)] at hu
      obtain ⟨_, _, hat⟩ := World.cells?_some (hall _ _ hcq).1
      have := hat (j % 4) (by omega)
      rw [hu, Go.WideShapes.add_plain, Go.WideShapes.add_plain] at this
      rw [he]
      rw [← this]
      simp [Nat.add_assoc]
    · obtain ⟨i, hi⟩ := List.getElem?_of_mem hc
      exact (hall i c hi).2
end
end Go.Proofs.Ytdhiepcglnbkbaa
