
/- An argument that is a list of acts, opened. -/
import Derived.Test.YtdhiepcglnbkbaaOpen2
import Derived.Test.YtdhiepcglnbkbaaDevSame
namespace Go.Proofs.Ytdhiepcglnbkbaa
set_option linter.unusedSimpArgs false
set_option linter.unusedVariables false
open Go.ChangeShapes Go.WideShapes Go.ChangeAt Go.RowKit Go.Joins Go.Deep

theorem cells_act : Try.prog.cellsOf 41 = 9 := by kernel_rfl
section
variable {H : Type} {enc : TypeId × Value → H} {W : World} {base b0 : Nat} {v : Value} {d : DataW H} {p : List MemPlace}
set_option maxRecDepth 100000 in
/-- Nine cells that read as an act. -/
theorem act_of {fuel : Nat} {cs : List Value} {x : DataW H × List MemPlace} {sp : Nat → Bool} (h : DataW.trod enc Try.prog W base sp true fuel 41 cs = some x) : ∃ a : Ac, cs = a.cells ∧ AcOk Any W a := by
  obtain ⟨xs, n, _, _, hlen, hxl, hf⟩ := DataW.trod_struct Try.underlying41 h
  rw [cells_act] at hlen
  match cs, hlen with
  | [v0, v1, v2, v3, v4, v5, v6, v7, v8], _ =>
    match xs, hxl with
    | [x0, x1, x2, x3], _ =>
      have f0 := hf 0 _ rfl
      have f1 := hf 1 _ rfl
      have f2 := hf 2 _ rfl
      have f3 := hf 3 _ rfl
      have cs1 : Try.prog.cellsOf 9 = 1 := by kernel_rfl
      have cs2 : Try.prog.cellsOf 38 = 6 := by kernel_rfl
      have cs3 : Try.prog.cellsOf 39 = 1 := by kernel_rfl
      simp [cs1, cs2, cs3, cells_int] at f0 f1 f2 f3
      obtain ⟨s, e0, _, ws⟩ := DataW.trod_string Try.underlying9 f0
      obtain ⟨c, e1, hc⟩ := req_of f1
      obtain ⟨m, e2, _, w2⟩ := DataW.trod_int Try.underlying3 f2
      obtain ⟨k, e3, _, w3⟩ := DataW.trod_int Try.underlying39 f3
      simp at e0 e2 e3
      subst e0 e2 e3
      obtain ⟨hk0, hk1⟩ := bounds_u64 w3
      obtain ⟨k', rfl⟩ : ∃ k' : Nat, k = (k' : Int) := ⟨k.toNat, by omega⟩
      refine ⟨⟨s, c, m, k'⟩, ?_, ws, hc, bounds_i64 w2, by simp only; omega⟩
      simp only [Ac.cells]
      simp only [Rc.cells] at e1 ⊢
      simp at e1
      simp [e1]

theorem acts_flat_len (l : List Ac) : (l.flatMap Ac.cells).length = l.length * 9 := by
  induction l with
  | nil => rfl
  | cons a l ih => rw [List.flatMap_cons, List.length_append, ih]; simp [Ac.cells, Rc.cells]; omega
set_option maxRecDepth 100000 in
theorem acts_of (h : DataW.Trod enc Try.prog W base (fun _ => true) true 22 v d p) (hs : ∃ A n c, v = .slice A n c) : ∃ l, ActsAt Any W v l := by
  obtain ⟨A, n0, c0, rfl⟩ := hs
  obtain ⟨fuel, hf⟩ := h
  rcases open_slice Try.underlying22 hf with ⟨hcs, _⟩ | ⟨a, len, cap, m, n, D, Pl, hcs, _, hl, hm, hmm, _, hi⟩
  · simp [Value.cells] at hcs
    obtain ⟨rfl, rfl, rfl⟩ := hcs
    exact ⟨[], Rd.nil, by simp⟩
  · simp [Value.cells] at hcs
    obtain ⟨rfl, rfl, rfl⟩ := hcs
    simp at hmm
    subst hmm
    rw [cells_act] at hi
    have hc : ∀ i, i < n0 → ∃ c : Ac, W.cells? base (a.add (i * 9)) 9 = some c.cells ∧ AcOk Any W c := by
      intro i hin
      obtain ⟨cs', h1, h2⟩ := hi i (by omega)
      obtain ⟨c, rfl, hok⟩ := act_of h2
      exact ⟨c, h1, hok⟩
    clear hi
    have hlist : ∀ k, k ≤ n0 → ∃ cs : List Ac, cs.length = k ∧ ∀ i c, cs[i]? = some c → W.cells? base (a.add (i * 9)) 9 = some c.cells ∧ AcOk Any W c := by
      intro k
      induction k with
      | zero => intro _; exact ⟨[], rfl, by simp⟩
      | succ k ih =>
        intro hk
        obtain ⟨cs, hlen, hall⟩ := ih (by omega)
        obtain ⟨c, h1, h2⟩ := hc k (by omega)
        refine ⟨cs ++ [c], by simp [hlen], fun i c' hi => ?_⟩
        rcases Nat.lt_or_ge i cs.length with hlt | hge
        · rw [List.getElem?_append_left hlt] at hi; exact hall i c' hi
        · rw [List.getElem?_append_right hge] at hi
          have hi0 : i - cs.length = 0 := by
            rcases Nat.eq_zero_or_pos (i - cs.length) with h | h
            · exact h
            · rw [List.getElem?_eq_none (by simp; omega)] at hi; cases hi
          rw [hi0] at hi
          simp at hi
          subst hi
          obtain rfl : i = k := by omega
          exact ⟨h1, h2⟩
    obtain ⟨cs, hlen, hall⟩ := hlist n0 (Nat.le_refl _)
    subst hlen
    refine ⟨cs, ⟨some a, _, rfl, hl, hm, acts_flat_len cs, fun hn => ?_⟩, fun c hc => ?_⟩
    · have h0 := (hall 0 cs[0] (List.getElem?_eq_getElem hn)).1
      obtain ⟨_, hcl, hat⟩ := World.cells?_some h0
      have hz := hat 0 (by omega)
      obtain ⟨b, off, rfl⟩ : ∃ b off, a = ⟨b, off, none⟩ := by
        apply ints_spot (u := .string cs[0].kind)
        have : (a.add (0 * 9)).add 0 = a.add 0 := by simp [Addr.add]
        rw [← this, hz]; rfl
      refine ⟨b, off, rfl, trivial, fun j u hu => ?_⟩
      have hjl : j < cs.length * 9 := by
        rcases Nat.lt_or_ge j (cs.length * 9) with h | h
        · exact h
        · rw [List.getElem?_eq_none (by rw [acts_flat_len]; omega)] at hu; cases hu
      have hq : j / 9 < cs.length := by omega
      have hcq : cs[j / 9]? = some cs[j / 9] := List.getElem?_eq_getElem hq
      have he : j = j / 9 * 9 + j % 9 := by omega
      rw [he, ac_get cs _ _ _ hcq (by omega)] at hu
      obtain ⟨_, _, hat⟩ := World.cells?_some (hall _ _ hcq).1
      have := hat (j % 9) (by omega)
      rw [hu, Go.WideShapes.add_plain, Go.WideShapes.add_plain] at this
      rw [he]
      rw [← this]
      simp [Nat.add_assoc]
    · obtain ⟨i, hi⟩ := List.getElem?_of_mem hc
      exact (hall i c hi).2
end
end Go.Proofs.Ytdhiepcglnbkbaa
