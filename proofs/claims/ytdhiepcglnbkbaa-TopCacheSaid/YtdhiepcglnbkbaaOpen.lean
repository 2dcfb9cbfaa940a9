
/- The arguments of the laws, opened: turns, requests, lists of requests. -/
import Derived.Test.YtdhiepcglnbkbaaLawKit
import Derived.Test.YtdhiepcglnbkbaaMem
import Derived.Deep.Slices
import Derived.Deep.Fields
import Derived.SliceStrings
namespace Go.Proofs.Ytdhiepcglnbkbaa
open Go.ChangeShapes Go.WideShapes Go.ChangeAt Go.RowKit Go.Joins Go.Deep

theorem cells_req : Try.prog.cellsOf 38 = 6 := by kernel_rfl
theorem cells_int : Try.prog.cellsOf 3 = 1 := by kernel_rfl
theorem cells_string : Try.prog.cellsOf 9 = 1 := by kernel_rfl

section
variable {H : Type} {enc : TypeId × Value → H} {W : World} {base b0 : Nat} {v : Value} {d : DataW H} {p : List MemPlace}
theorem flat_len (cs : List Rc) : (cs.flatMap Rc.cells).length = cs.length * 6 := by
  induction cs with
  | nil => rfl
  | cons a cs ih => rw [List.flatMap_cons, List.length_append, ih]; simp [Rc.cells]; omega
def Any : Nat → Prop := fun _ => True
theorem ints_spot {a : Addr} {u : Value} (h : W.cell? (a.add 0) = some u) : ∃ b off, a = ⟨b, off, none⟩ := by
  obtain ⟨b, off, spot⟩ := a
  have hspot : spot = none := by simpa [Addr.add] using World.cell?_spot h
  subst hspot
  exact ⟨b, off, rfl⟩

theorem strs_of {fuel : Nat} {v : Value} {x : DataW H × List MemPlace} {sp : Nat → Bool} (h : DataW.trod enc Try.prog W base sp true fuel 35 [v] = some x) : ∃ l, StrsAt Any W v l := by
  rcases open_strings Try.underlying35 Try.underlying9 cells_string h with ⟨hcs, _⟩ | ⟨a, len, cap, ss, hcs, _, hl, hm, hz, _, hcell, hws⟩
  · cases hcs; exact ⟨[], Rd.nil, by simp⟩
  · cases hcs
    refine ⟨ss.take len, ?_, fun s hs => hws s (List.mem_of_mem_take hs)⟩
    have hlen : (ss.take len).length = len := by rw [List.length_take, hz]; split <;> omega
    rw [hlen]
    refine ⟨some a, cap, rfl, hl, hm, by rw [List.length_map, hlen]; omega, fun hn => ?_⟩
    have hpos : 0 < ss.length := by rw [hz]; split <;> omega
    obtain ⟨b, off, rfl⟩ := ints_spot (hcell 0 hpos)
    refine ⟨b, off, rfl, trivial, fun j u hu => ?_⟩
    rw [List.getElem?_map] at hu
    obtain ⟨s, hs, rfl⟩ := Option.map_eq_some_iff.1 hu
    rw [List.getElem?_take] at hs
    split at hs
    · rename_i hj
      have hjl : j < ss.length := by rcases Nat.lt_or_ge j ss.length with h | h; exact h; rw [List.getElem?_eq_none h] at hs; cases hs
      have := hcell j hjl
      rw [Go.WideShapes.add_plain, List.getD_eq_getElem?_getD, hs] at this
      exact this
    · cases hs

theorem ints_of {fuel : Nat} {v : Value} {x : DataW H × List MemPlace} {sp : Nat → Bool} (h : DataW.trod enc Try.prog W base sp true fuel 36 [v] = some x) : ∃ l, IntsAt Any W v l := by
  rcases open_ints Try.underlying36 Try.underlying3 cells_int h with ⟨hcs, _⟩ | ⟨a, len, cap, ss, hcs, _, hl, hm, hz, _, hcell, hws⟩
  · cases hcs; exact ⟨[], Rd.nil, by simp⟩
  · cases hcs
    refine ⟨ss.take len, ?_, fun s hs => bounds_i64 (hws s (List.mem_of_mem_take hs))⟩
    have hlen : (ss.take len).length = len := by rw [List.length_take, hz]; split <;> omega
    rw [hlen]
    refine ⟨some a, cap, rfl, hl, hm, by rw [List.length_map, hlen]; omega, fun hn => ?_⟩
    have hpos : 0 < ss.length := by rw [hz]; split <;> omega
    obtain ⟨b, off, rfl⟩ := ints_spot (hcell 0 hpos)
    refine ⟨b, off, rfl, trivial, fun j u hu => ?_⟩
    rw [List.getElem?_map] at hu
    obtain ⟨s, hs, rfl⟩ := Option.map_eq_some_iff.1 hu
    rw [List.getElem?_take] at hs
    split at hs
    · rename_i hj
      have hjl : j < ss.length := by rcases Nat.lt_or_ge j ss.length with h | h; exact h; rw [List.getElem?_eq_none h] at hs; cases hs
      have := hcell j hjl
      rw [Go.WideShapes.add_plain, List.getD_eq_getElem?_getD, hs] at this
      exact this
    · cases hs

set_option maxRecDepth 100000 in
/-- Six cells that read as a request. -/
theorem req_of {fuel : Nat} {cs : List Value} {x : DataW H × List MemPlace} {sp : Nat → Bool} (h : DataW.trod enc Try.prog W base sp true fuel 38 cs = some x) : ∃ c : Rc, cs = c.cells ∧ RcOk Any W c := by
  obtain ⟨xs, n, _, _, hlen, hxl, hf⟩ := DataW.trod_struct Try.underlying38 h
  rw [cells_req] at hlen
  match cs, hlen with
  | [v0, v1, v2, v3, v4, v5], _ =>
    match xs, hxl with
    | [x0, x1, x2, x3, x4], _ =>
      have f0 := hf 0 _ rfl
      have f1 := hf 1 _ rfl
      have f2 := hf 2 _ rfl
      have f3 := hf 3 _ rfl
      have f4 := hf 4 _ rfl
      have cb : Try.prog.cellsOf 4 = 1 := by kernel_rfl
      have cs2 : Try.prog.cellsOf 34 = 2 := by kernel_rfl
      have cl1 : Try.prog.cellsOf 35 = 1 := by kernel_rfl
      have cl2 : Try.prog.cellsOf 36 = 1 := by kernel_rfl
      simp [cb, cs2, cl1, cl2, cells_int] at f0 f1 f2 f3 f4
      obtain ⟨wr, e0, _⟩ := DataW.trod_bool Try.underlying4 f0
      obtain ⟨ys, m, _, _, hl2, hy2, hg⟩ := DataW.trod_struct Try.underlying34 f1
      obtain ⟨born, e5, _, w5⟩ := DataW.trod_int Try.underlying3 f4
      match ys, hy2 with
      | [y0, y1], _ =>
        have g0 := hg 0 _ rfl
        have g1 := hg 1 _ rfl
        simp [cells_int] at g0 g1
        obtain ⟨lo, e1, _, w1⟩ := DataW.trod_int Try.underlying3 g0
        obtain ⟨many, e2, _, w2⟩ := DataW.trod_int Try.underlying3 g1
        obtain ⟨data, hd⟩ := strs_of f2
        obtain ⟨tags, ht⟩ := ints_of f3
        simp at e0 e1 e2 e5
        subst e0 e1 e2 e5
        exact ⟨⟨⟨wr, lo, many, data, tags, born⟩, v3, v4⟩, rfl, hd, ht, bounds_i64 w1, bounds_i64 w2, bounds_i64 w5⟩

set_option maxRecDepth 100000 in
theorem reqs_of (h : DataW.Trod enc Try.prog W base (fun _ => true) true 30 v d p) (hs : ∃ A n c, v = .slice A n c) : ∃ l, ReqsAt Any W v l := by
  obtain ⟨A, n0, c0, rfl⟩ := hs
  obtain ⟨fuel, hf⟩ := h
  rcases open_slice Try.underlying30 hf with ⟨hcs, _⟩ | ⟨a, len, cap, m, n, D, Pl, hcs, _, hl, hm, hmm, _, hi⟩
  · simp [Value.cells] at hcs
    obtain ⟨rfl, rfl, rfl⟩ := hcs
    exact ⟨[], [], rfl, Rd.nil, by simp⟩
  · simp [Value.cells] at hcs
    obtain ⟨rfl, rfl, rfl⟩ := hcs
    simp at hmm
    subst hmm
    rw [cells_req] at hi
    have hc : ∀ i, i < n0 → ∃ c : Rc, W.cells? base (a.add (i * 6)) 6 = some c.cells ∧ RcOk Any W c := by
      intro i hin
      obtain ⟨cs', h1, h2⟩ := hi i (by omega)
      obtain ⟨c, rfl, hok⟩ := req_of h2
      exact ⟨c, h1, hok⟩
    clear hi
    have hlist : ∀ k, k ≤ n0 → ∃ cs : List Rc, cs.length = k ∧ ∀ i c, cs[i]? = some c → W.cells? base (a.add (i * 6)) 6 = some c.cells ∧ RcOk Any W c := by
      intro k
      induction k with
      | zero => intro _; exact ⟨[], rfl, by simp⟩
      | succ k ih =>
        intro hk
        obtain ⟨cs, hlen, hall⟩ := ih (by omega)
        obtain ⟨c, h1, h2⟩ := hc k (by omega)
        refine ⟨cs ++ [c], by simp [hlen], fun i c' hi => ?_⟩
        rcases Nat.lt_or_ge i cs.length with hlt | hge
        · rw [List.getElem?_append_left hlt] at hi; exact hall i c' hi
        · rw [List.getElem?_append_right hge] at hi
          have hi0 : i - cs.length = 0 := by
            rcases Nat.eq_zero_or_pos (i - cs.length) with h | h
            · exact h
            · rw [List.getElem?_eq_none (by simp; omega)] at hi; cases hi
          rw [hi0] at hi
          simp at hi
          subst hi
          obtain rfl : i = k := by omega
          exact ⟨h1, h2⟩
    obtain ⟨cs, hlen, hall⟩ := hlist n0 (Nat.le_refl _)
    subst hlen
    refine ⟨cs.map (·.r), cs, rfl, ⟨some a, _, rfl, hl, hm, flat_len cs, fun hn => ?_⟩, fun c hc => ?_⟩
    · have h0 := (hall 0 cs[0] (List.getElem?_eq_getElem hn)).1
      obtain ⟨_, hcl, hat⟩ := World.cells?_some h0
      have hz := hat 0 (by omega)
      obtain ⟨b, off, rfl⟩ : ∃ b off, a = ⟨b, off, none⟩ := by
        apply ints_spot (u := .bool cs[0].r.write)
        have : (a.add (0 * 6)).add 0 = a.add 0 := by simp [Addr.add]
        rw [← this, hz]; rfl
      refine ⟨b, off, rfl, trivial, fun j u hu => ?_⟩
      have hjl : j < cs.length * 6 := by
        rcases Nat.lt_or_ge j (cs.length * 6) with h | h
        · exact h
        · rw [List.getElem?_eq_none (by rw [flat_len]; omega)] at hu; cases hu
      have hq : j / 6 < cs.length := by omega
      have hcq : cs[j / 6]? = some cs[j / 6] := List.getElem?_eq_getElem hq
      have he : j = j / 6 * 6 + j % 6 := by omega
      rw [he, flat_get cs _ _ _ hcq (by omega)] at hu
      obtain ⟨_, _, hat⟩ := World.cells?_some (hall _ _ hcq).1
      have := hat (j % 6) (by omega)
      rw [hu, Go.WideShapes.add_plain, Go.WideShapes.add_plain] at this
      rw [he]
      rw [← this]
      simp [Nat.add_assoc]
    · obtain ⟨i, hi⟩ := List.getElem?_of_mem hc
      exact (hall i c hi).2
end
end Go.Proofs.Ytdhiepcglnbkbaa
