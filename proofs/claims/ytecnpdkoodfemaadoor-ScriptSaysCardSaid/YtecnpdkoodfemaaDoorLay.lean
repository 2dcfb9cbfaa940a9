
/- Blocks of the call's own: what lies in each, in a list. -/
import Derived.Test.YtecnpdkoodfemaaDoorMem
namespace Go.Proofs.YtecnpdkoodfemaaDoor
set_option linter.unusedSimpArgs false
set_option linter.unusedVariables false
open Go.RowKit

/-- Since w nothing that was there was written; the blocks of the list are the call's own, and hold what it says. -/
structure Lay (w wr : World) (l : List (Nat × TypeId × Array Value)) : Prop where
  below : Below w.heap.size w wr
  row : ∀ x ∈ l, wr.heap[x.1]? = some (.cells x.2.2 x.2.1 (0, 0))
  own : ∀ x ∈ l, w.heap.size ≤ x.1
  nd : (l.map (·.1)).Nodup
section
variable {w wr w' : World} {l : List (Nat × TypeId × Array Value)}
theorem Lay.refl (w : World) : Lay w w [] := ⟨Below.refl _ _, by simp, by simp, by simp⟩
theorem Lay.lt (h : Lay w wr l) {x : Nat × TypeId × Array Value} (hx : x ∈ l) : x.1 < wr.heap.size := by
  have := h.row x hx
  rcases Nat.lt_or_ge x.1 wr.heap.size with h | h
  · exact h
  · rw [Array.getElem?_eq_none h] at this; cases this
theorem Lay.size (h : Lay w wr l) : w.heap.size ≤ wr.heap.size := h.below.size
theorem Lay.step (h : Lay w wr l) (hb : Below wr.heap.size wr w') : Lay w w' l :=
  ⟨h.below.trans (hb.mono h.size), fun x hx => (hb.block _ (h.lt hx)).trans (h.row x hx), h.own, h.nd⟩
theorem Lay.alloc (h : Lay w wr l) (cs : Array Value) (T : TypeId) : Lay w (wr.alloc (.cells cs T)) ((wr.heap.size, T, cs) :: l) := by
  have hs := h.step ((Below.refl wr.heap.size wr).alloc (Nat.le_refl _) (.cells cs T))
  refine ⟨hs.below, fun x hx => ?_, fun x hx => ?_, ?_⟩
  · rcases List.mem_cons.1 hx with rfl | hx
    · exact heap_alloc_new wr (.cells cs T)
    · exact hs.row x hx
  · rcases List.mem_cons.1 hx with rfl | hx
    · exact h.size
    · exact h.own x hx
  · rw [List.map_cons, List.nodup_cons]
    refine ⟨fun hm => ?_, h.nd⟩
    obtain ⟨x, hx, he⟩ := List.mem_map.1 hm
    have := h.lt hx
    omega
theorem Lay.alloc' (h : Lay w wr l) (n : Nat) (cs : Array Value) (T : TypeId) (hn : wr.heap.size = n) : Lay w (wr.alloc (.cells cs T)) ((n, T, cs) :: l) := hn ▸ h.alloc cs T
theorem Lay.drew (h : Lay w wr l) : Lay w wr.drew l := h.step (Below.refl _ _).drew
theorem Lay.at_ (h : Lay w wr l) (i : Nat) {b : Nat} {T : TypeId} {cs : Array Value} (hi : l[i]? = some (b, T, cs)) : wr.heap[b]? = some (.cells cs T (0, 0)) := h.row _ (List.mem_of_getElem? hi)
theorem Lay.cell (h : Lay w wr l) (i : Nat) {b : Nat} {T : TypeId} {cs : Array Value} (hi : l[i]? = some (b, T, cs)) (k : Nat) : wr.cell? ⟨b, k, none⟩ = cs[k]? := cell_of_row _ _ k _ _ _ (h.at_ i hi)
theorem Lay.frozen (h : Lay w wr l) (i : Nat) {b : Nat} {T : TypeId} {cs : Array Value} (hi : l[i]? = some (b, T, cs)) (k : Nat) : wr.frozen? ⟨b, k, none⟩ = false := frozen_of_row _ _ k _ _ (h.at_ i hi)
theorem Lay.c6 (h : Lay w wr l) (i : Nat) {b : Nat} {T : TypeId} {c0 c1 c2 c3 c4 c5 : Value} (hi : l[i]? = some (b, T, #[c0, c1, c2, c3, c4, c5])) :
    wr.cell? ⟨b, 0, none⟩ = some c0 ∧ wr.cell? ⟨b, 1, none⟩ = some c1 ∧ wr.cell? ⟨b, 2, none⟩ = some c2 ∧ wr.cell? ⟨b, 3, none⟩ = some c3 ∧ wr.cell? ⟨b, 4, none⟩ = some c4 ∧ wr.cell? ⟨b, 5, none⟩ = some c5 :=
  ⟨h.cell i hi 0, h.cell i hi 1, h.cell i hi 2, h.cell i hi 3, h.cell i hi 4, h.cell i hi 5⟩
/-- The same, behind one more block. -/
theorem Lay.ca6 (h : Lay w wr l) (i : Nat) {b : Nat} {T : TypeId} {c0 c1 c2 c3 c4 c5 : Value} (hi : l[i]? = some (b, T, #[c0, c1, c2, c3, c4, c5])) :
    (∀ o, (wr.alloc o).cell? ⟨b, 0, none⟩ = some c0) ∧ (∀ o, (wr.alloc o).cell? ⟨b, 1, none⟩ = some c1) ∧ (∀ o, (wr.alloc o).cell? ⟨b, 2, none⟩ = some c2) ∧ (∀ o, (wr.alloc o).cell? ⟨b, 3, none⟩ = some c3) ∧ (∀ o, (wr.alloc o).cell? ⟨b, 4, none⟩ = some c4) ∧ (∀ o, (wr.alloc o).cell? ⟨b, 5, none⟩ = some c5) := by
  have k : ∀ o, (wr.alloc o).heap[b]? = some (.cells #[c0, c1, c2, c3, c4, c5] T (0, 0)) := fun o => (Below.heap_alloc _ _ _ (h.lt (List.mem_of_getElem? hi))).trans (h.at_ i hi)
  exact ⟨fun o => cell_of_row _ _ 0 _ _ _ (k o), fun o => cell_of_row _ _ 1 _ _ _ (k o), fun o => cell_of_row _ _ 2 _ _ _ (k o), fun o => cell_of_row _ _ 3 _ _ _ (k o), fun o => cell_of_row _ _ 4 _ _ _ (k o), fun o => cell_of_row _ _ 5 _ _ _ (k o)⟩
theorem Lay.c1 (h : Lay w wr l) (i : Nat) {b : Nat} {T : TypeId} {c0 : Value} (hi : l[i]? = some (b, T, #[c0])) : wr.cell? ⟨b, 0, none⟩ = some c0 := h.cell i hi 0
theorem Lay.c2 (h : Lay w wr l) (i : Nat) {b : Nat} {T : TypeId} {c0 c1 : Value} (hi : l[i]? = some (b, T, #[c0, c1])) : wr.cell? ⟨b, 0, none⟩ = some c0 ∧ wr.cell? ⟨b, 1, none⟩ = some c1 := ⟨h.cell i hi 0, h.cell i hi 1⟩
/-- A cell of the block number i is written. -/
theorem Lay.set (h : Lay w wr l) (i : Nat) {b : Nat} {T : TypeId} {cs : Array Value} (hi : l[i]? = some (b, T, cs)) (k : Nat) (v : Value) : Lay w (wr.setCell ⟨b, k, none⟩ v) (l.set i (b, T, cs.setIfInBounds k v)) := by
  have hm := List.mem_of_getElem? hi
  have hb := h.own _ hm
  have h0 := h.at_ i hi
  have hnd := h.nd
  refine ⟨h.below.setCell hb _, fun x hx => ?_, fun x hx => ?_, ?_⟩
  · obtain ⟨j, hj⟩ := List.mem_iff_getElem?.1 hx
    rw [List.getElem?_set] at hj
    split at hj
    · rename_i e
      split at hj
      · cases hj
        exact heap_setCell_same _ _ k _ _ v h0
      · cases hj
    · rename_i e
      have hne : x.1 ≠ b := by
        intro he
        have h1 : (l.map (·.1))[i]? = some b := by rw [List.getElem?_map, hi]; rfl
        have h2 : (l.map (·.1))[j]? = some b := by rw [List.getElem?_map, hj]; simp [he]
        obtain ⟨l1, h1⟩ := List.getElem?_eq_some_iff.1 h1
        obtain ⟨l2, h2⟩ := List.getElem?_eq_some_iff.1 h2
        exact e ((List.getElem_inj hnd).1 (h1.trans h2.symm))
      rw [heap_setCell_other _ _ _ _ (by simpa using hne)]
      exact h.row x (List.mem_of_getElem? hj)
  · rcases List.mem_or_eq_of_mem_set hx with hx | rfl
    · exact h.own x hx
    · exact hb
  · have : (l.set i (b, T, cs.setIfInBounds k v)).map (·.1) = l.map (·.1) := by
      rw [List.map_set]
      apply List.ext_getElem?
      intro j
      rw [List.getElem?_set]
      split
      · rename_i e
        subst e
        rw [List.getElem?_map, hi]
        split
        · rfl
        · rename_i hh
          exfalso
          apply hh
          rw [List.length_map]
          exact (List.getElem?_eq_some_iff.1 hi).1
      · rfl
    rw [this]
    exact hnd
/-- Six cells in one go. -/
theorem Lay.put6 (h : Lay w wr l) (i : Nat) {b : Nat} {T : TypeId} {c0 c1 c2 c3 c4 c5 : Value} (hi : l[i]? = some (b, T, #[c0, c1, c2, c3, c4, c5])) (v0 v1 v2 v3 v4 v5 : Value) :
    Lay w ((((((wr.setCell ⟨b, 0, none⟩ v0).setCell ⟨b, 1, none⟩ v1).setCell ⟨b, 2, none⟩ v2).setCell ⟨b, 3, none⟩ v3).setCell ⟨b, 4, none⟩ v4).setCell ⟨b, 5, none⟩ v5) (l.set i (b, T, #[v0, v1, v2, v3, v4, v5])) := by
  have hlt : i < l.length := (List.getElem?_eq_some_iff.1 hi).1
  have g0 := h.set i hi 0 v0
  have g1 := g0.set i (by rw [List.getElem?_set, if_pos rfl, if_pos hlt]) 1 v1
  have g2 := g1.set i (by rw [List.getElem?_set, if_pos rfl, if_pos (by simpa using hlt)]) 2 v2
  have g3 := g2.set i (by rw [List.getElem?_set, if_pos rfl, if_pos (by simpa using hlt)]) 3 v3
  have g4 := g3.set i (by rw [List.getElem?_set, if_pos rfl, if_pos (by simpa using hlt)]) 4 v4
  have g5 := g4.set i (by rw [List.getElem?_set, if_pos rfl, if_pos (by simpa using hlt)]) 5 v5
  simpa [List.set_set] using g5
end
end Go.Proofs.YtecnpdkoodfemaaDoor
