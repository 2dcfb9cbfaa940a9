
/- Blocks of the call's own, while an object changes: what lies in each, in a list. -/
import Derived.Test.YtdhiepcglnbkbaaChg
import Derived.Deep.MidRow
namespace Go.Proofs.Ytdhiepcglnbkbaa
set_option linter.unusedSimpArgs false
set_option linter.unusedVariables false
open Go.RowKit

def setMany : Array Value → Nat → List Value → Array Value
  | c, _, [] => c
  | c, o, v :: l => setMany (c.setIfInBounds o v) (o + 1) l
theorem heap_setCells_row (b : Nat) (T : TypeId) : ∀ (vs : List Value) (o : Nat) (w : World) (cur : Array Value), w.heap[b]? = some (.cells cur T (0, 0)) → (w.setCells b o vs).heap[b]? = some (.cells (setMany cur o vs) T (0, 0))
  | [], _, _, _, h => h
  | v :: l, o, w, cur, h => heap_setCells_row b T l (o + 1) _ _ (heap_setCell_same _ _ o _ _ v h)
theorem setMany_mid : ∀ (vs a m c : List Value), m.length = vs.length → setMany (a ++ (m ++ c)).toArray a.length vs = (a ++ (vs ++ c)).toArray
  | [], a, [], c, _ => rfl
  | v :: vs, a, x :: m, c, h => by
    unfold setMany
    rw [List.setIfInBounds_toArray]
    have e1 : (a ++ (x :: m ++ c)).set a.length v = (a ++ [v]) ++ (m ++ c) := by simp [List.set_append_right]
    have e2 : a.length + 1 = (a ++ [v]).length := by simp
    rw [e1, e2, setMany_mid vs (a ++ [v]) m c (by simpa using h)]
    simp
theorem setMany_all (cur vs : Array Value) (h : cur.size = vs.size) : setMany cur 0 vs.toList = vs := by
  have := setMany_mid vs.toList [] cur.toList [] (by simpa using h)
  simpa using this

/-- Since w only F and the new blocks were written; the blocks of the list are the call's own, and hold what it says. -/
structure LayF (F : Nat → Prop) (w wr : World) (l : List (Nat × TypeId × Array Value)) : Prop where
  chg : Chg F w wr
  row : ∀ x ∈ l, wr.heap[x.1]? = some (.cells x.2.2 x.2.1 (0, 0))
  own : ∀ x ∈ l, w.heap.size ≤ x.1
  nd : (l.map (·.1)).Nodup
section
variable {F G : Nat → Prop} {w wr w' : World} {l : List (Nat × TypeId × Array Value)}
theorem LayF.refl (F : Nat → Prop) (w : World) : LayF F w w [] := ⟨Chg.refl, by simp, by simp, by simp⟩
theorem LayF.lt (h : LayF F w wr l) {x : Nat × TypeId × Array Value} (hx : x ∈ l) : x.1 < wr.heap.size := by
  have := h.row x hx
  rcases Nat.lt_or_ge x.1 wr.heap.size with h | h
  · exact h
  · rw [Array.getElem?_eq_none h] at this; cases this
theorem LayF.size (h : LayF F w wr l) : w.heap.size ≤ wr.heap.size := h.chg.size
/-- Something was written that is not in the list. -/
theorem LayF.chg2 (h : LayF F w wr l) (hb : Chg G wr w') (hG : ∀ k, G k → F k ∨ w.heap.size ≤ k) (hn : ∀ x ∈ l, ¬ G x.1) : LayF F w w' l :=
  ⟨⟨hb.os.trans h.chg.os, hb.tape.trans h.chg.tape, hb.output.trans h.chg.output, Nat.le_trans h.size hb.size, fun k hk hf => (hb.block k (Nat.lt_of_lt_of_le hk h.size) (fun hg => (hG k hg).elim hf (fun h2 => by omega))).trans (h.chg.block k hk hf)⟩,
    fun x hx => (hb.block _ (h.lt hx) (hn x hx)).trans (h.row x hx), h.own, h.nd⟩
theorem LayF.step (h : LayF F w wr l) (hb : Below wr.heap.size wr w') : LayF F w w' l := h.chg2 (G := fun _ => False) (Chg.of_below hb) (fun _ h => h.elim) (fun _ _ h => h)
theorem LayF.drew (h : LayF F w wr l) : LayF F w wr.drew l := h.step (Below.refl _ _).drew
theorem LayF.alloc' (h : LayF F w wr l) (n : Nat) (cs : Array Value) (T : TypeId) (hn : wr.heap.size = n) : LayF F w (wr.alloc (.cells cs T)) ((n, T, cs) :: l) := by
  subst hn
  have hs := h.step ((Below.refl wr.heap.size wr).alloc (Nat.le_refl _) (.cells cs T))
  refine ⟨hs.chg, fun x hx => ?_, fun x hx => ?_, ?_⟩
  · rcases List.mem_cons.1 hx with rfl | hx
    · exact heap_alloc_new wr (.cells cs T)
    · exact hs.row x hx
  · rcases List.mem_cons.1 hx with rfl | hx
    · exact h.size
    · exact h.own x hx
  · rw [List.map_cons, List.nodup_cons]
    refine ⟨fun hm => ?_, h.nd⟩
    obtain ⟨x, hx, he⟩ := List.mem_map.1 hm
    have := h.lt hx
    omega
theorem LayF.at_ (h : LayF F w wr l) (i : Nat) {b : Nat} {T : TypeId} {cs : Array Value} (hi : l[i]? = some (b, T, cs)) : wr.heap[b]? = some (.cells cs T (0, 0)) := h.row _ (List.mem_of_getElem? hi)
theorem LayF.cell (h : LayF F w wr l) (i : Nat) {b : Nat} {T : TypeId} {cs : Array Value} (hi : l[i]? = some (b, T, cs)) (k : Nat) : wr.cell? ⟨b, k, none⟩ = cs[k]? := cell_of_row _ _ k _ _ _ (h.at_ i hi)
theorem LayF.frozen (h : LayF F w wr l) (i : Nat) {b : Nat} {T : TypeId} {cs : Array Value} (hi : l[i]? = some (b, T, cs)) (k : Nat) : wr.frozen? ⟨b, k, none⟩ = false := frozen_of_row _ _ k _ _ (h.at_ i hi)
theorem LayF.c6 (h : LayF F w wr l) (i : Nat) {b : Nat} {T : TypeId} {c0 c1 c2 c3 c4 c5 : Value} (hi : l[i]? = some (b, T, #[c0, c1, c2, c3, c4, c5])) :
    wr.cell? ⟨b, 0, none⟩ = some c0 ∧ wr.cell? ⟨b, 1, none⟩ = some c1 ∧ wr.cell? ⟨b, 2, none⟩ = some c2 ∧ wr.cell? ⟨b, 3, none⟩ = some c3 ∧ wr.cell? ⟨b, 4, none⟩ = some c4 ∧ wr.cell? ⟨b, 5, none⟩ = some c5 :=
  ⟨h.cell i hi 0, h.cell i hi 1, h.cell i hi 2, h.cell i hi 3, h.cell i hi 4, h.cell i hi 5⟩
theorem LayF.c8 (h : LayF F w wr l) (i : Nat) {b : Nat} {T : TypeId} {c0 c1 c2 c3 c4 c5 c6 c7 : Value} (hi : l[i]? = some (b, T, #[c0, c1, c2, c3, c4, c5, c6, c7])) :
    wr.cell? ⟨b, 0, none⟩ = some c0 ∧ wr.cell? ⟨b, 1, none⟩ = some c1 ∧ wr.cell? ⟨b, 2, none⟩ = some c2 ∧ wr.cell? ⟨b, 3, none⟩ = some c3 ∧ wr.cell? ⟨b, 4, none⟩ = some c4 ∧ wr.cell? ⟨b, 5, none⟩ = some c5 ∧ wr.cell? ⟨b, 6, none⟩ = some c6 ∧ wr.cell? ⟨b, 7, none⟩ = some c7 :=
  ⟨h.cell i hi 0, h.cell i hi 1, h.cell i hi 2, h.cell i hi 3, h.cell i hi 4, h.cell i hi 5, h.cell i hi 6, h.cell i hi 7⟩
theorem LayF.range (h : LayF F w wr l) (i : Nat) {b : Nat} {T : TypeId} {cs : Array Value} (hi : l[i]? = some (b, T, cs)) : wr.rangeAt b 0 cs.toList := fun j v hv => by
  rw [Nat.zero_add, h.cell i hi j]; simpa using hv
theorem LayF.there (h : LayF F w wr l) (i : Nat) {b : Nat} {T : TypeId} {cs : Array Value} (hi : l[i]? = some (b, T, cs)) (n : Nat) (hn : n = cs.size) : wr.there b 0 n := fun j hj => by
  rw [Nat.zero_add, h.cell i hi j, h.frozen i hi j, Array.getElem?_eq_getElem (by omega)]
  exact ⟨rfl, rfl⟩
theorem nd_set {l : List (Nat × TypeId × Array Value)} {i b : Nat} {T : TypeId} {cs cs' : Array Value} (hi : l[i]? = some (b, T, cs)) : (l.set i (b, T, cs')).map (·.1) = l.map (·.1) := by
  rw [List.map_set]
  apply List.ext_getElem?
  intro j
  rw [List.getElem?_set]
  split
  · rename_i e
    subst e
    rw [List.getElem?_map, hi]
    split
    · rfl
    · rename_i hh
      exfalso
      apply hh
      rw [List.length_map]
      exact (List.getElem?_eq_some_iff.1 hi).1
  · rfl
/-- A block of the list is another now. -/
theorem LayF.turn (h : LayF F w wr l) (i : Nat) {b : Nat} {T : TypeId} {cs cs' : Array Value} (hi : l[i]? = some (b, T, cs)) (hc : Chg (fun k => k = b) wr w') (hb : w'.heap[b]? = some (.cells cs' T (0, 0))) : LayF F w w' (l.set i (b, T, cs')) := by
  have hm := List.mem_of_getElem? hi
  have hown := h.own _ hm
  refine ⟨⟨hc.os.trans h.chg.os, hc.tape.trans h.chg.tape, hc.output.trans h.chg.output, Nat.le_trans h.size hc.size, fun k hk hf => (hc.block k (Nat.lt_of_lt_of_le hk h.size) (fun e => by simp only at hown; omega)).trans (h.chg.block k hk hf)⟩, fun x hx => ?_, fun x hx => ?_, ?_⟩
  · obtain ⟨j, hj⟩ := List.mem_iff_getElem?.1 hx
    rw [List.getElem?_set] at hj
    split at hj
    · split at hj
      · cases hj; exact hb
      · cases hj
    · rename_i e
      have hne : x.1 ≠ b := by
        intro he
        have h1 : (l.map (·.1))[i]? = some b := by rw [List.getElem?_map, hi]; rfl
        have h2 : (l.map (·.1))[j]? = some b := by rw [List.getElem?_map, hj]; simp [he]
        obtain ⟨l1, h1⟩ := List.getElem?_eq_some_iff.1 h1
        obtain ⟨l2, h2⟩ := List.getElem?_eq_some_iff.1 h2
        exact e ((List.getElem_inj h.nd).1 (h1.trans h2.symm))
      have hx' := List.mem_of_getElem? hj
      rw [hc.block _ (h.lt hx') hne]
      exact h.row x hx'
  · rcases List.mem_or_eq_of_mem_set hx with hx | rfl
    · exact h.own x hx
    · exact hown
  · rw [nd_set hi]; exact h.nd
theorem LayF.set (h : LayF F w wr l) (i : Nat) {b : Nat} {T : TypeId} {cs : Array Value} (hi : l[i]? = some (b, T, cs)) (k : Nat) (v : Value) : LayF F w (wr.setCell ⟨b, k, none⟩ v) (l.set i (b, T, cs.setIfInBounds k v)) :=
  h.turn i hi (Chg.setCell (F := fun k => k = b) Chg.refl (.inl rfl) _) (heap_setCell_same _ _ k _ _ v (h.at_ i hi))
/-- All cells of a block in one go. -/
theorem LayF.put (h : LayF F w wr l) (i : Nat) {b : Nat} {T : TypeId} {cs : Array Value} (hi : l[i]? = some (b, T, cs)) (vs : Array Value) (hs : cs.size = vs.size) : LayF F w (wr.setCells b 0 vs.toList) (l.set i (b, T, vs)) :=
  h.turn i hi (Chg.setCells (F := fun k => k = b) Chg.refl (.inl rfl) _ _) (by rw [heap_setCells_row b T vs.toList 0 wr cs (h.at_ i hi), setMany_all _ _ hs])
end
end Go.Proofs.Ytdhiepcglnbkbaa
