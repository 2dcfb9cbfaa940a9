
/- How lists of sectors lie in memory. -/
import Derived.Test.YtdhiepcglnbkbaaBufMod
import Derived.Test.YtdhiepcglnbkbaaMem2
namespace Go.Proofs.Ytdhiepcglnbkbaa
set_option linter.unusedSimpArgs false
set_option linter.unusedVariables false
open Go.RowKit

def Bf.cells (b : Bf) : List Value := [.int .i64 b.pos, .string b.data, .bool b.dirty, .int .i64 b.used]
abbrev bfV (b : Bf) : Value := .agg #[.int .i64 b.pos, .string b.data, .bool b.dirty, .int .i64 b.used]
structure BfOk (b : Bf) : Prop where
  pos : i64 b.pos
  used : i64 b.used
  data : b.data.size ≤ maxLen
def flatB (l : List Bf) : List Value := l.flatMap Bf.cells
/-- A list of sectors. -/
def BufsAt (S : Nat → Prop) (w : World) (v : Value) (l : List Bf) : Prop := Rd S w 4 v l.length (flatB l) ∧ ∀ b ∈ l, BfOk b

theorem flatB_len (l : List Bf) : (flatB l).length = l.length * 4 := by
  induction l with
  | nil => rfl
  | cons b l ih => rw [flatB, List.flatMap_cons, List.length_append]; rw [flatB] at ih; rw [ih]; simp [Bf.cells]; omega
theorem flatB_app (a b : List Bf) : flatB (a ++ b) = flatB a ++ flatB b := by simp [flatB]
theorem flatB_cons (b : Bf) (l : List Bf) : flatB (b :: l) = b.cells ++ flatB l := rfl
theorem flatB_get : ∀ (l : List Bf) (i j : Nat) (b : Bf), l[i]? = some b → j < 4 → (flatB l)[i * 4 + j]? = b.cells[j]? := by
  intro l
  induction l with
  | nil => intro i j c h _; simp at h
  | cons a cs ih =>
    intro i j c h hj
    rw [flatB_cons]
    cases i with
    | zero =>
      simp at h; subst h
      rw [List.getElem?_append_left (by simp [Bf.cells]; omega)]
      simp
    | succ i =>
      rw [List.getElem?_append_right (by simp [Bf.cells]; omega)]
      simp at h
      rw [← ih i j c h hj]
      congr 1
      simp [Bf.cells]; omega
theorem flatB_take : ∀ (l : List Bf) (i : Nat), (flatB l).take (i * 4) = flatB (l.take i) := by
  intro l
  induction l with
  | nil => intro i; simp [flatB]
  | cons a l ih =>
    intro i
    cases i with
    | zero => simp [flatB]
    | succ i =>
      rw [flatB_cons, List.take_succ_cons, flatB_cons, ← ih, List.take_append]
      have : (i + 1) * 4 - a.cells.length = i * 4 := by simp [Bf.cells]; omega
      rw [this, List.take_of_length_le (by simp [Bf.cells]; omega)]
theorem flatB_drop : ∀ (l : List Bf) (i : Nat), (flatB l).drop (i * 4) = flatB (l.drop i) := by
  intro l
  induction l with
  | nil => intro i; simp [flatB]
  | cons a l ih =>
    intro i
    cases i with
    | zero => simp [flatB]
    | succ i =>
      rw [flatB_cons, List.drop_succ_cons, ← ih, List.drop_append]
      have : (i + 1) * 4 - a.cells.length = i * 4 := by simp [Bf.cells]; omega
      rw [this, List.drop_eq_nil_of_le (by simp [Bf.cells]; omega)]; rfl
theorem flatB_one (l : List Bf) : ∀ u ∈ flatB l, u.oneCell' = true := by
  intro u hu
  obtain ⟨b, hb, hu⟩ := List.mem_flatMap.1 hu
  simp only [Bf.cells, List.mem_cons, List.not_mem_nil, or_false] at hu
  rcases hu with rfl | rfl | rfl | rfl <;> rfl
/-- One cell of one of them. -/
theorem flatB_set1 {l : List Bf} {i : Nat} {b c : Bf} (hb : l[i]? = some b) (k : Nat) (hk : k < 4) (v : Value) (hc : c.cells = b.cells.set k v) : (flatB l).set (i * 4 + k) v = flatB (l.set i c) := by
  have hlt := (List.getElem?_eq_some_iff.1 hb).1
  have e0 := List.set_eq_take_append_cons_drop (l := l) (i := i) (a := c)
  rw [if_pos hlt] at e0
  rw [e0, flatB_app, flatB_cons, ← flatB_take, ← flatB_drop, hc]
  apply List.ext_getElem?
  intro j
  have hl := flatB_len l
  rw [List.getElem?_set]
  have htl : ((flatB l).take (i * 4)).length = i * 4 := by rw [List.length_take, hl]; omega
  have hbl : (b.cells.set k v).length = 4 := by simp [Bf.cells]
  have hbl' : b.cells.length = 4 := by simp [Bf.cells]
  by_cases h1 : j < i * 4
  · rw [if_neg (by omega), List.getElem?_append_left (by rw [htl]; exact h1), List.getElem?_take, if_pos h1]
  · by_cases h2 : j < i * 4 + 4
    · have hj : (flatB l)[j]? = b.cells[j - i * 4]? := by
        have := flatB_get l i (j - i * 4) b hb (by omega)
        rw [show i * 4 + (j - i * 4) = j by omega] at this; exact this
      rw [List.getElem?_append_right (by omega), htl, List.getElem?_append_left (by omega), List.getElem?_set, hj, hl, hbl']
      by_cases e : i * 4 + k = j
      · rw [if_pos e, if_pos (by omega), if_pos (by omega), if_pos (by omega)]
      · rw [if_neg e, if_neg (by omega)]
    · rw [if_neg (by omega), List.getElem?_append_right (by omega), htl, List.getElem?_append_right (by omega), hbl, List.getElem?_drop]
      congr 1; omega
section
variable {S S' : Nat → Prop} {w w' : World} {v : Value} {l : List Bf}
theorem BufsAt.keep (h : BufsAt S w v l) (hk : ∀ b, S b → b < w.heap.size → w'.heap[b]? = w.heap[b]?) : BufsAt S w' v l := ⟨h.1.keep hk, h.2⟩
theorem BufsAt.below (h : BufsAt S w v l) (hb : Below w.heap.size w w') : BufsAt S w' v l := ⟨h.1.below hb, h.2⟩
theorem BufsAt.more (h : BufsAt S w v l) (hS : ∀ b, S b → S' b) : BufsAt S' w v l := ⟨h.1.more hS, h.2⟩
theorem BufsAt.lt (h : BufsAt S w v l) : BufsAt (fun b => S b ∧ b < w.heap.size) w v l := ⟨h.1.lt (by omega), h.2⟩
theorem BufsAt.form (h : BufsAt S w v l) : ∃ A cap, v = .slice A l.length cap ∧ l.length ≤ cap ∧ cap ≤ maxLen := h.1.form
theorem BufsAt.at_ {A : Option Addr} {n cap : Nat} (h : BufsAt S w (.slice A n cap) l) (hn : 0 < l.length) :
    ∃ b off, A = some ⟨b, off, none⟩ ∧ S b ∧ b < w.heap.size ∧ ∀ i x, l[i]? = some x → BfOk x ∧
      w.cell? ⟨b, off + i * 4, none⟩ = some (.int .i64 x.pos) ∧ w.cell? ⟨b, off + i * 4 + 1, none⟩ = some (.string x.data) ∧ w.cell? ⟨b, off + i * 4 + 2, none⟩ = some (.bool x.dirty) ∧
      w.cell? ⟨b, off + i * 4 + 3, none⟩ = some (.int .i64 x.used) := by
  have he : n = l.length := by obtain ⟨_, _, e, _⟩ := h.1.form; injection e
  subst he
  obtain ⟨b, off, e, hS, hlt, hc⟩ := h.1.at_ hn (by omega)
  refine ⟨b, off, e, hS, hlt, fun i x hi => ?_⟩
  have hg := fun j hj => flatB_get l i j x hi hj
  refine ⟨h.2 x (List.mem_of_getElem? hi), ?_, ?_, ?_, ?_⟩
  · exact hc (i * 4 + 0) _ ((hg 0 (by omega)).trans rfl)
  · have := hc (i * 4 + 1) _ ((hg 1 (by omega)).trans rfl); rwa [← Nat.add_assoc] at this
  · have := hc (i * 4 + 2) _ ((hg 2 (by omega)).trans rfl); rwa [← Nat.add_assoc] at this
  · have := hc (i * 4 + 3) _ ((hg 3 (by omega)).trans rfl); rwa [← Nat.add_assoc] at this
theorem BufsAt.nil : BufsAt S w (.slice none 0 0) [] := ⟨Rd.nil, by simp⟩
end
/-- A row of the call's own: a cell in it is written. -/
theorem own_setCell {w : World} {base g n cap size j : Nat} {e : TypeId} {xs : List Value} {v : Value} (h : w.ownsRow base e size (.slice (some ⟨g, 0, none⟩) n cap) n xs) (hj : j < n * size) :
    (w.setCell ⟨g, j, none⟩ v).ownsRow base e size (.slice (some ⟨g, 0, none⟩) n cap) n (xs.set j v) := by
  obtain ⟨h1, h2⟩ := h
  rcases h2 with ⟨h2, h3⟩ | ⟨g', cap', cur, hv, hb, hh, hnc, hcm, hcs, htake⟩
  · cases h2
  · cases hv
    refine ⟨by rw [List.length_set]; exact h1, .inr ⟨g, cap, cur.setIfInBounds j v, rfl, hb, ?_, hnc, hcm, by simpa using hcs, ?_⟩⟩
    · exact heap_setCell_same _ _ _ _ _ _ hh
    · rw [← htake, Array.toList_setIfInBounds, List.take_set]
theorem own_frozen {w : World} {base g n cap size : Nat} {e : TypeId} {xs : List Value} (h : w.ownsRow base e size (.slice (some ⟨g, 0, none⟩) n cap) n xs) (hn : 0 < n) (j : Nat) : w.frozen? ⟨g, j, none⟩ = false := by
  obtain ⟨h1, h2⟩ := h
  rcases h2 with ⟨h2, h3⟩ | ⟨g', cap', cur, hv, hb, hh, hnc, hcm, hcs, htake⟩
  · omega
  · cases hv; exact frozen_of_row _ _ _ _ _ hh
theorem own_row {w : World} {base g n cap size : Nat} {e : TypeId} {xs : List Value} (h : w.ownsRow base e size (.slice (some ⟨g, 0, none⟩) n cap) n xs) (hn : 0 < n) :
    ∃ cur, w.heap[g]? = some (.cells cur e (0, 0)) ∧ base ≤ g ∧ n ≤ cap ∧ cap ≤ maxLen ∧ cur.size = cap * size ∧ cur.toList.take (n * size) = xs := by
  obtain ⟨h1, h2⟩ := h
  rcases h2 with ⟨h2, h3⟩ | ⟨g', cap', cur, hv, hb, hh, hnc, hcm, hcs, htake⟩
  · omega
  · cases hv; exact ⟨cur, hh, hb, hnc, hcm, hcs, htake⟩
theorem own_pos {w : World} {base n size : Nat} {e : TypeId} {v : Value} {xs : List Value} (h : w.ownsRow base e size v n xs) (hn : 0 < n) :
    ∃ g cap, v = .slice (some ⟨g, 0, none⟩) n cap ∧ base ≤ g ∧ g < w.heap.size ∧ n ≤ cap ∧ cap ≤ 9223372036854775807 := by
  rcases h.2 with ⟨_, h0⟩ | ⟨g, cap, cur, hv, hb, hh, h3, h4, _⟩
  · omega
  · subst hv
    unfold maxLen at h4
    exact ⟨g, cap, rfl, hb, (h.lt g rfl).2, h3, by omega⟩
/-- The row lies in a block that kept what it held. -/
theorem own_stays {w w' : World} {base n size : Nat} {e : TypeId} {v : Value} {xs : List Value} (h : w.ownsRow base e size v n xs) (hk : ∀ g, v.ownBlock = some g → w'.heap[g]? = w.heap[g]?) : w'.ownsRow base e size v n xs := by
  refine ⟨h.1, ?_⟩
  rcases h.2 with h2 | ⟨g', cap', cur, hv, hb, hh, h3⟩
  · exact .inl h2
  · subst hv
    exact .inr ⟨g', cap', cur, rfl, hb, (hk g' rfl).trans hh, h3⟩
theorem own_below {w w' : World} {base n size : Nat} {e : TypeId} {v : Value} {xs : List Value} (h : w.ownsRow base e size v n xs) (hb : Below w.heap.size w w') : w'.ownsRow base e size v n xs :=
  own_stays h fun g hg => hb.block g (h.lt g hg).2
/-- The whole of one of them is written. -/
theorem flatB_set {l : List Bf} {i : Nat} (hi : i < l.length) (c : Bf) : ((((flatB l).set (i * 4) (.int .i64 c.pos)).set (i * 4 + 1) (.string c.data)).set (i * 4 + 2) (.bool c.dirty)).set (i * 4 + 3) (.int .i64 c.used) = flatB (l.set i c) := by
  have hx : l[i]? = some l[i] := List.getElem?_eq_getElem hi
  generalize l[i] = b at hx
  obtain ⟨p, d, y, u⟩ := b
  have s1 := flatB_set1 (c := ⟨c.pos, d, y, u⟩) hx 0 (by omega) (.int .i64 c.pos) rfl
  have e1 : (l.set i ⟨c.pos, d, y, u⟩)[i]? = some ⟨c.pos, d, y, u⟩ := by rw [List.getElem?_set, if_pos rfl, if_pos hi]
  have s2 := flatB_set1 (c := ⟨c.pos, c.data, y, u⟩) e1 1 (by omega) (.string c.data) rfl
  rw [List.set_set] at s2
  have e2 : (l.set i ⟨c.pos, c.data, y, u⟩)[i]? = some ⟨c.pos, c.data, y, u⟩ := by rw [List.getElem?_set, if_pos rfl, if_pos hi]
  have s3 := flatB_set1 (c := ⟨c.pos, c.data, c.dirty, u⟩) e2 2 (by omega) (.bool c.dirty) rfl
  rw [List.set_set] at s3
  have e3 : (l.set i ⟨c.pos, c.data, c.dirty, u⟩)[i]? = some ⟨c.pos, c.data, c.dirty, u⟩ := by rw [List.getElem?_set, if_pos rfl, if_pos hi]
  have s4 := flatB_set1 (c := c) e3 3 (by omega) (.int .i64 c.used) rfl
  rw [List.set_set] at s4
  rw [Nat.add_zero] at s1
  rw [s1, s2, s3, s4]
end Go.Proofs.Ytdhiepcglnbkbaa
