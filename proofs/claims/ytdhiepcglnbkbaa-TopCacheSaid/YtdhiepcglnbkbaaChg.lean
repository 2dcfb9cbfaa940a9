
/- What a call may write: the blocks of a set, and new ones. -/
import Derived.Test.YtdhiepcglnbkbaaLay
namespace Go.Proofs.Ytdhiepcglnbkbaa
open Go.RowKit

/-- Of what was there only blocks of F were written. -/
structure Chg (F : Nat → Prop) (w w' : World) : Prop where
  os : w'.os = w.os
  tape : w'.tape = w.tape
  output : w'.output = w.output
  size : w.heap.size ≤ w'.heap.size
  block : ∀ k, k < w.heap.size → ¬ F k → w'.heap[k]? = w.heap[k]?
/-- F, and what was made between. -/
def Grow (F : Nat → Prop) (w w' : World) : Nat → Prop := fun b => F b ∨ (w.heap.size ≤ b ∧ b < w'.heap.size)
section
variable {F G S : Nat → Prop} {a b c w w' : World}
theorem Chg.refl : Chg F w w := ⟨rfl, rfl, rfl, Nat.le_refl _, fun _ _ _ => rfl⟩
theorem Chg.mono (h : Chg F w w') (hg : ∀ k, F k → G k) : Chg G w w' := ⟨h.os, h.tape, h.output, h.size, fun k hk hn => h.block k hk (fun hf => hn (hg k hf))⟩
theorem Chg.of_below (h : Below w.heap.size w w') : Chg F w w' := ⟨h.os, h.tape, h.output, h.size, fun k hk _ => h.block k hk⟩
theorem Chg.trans (h : Chg F a b) (k : Chg (Grow F a b) b c) : Chg F a c :=
  ⟨k.os.trans h.os, k.tape.trans h.tape, k.output.trans h.output, Nat.le_trans h.size k.size, fun i hi hn => (k.block i (Nat.lt_of_lt_of_le hi h.size) (fun hg => hg.elim hn (fun h2 => by omega))).trans (h.block i hi hn)⟩
theorem Chg.below {B : Nat} (h : Chg F w w') (hF : ∀ k, F k → B ≤ k) (hB : B ≤ w.heap.size) : Below B w w' :=
  ⟨h.os, h.tape, h.output, h.size, fun k hk => h.block k (by omega) (fun hf => by have := hF k hf; omega)⟩
theorem Chg.step (h : Chg F a b) (k : Below b.heap.size b c) : Chg F a c := h.trans (Chg.of_below k)
theorem Chg.drew (h : Chg F a w) : Chg F a w.drew := ⟨h.os, h.tape, h.output, h.size, h.block⟩
theorem Chg.alloc (h : Chg F a w) (o : Obj) : Chg F a (w.alloc o) := h.step ((Below.refl _ _).alloc (Nat.le_refl _) o)
theorem Chg.grown {row : Option Nat} (h : Chg F a w) (hg : w.grownBy w' row) (hr : ∀ k, row = some k → F k ∨ a.heap.size ≤ k) : Chg F a w' :=
  ⟨hg.os.trans h.os, hg.tape.trans h.tape, hg.output.trans h.output, Nat.le_trans h.size hg.size, fun k hk hn => (hg.block k (Nat.lt_of_lt_of_le hk h.size) (fun e => (hr k e.symm).elim hn (fun h2 => by omega))).trans (h.block k hk hn)⟩
theorem Chg.setCell (h : Chg F a w) {p : Addr} (hp : F p.block ∨ a.heap.size ≤ p.block) (u : Value) : Chg F a (w.setCell p u) :=
  ⟨h.os, h.tape, h.output, Nat.le_trans h.size (by simp [World.setCell]), fun k hk hn => (Below.heap_setCell _ _ _ _ (fun e => by subst e; exact hp.elim hn (fun h2 => by omega))).trans (h.block k hk hn)⟩
theorem heap_setCells_other (b k : Nat) (hk : k ≠ b) : ∀ (vs : List Value) (o : Nat) (w : World), (w.setCells b o vs).heap[k]? = w.heap[k]?
  | [], _, _ => rfl
  | v :: r, o, w => by rw [World.setCells, heap_setCells_other b k hk r, Below.heap_setCell _ _ _ _ (by simpa using hk)]
theorem setCells_rest (b : Nat) : ∀ (vs : List Value) (o : Nat) (w : World), (w.setCells b o vs).os = w.os ∧ (w.setCells b o vs).tape = w.tape ∧ (w.setCells b o vs).output = w.output ∧ (w.setCells b o vs).heap.size = w.heap.size
  | [], _, _ => ⟨rfl, rfl, rfl, rfl⟩
  | v :: r, o, w => by
    obtain ⟨h1, h2, h3, h4⟩ := setCells_rest b r (o + 1) (w.setCell ⟨b, o, none⟩ v)
    exact ⟨h1, h2, h3, h4.trans (by simp [World.setCell])⟩
theorem Chg.setCells (h : Chg F a w) {p : Nat} (hp : F p ∨ a.heap.size ≤ p) (o : Nat) (vs : List Value) : Chg F a (w.setCells p o vs) := by
  obtain ⟨h1, h2, h3, h4⟩ := setCells_rest p vs o w
  exact ⟨h1.trans h.os, h2.trans h.tape, h3.trans h.output, by rw [h4]; exact h.size, fun k hk hn => (heap_setCells_other _ _ (fun e => by subst e; exact hp.elim hn (fun h2 => by omega)) _ _ _).trans (h.block k hk hn)⟩
theorem Grow.old {k : Nat} (h : F k) : Grow F w w' k := .inl h
theorem Grow.step (h2 : b.heap.size ≤ c.heap.size) : ∀ k, Grow F a b k → Grow F a c k := fun k hk => hk.elim .inl (fun hk => .inr ⟨hk.1, by omega⟩)
theorem Grow.trans (h1 : a.heap.size ≤ b.heap.size) (h2 : b.heap.size ≤ c.heap.size) : ∀ k, Grow (Grow F a b) b c k → Grow F a c k := fun k hk => by
  rcases hk with (hk | hk) | hk
  · exact .inl hk
  · exact .inr ⟨hk.1, by omega⟩
  · exact .inr ⟨by omega, hk.2⟩
theorem cell_b {p : Addr} {v : Value} (hb : Below w.heap.size w w') (h : w.cell? p = some v) : w'.cell? p = some v := by
  rw [hb.cell (block_lt_of_cell h)]; exact h
/-- What lies in blocks that nobody writes stays. -/
theorem Chg.keep (h : Chg F w w') (hd : ∀ k, S k → ¬ F k) : ∀ k, S k → k < w.heap.size → w'.heap[k]? = w.heap[k]? := fun k hs hk => h.block k hk (hd k hs)
/-- The call's own blocks, while an object changes. -/
theorem Lay.chg {l : List (Nat × TypeId × Array Value)} (L : Lay w a l) (h : Chg F a b) (hF : ∀ k, F k → w.heap.size ≤ k) (hn : ∀ x ∈ l, ¬ F x.1) : Lay w b l :=
  ⟨L.below.trans (h.below hF L.size), fun x hx => (h.block _ (L.lt hx) (hn x hx)).trans (L.row x hx), L.own, L.nd⟩
end
end Go.Proofs.Ytdhiepcglnbkbaa
