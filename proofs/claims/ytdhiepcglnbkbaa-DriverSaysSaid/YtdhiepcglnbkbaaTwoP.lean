
/- Two disks of the program at once, and a call's own blocks. -/
import Derived.Test.YtdhiepcglnbkbaaTwo
namespace Go.Proofs.Ytdhiepcglnbkbaa
set_option linter.unusedSimpArgs false
set_option linter.unusedVariables false
open Go.RowKit

/-- Since W0 nothing that was there was written; d1 lies at bd, d2 at bm; what each may write is its own; the blocks of the list are the call's own. -/
structure TwoP (W0 w : World) (bd bm : Nat) (F G : Nat → Prop) (d1 d2 : Dv) (l : List (Nat × TypeId × Array Value)) : Prop where
  lay : Lay W0 w l
  p : DevAt TDp TPp (fun k => k < W0.heap.size) F w bd d1
  r : DevAt TDp TPp (fun k => k < W0.heap.size) G w bm d2
  fl : ∀ k, F k → W0.heap.size ≤ k ∧ k < w.heap.size
  gl : ∀ k, G k → W0.heap.size ≤ k ∧ k < w.heap.size
  fg : ∀ k, F k → ¬ G k
  ok1 : DvOk d1
  ok2 : DvOk d2
  nf : ∀ x ∈ l, ¬ F x.1 ∧ ¬ G x.1
section
variable {W0 w w' : World} {bd bm : Nat} {F F' G G' : Nat → Prop} {d1 d1' d2 d2' : Dv} {l : List (Nat × TypeId × Array Value)}
theorem TwoP.step (h : TwoP W0 w bd bm F G d1 d2 l) (hb : Below w.heap.size w w') : TwoP W0 w' bd bm F G d1 d2 l :=
  ⟨h.lay.step hb, h.p.below hb, h.r.below hb, fun k hk => ⟨(h.fl k hk).1, Nat.lt_of_lt_of_le (h.fl k hk).2 hb.size⟩, fun k hk => ⟨(h.gl k hk).1, Nat.lt_of_lt_of_le (h.gl k hk).2 hb.size⟩, h.fg, h.ok1, h.ok2, h.nf⟩
theorem TwoP.alloc (h : TwoP W0 w bd bm F G d1 d2 l) (n : Nat) (cs : Array Value) (T : TypeId) (hn : w.heap.size = n) : TwoP W0 (w.alloc (.cells cs T)) bd bm F G d1 d2 ((n, T, cs) :: l) := by
  have h1 := h.step ((Below.refl w.heap.size w).alloc (Nat.le_refl _) (.cells cs T))
  refine ⟨h.lay.alloc' n cs T hn, h1.p, h1.r, h1.fl, h1.gl, h1.fg, h1.ok1, h1.ok2, fun x hx => ?_⟩
  rcases List.mem_cons.1 hx with rfl | hx
  · exact ⟨fun hf => by have := (h.fl _ hf).2; simp only at this; omega, fun hf => by have := (h.gl _ hf).2; simp only at this; omega⟩
  · exact h.nf x hx
theorem TwoP.tail {x : Nat × TypeId × Array Value} (h : TwoP W0 w bd bm F G d1 d2 (x :: l)) : TwoP W0 w bd bm F G d1 d2 l :=
  ⟨⟨h.lay.below, fun y hy => h.lay.row y (List.mem_cons_of_mem _ hy), fun y hy => h.lay.own y (List.mem_cons_of_mem _ hy), by have := h.lay.nd; rw [List.map_cons, List.nodup_cons] at this; exact this.2⟩, h.p, h.r, h.fl, h.gl, h.fg, h.ok1, h.ok2, fun y hy => h.nf y (List.mem_cons_of_mem _ hy)⟩
theorem TwoP.drop (h : TwoP W0 w bd bm F G d1 d2 l) : TwoP W0 w bd bm F G d1 d2 [] :=
  ⟨⟨h.lay.below, by simp, by simp, by simp⟩, h.p, h.r, h.fl, h.gl, h.fg, h.ok1, h.ok2, by simp⟩
/-- The program's disk has done something. -/
theorem TwoP.prog (h : TwoP W0 w bd bm F G d1 d2 l) (hd : DevAt TDp TPp (fun k => k < W0.heap.size) F' w' bd d1') (hc : Chg F w w') (hF : ∀ k, F' k → Grow F w w' k) (hok : DvOk d1') : TwoP W0 w' bd bm F' G d1' d2 l := by
  have hs := h.lay.size
  refine ⟨h.lay.chg hc (fun k hk => (h.fl k hk).1) (fun x hx => (h.nf x hx).1), hd, h.r.apart hc (fun k hk hf => h.fg k hf hk) (fun k hk hf => by have := (h.fl k hf).1; omega), fun k hk => ?_, fun k hk => ⟨(h.gl k hk).1, Nat.lt_of_lt_of_le (h.gl k hk).2 hc.size⟩, fun k hk hg => ?_, hok, h.ok2, fun x hx => ⟨fun hf => ?_, (h.nf x hx).2⟩⟩
  · rcases hF k hk with hk | hk
    · exact ⟨(h.fl k hk).1, Nat.lt_of_lt_of_le (h.fl k hk).2 hc.size⟩
    · exact ⟨by omega, hk.2⟩
  · rcases hF k hk with hk | hk
    · exact h.fg k hk hg
    · have := (h.gl k hg).2; omega
  · rcases hF _ hf with hk | hk
    · exact (h.nf x hx).1 hk
    · have := h.lay.lt hx; omega
/-- The reference's disk has done something. -/
theorem TwoP.ref (h : TwoP W0 w bd bm F G d1 d2 l) (hd : DevAt TDp TPp (fun k => k < W0.heap.size) G' w' bm d2') (hc : Chg G w w') (hG : ∀ k, G' k → Grow G w w' k) (hok : DvOk d2') : TwoP W0 w' bd bm F G' d1 d2' l := by
  have hs := h.lay.size
  refine ⟨h.lay.chg hc (fun k hk => (h.gl k hk).1) (fun x hx => (h.nf x hx).2), h.p.apart hc (fun k hk hf => h.fg k hk hf) (fun k hk hf => by have := (h.gl k hf).1; omega), hd, fun k hk => ⟨(h.fl k hk).1, Nat.lt_of_lt_of_le (h.fl k hk).2 hc.size⟩, fun k hk => ?_, fun k hk hg => ?_, h.ok1, hok, fun x hx => ⟨(h.nf x hx).1, fun hf => ?_⟩⟩
  · rcases hG k hk with hk | hk
    · exact ⟨(h.gl k hk).1, Nat.lt_of_lt_of_le (h.gl k hk).2 hc.size⟩
    · exact ⟨by omega, hk.2⟩
  · rcases hG k hg with hg | hg
    · exact h.fg k hk hg
    · have := (h.fl k hk).2; omega
  · rcases hG _ hf with hk | hk
    · exact (h.nf x hx).2 hk
    · have := h.lay.lt hx; omega
theorem TwoP.below (h : TwoP W0 w bd bm F G d1 d2 l) : Below W0.heap.size W0 w := h.lay.below
theorem TwoP.sf (h : TwoP W0 w bd bm F G d1 d2 l) : ∀ k, k < W0.heap.size → ¬ F k := fun k hk hf => by have := (h.fl k hf).1; omega
theorem TwoP.sg (h : TwoP W0 w bd bm F G d1 d2 l) : ∀ k, k < W0.heap.size → ¬ G k := fun k hk hf => by have := (h.gl k hf).1; omega
theorem TwoP.flt (h : TwoP W0 w bd bm F G d1 d2 l) : ∀ k, F k → k < w.heap.size := fun k hk => (h.fl k hk).2
theorem TwoP.glt (h : TwoP W0 w bd bm F G d1 d2 l) : ∀ k, G k → k < w.heap.size := fun k hk => (h.gl k hk).2
theorem TwoP.slt (h : TwoP W0 w bd bm F G d1 d2 l) : ∀ k, k < W0.heap.size → k < w.heap.size := fun k hk => Nat.lt_of_lt_of_le hk h.lay.size
/-- What lies in S none of the two disks writes. -/
def Apart2 (S F G : Nat → Prop) (u : World) : Prop := ∀ k, S k → k < u.heap.size ∧ ¬ F k ∧ ¬ G k
theorem Apart2.step {S F G : Nat → Prop} {u u' : World} (h : Apart2 S F G u) (hs : u.heap.size ≤ u'.heap.size) : Apart2 S F G u' := fun k hk => ⟨Nat.lt_of_lt_of_le (h k hk).1 hs, (h k hk).2⟩
theorem Apart2.prog {S F F' G : Nat → Prop} {u u' : World} (h : Apart2 S F G u) (hc : Chg F u u') (hF : ∀ k, F' k → Grow F u u' k) : Apart2 S F' G u' := fun k hk => ⟨Nat.lt_of_lt_of_le (h k hk).1 hc.size, fun hf => (hF k hf).elim (h k hk).2.1 (fun h2 => by have := (h k hk).1; omega), (h k hk).2.2⟩
theorem Apart2.ref {S F G' G : Nat → Prop} {u u' : World} (h : Apart2 S F G u) (hc : Chg G u u') (hG : ∀ k, G' k → Grow G u u' k) : Apart2 S F G' u' := fun k hk => ⟨Nat.lt_of_lt_of_le (h k hk).1 hc.size, (h k hk).2.1, fun hf => (hG k hf).elim (h k hk).2.2 (fun h2 => by have := (h k hk).1; omega)⟩
/-- Two new disks. -/
theorem TwoP.begin {w w5 w6 w7 : World} {l : List (Nat × TypeId × Array Value)} (L : Lay w w5 l) (hd6 : DevAt TDp TPp (fun k => k < w.heap.size) (fun k => k = w5.heap.size) w6 w5.heap.size Dv.new) (hb6 : Below w5.heap.size w5 w6) (hs6 : w6.heap.size = w5.heap.size + 1)
    (hd7 : DevAt TDp TPp (fun k => k < w.heap.size) (fun k => k = w6.heap.size) w7 w6.heap.size Dv.new) (hb7 : Below w6.heap.size w6 w7) (hs7 : w7.heap.size = w6.heap.size + 1) :
    TwoP w w7 w5.heap.size w6.heap.size (fun k => k = w5.heap.size) (fun k => k = w6.heap.size) Dv.new Dv.new l := by
  have hz5 := L.size
  refine ⟨(L.step hb6).step hb7, hd6.below hb7, hd7, fun k hk => by omega, fun k hk => by omega, fun k hk hg => by omega, DvOk.new, DvOk.new, fun x hx => ?_⟩
  have hx2 := L.lt hx
  exact ⟨fun h => by omega, fun h => by omega⟩
end
namespace Dv
theorem wrote_get : ∀ (l : List ByteArray) (d : Dv) (p i : Nat), (d.wrote p l).now[i]? = if p ≤ i ∧ i < p + l.length ∧ i < d.now.length then l[i - p]? else d.now[i]?
  | [], d, p, i => by
    rw [if_neg (by simp; omega)]; rfl
  | s :: l, d, p, i => by
    rw [wrote, wrote_get l (d.put p s) (p + 1) i]
    have hl : (d.put p s).now.length = d.now.length := by simp [put]
    rw [hl]
    by_cases h : p + 1 ≤ i ∧ i < p + 1 + l.length ∧ i < d.now.length
    · rw [if_pos h, if_pos (by simp; omega)]
      rw [show i - p = (i - (p + 1)) + 1 by omega]
      rfl
    · rw [if_neg h]
      show (d.now.set p s)[i]? = _
      rw [List.getElem?_set]
      by_cases h2 : p = i
      · subst h2
        rw [if_pos rfl]
        by_cases h3 : p < d.now.length
        · rw [if_pos h3, if_pos (by simp; omega)]; simp
        · rw [if_neg h3, if_neg (by simp; omega), List.getElem?_eq_none (by omega)]
      · rw [if_neg h2, if_neg (by simp at h ⊢; omega)]
theorem reads_apart {d : Dv} {p n q : Nat} {l : List ByteArray} (h : p + n ≤ q ∨ q + l.length ≤ p) : (d.wrote q l).reads p n = d.reads p n := by
  unfold reads
  apply List.ext_getElem?
  intro i
  rw [List.getElem?_take, List.getElem?_take]
  split
  · rw [List.getElem?_drop, List.getElem?_drop, wrote_get, if_neg (by omega)]
  · rfl
theorem wrote_swap {d : Dv} {p q : Nat} {a b : List ByteArray} (h : p + a.length ≤ q ∨ q + b.length ≤ p) (i : Nat) : ((d.wrote p a).wrote q b).now[i]? = ((d.wrote q b).wrote p a).now[i]? := by
  rw [wrote_get, wrote_get, wrote_get, wrote_get, (wrote_same _ _ _).2.2.1, (wrote_same _ _ _).2.2.1]
  by_cases h1 : q ≤ i ∧ i < q + b.length ∧ i < d.now.length
  · rw [if_pos h1, if_neg (by omega), if_pos h1]
  · rw [if_neg h1]
    by_cases h2 : p ≤ i ∧ i < p + a.length ∧ i < d.now.length
    · rw [if_pos h2, if_pos h2]
    · rw [if_neg h2, if_neg h2, if_neg h1]
end Dv
theorem apart_of {r s : Rq} (hr : ReqOk r) (hs : ReqOk s) (h : meetB r.lo r.many s.lo s.many = false) : r.lo.toNat + r.many.toNat ≤ s.lo.toNat ∨ s.lo.toNat + s.many.toNat ≤ r.lo.toNat := by
  have h1 := hr.span
  have h2 := hs.span
  unfold SpanOk at h1 h2
  unfold meetB at h
  simp at h
  by_cases c : r.lo < s.lo + s.many
  · have := h c; omega
  · omega
/-- What the ending of s changes, that of r doesn't see, if they have no sector in common. -/
theorem ended_apart {d : Dv} {r s : Rq} (hr : ReqOk r) (hs : ReqOk s) (h : meetB r.lo r.many s.lo s.many = false) (i j k l : Nat) :
    (d.ended r i false).2 = ((d.ended s j false).1.ended r k false).2 := by
  have hap := apart_of hr hs h
  unfold Dv.ended
  by_cases h1 : r.write = true
  · simp [h1]
  · by_cases h2 : s.write = true
    · have hl := hs.len h2
      simp only [h1, h2, if_false, if_true, Bool.false_eq_true]
      rw [Dv.reads_apart (by have := hs.span; unfold SpanOk at this; omega)]
      rfl
    · simp [h1, h2]
      rfl
theorem ended_swap {d : Dv} {r s : Rq} (hr : ReqOk r) (hs : ReqOk s) (h : meetB r.lo r.many s.lo s.many = false) (i j k l q : Nat) :
    ((d.ended r i false).1.ended s j false).1.now[q]? = ((d.ended s k false).1.ended r l false).1.now[q]? := by
  have hap := apart_of hr hs h
  have hw : ∀ (d : Dv) (r : Rq) (i : Nat), (d.ended r i false).1.now = if r.write = true then (d.wrote r.lo.toNat r.data).now else d.now := fun d r i => by
    have hd : ∀ (l : List ByteArray) (d : Dv) (p : Nat), ((d.drop i).wrote p l).now = (d.wrote p l).now := fun l => by
      have : ∀ (l : List ByteArray) (d e : Dv) (p : Nat), d.now = e.now → (d.wrote p l).now = (e.wrote p l).now := by
        intro l
        induction l with
        | nil => intro d e p h; exact h
        | cons x l ih => intro d e p h; exact ih _ _ _ (by simp [Dv.put, h])
      intro d p
      exact this l _ _ p rfl
    unfold Dv.ended
    by_cases h1 : r.write = true
    · simp only [h1, if_true, if_false, Bool.false_eq_true]; exact hd _ _ _
    · simp [h1, Dv.drop]
  have hw2 : ∀ (d e : Dv) (l : List ByteArray) (p : Nat), d.now = e.now → (d.wrote p l).now = (e.wrote p l).now := by
    intro d e l
    induction l generalizing d e with
    | nil => intro p h; exact h
    | cons x l ih => intro p h; exact ih _ _ _ (by simp [Dv.put, h])
  by_cases h1 : r.write = true <;> by_cases h2 : s.write = true
  · have l1 := hr.len h1
    have l2 := hs.len h2
    have a1 := hw2 (d.ended r i false).1 (d.wrote r.lo.toNat r.data) s.data s.lo.toNat (by rw [hw d, if_pos h1])
    have a2 := hw2 (d.ended s k false).1 (d.wrote s.lo.toNat s.data) r.data r.lo.toNat (by rw [hw d, if_pos h2])
    rw [hw _ s, if_pos h2, a1, hw _ r, if_pos h1, a2]
    exact Dv.wrote_swap (by omega) q
  · have a2 := hw2 (d.ended s k false).1 d r.data r.lo.toNat (by rw [hw d, if_neg h2])
    rw [hw _ s, if_neg h2, hw d, if_pos h1, hw _ r, if_pos h1, a2]
  · have a1 := hw2 (d.ended r i false).1 d s.data s.lo.toNat (by rw [hw d, if_neg h1])
    rw [hw _ s, if_pos h2, a1, hw _ r, if_neg h1, hw d, if_pos h2]
  · rw [hw _ s, if_neg h2, hw d, if_neg h1, hw _ r, if_neg h1, hw d, if_neg h2]
end Go.Proofs.Ytdhiepcglnbkbaa
