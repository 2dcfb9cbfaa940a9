
/- One driver, and a call's own blocks. -/
import Derived.Test.YtdhiepcglnbkbaaDrvRest
namespace Go.Proofs.Ytdhiepcglnbkbaa
set_option linter.unusedSimpArgs false
set_option linter.unusedVariables false
open Go.RowKit

theorem and7 (n : Int) : ∃ m : Nat, m ≤ 7 ∧ bits BinOp.and IntKind.i64 n 7 = (m : Int) := by
  refine ⟨(BitVec.ofInt 64 n &&& BitVec.ofInt 64 7).toNat, ?_, ?_⟩
  · rw [BitVec.toNat_and]
    exact Nat.le_trans Nat.and_le_right (by decide)
  · have h : (BitVec.ofInt 64 n &&& BitVec.ofInt 64 7).toNat ≤ 7 := by
      rw [BitVec.toNat_and]
      exact Nat.le_trans Nat.and_le_right (by decide)
    show IntKind.i64.wrap ((BitVec.ofInt 64 n &&& BitVec.ofInt 64 7).toNat : Int) = _
    exact IntWalk.i64_in _ (by omega)
theorem Lay.tail {w wr : World} {x : Nat × TypeId × Array Value} {l : List (Nat × TypeId × Array Value)} (h : Lay w wr (x :: l)) : Lay w wr l :=
  ⟨h.below, fun y hy => h.row y (List.mem_cons_of_mem _ hy), fun y hy => h.own y (List.mem_cons_of_mem _ hy), by have := h.nd; rw [List.map_cons, List.nodup_cons] at this; exact this.2⟩

/-- Since W0 nothing that was there was written; the driver v lies at bv, its disk at bd, its counts at bt, and what they may write is their own (F, bv, bt); requests lie in S; the blocks of the list are the call's own. -/
structure Dr (TD TP TV : TypeId) (W0 w : World) (S F : Nat → Prop) (bv bd bt n : Nat) (v : Drv) (l : List (Nat × TypeId × Array Value)) : Prop where
  lay : Lay W0 w l
  p : DrvAt TD TP TV S F w bv bd bt n v
  fl : ∀ k, F k → W0.heap.size ≤ k ∧ k < w.heap.size
  vl : W0.heap.size ≤ bv
  tl : W0.heap.size ≤ bt
  sl : ∀ k, S k → k < w.heap.size
  sf : ∀ k, S k → ¬ F k
  s0 : ∀ k, k < W0.heap.size → S k
  ok : DvOk v.d
  tr : ∀ j, 0 ≤ v.tries j ∧ v.tries j ≤ 2
  nf : ∀ x ∈ l, ¬ F x.1 ∧ ¬ S x.1 ∧ x.1 ≠ bv ∧ x.1 ≠ bt
theorem DrvAt.vlt {TD TP TV : TypeId} {S F : Nat → Prop} {w : World} {bv bd bt n : Nat} {v : Drv} (h : DrvAt TD TP TV S F w bv bd bt n v) : bv < w.heap.size := (Array.getElem?_eq_some_iff.1 h.row).1
theorem DrvAt.tlt {TD TP TV : TypeId} {S F : Nat → Prop} {w : World} {bv bd bt n : Nat} {v : Drv} (h : DrvAt TD TP TV S F w bv bd bt n v) : bt < w.heap.size := by
  obtain ⟨f, hf, _⟩ := h.map; exact hf.lt
section
variable {TD TP TV : TypeId} {W0 w w' : World} {S S' F F' : Nat → Prop} {bv bd bt n m : Nat} {v v' : Drv} {l : List (Nat × TypeId × Array Value)}
theorem Dr.step (h : Dr TD TP TV W0 w S F bv bd bt n v l) (hb : Below w.heap.size w w') : Dr TD TP TV W0 w' S F bv bd bt n v l :=
  ⟨h.lay.step hb, h.p.below hb, fun k hk => ⟨(h.fl k hk).1, Nat.lt_of_lt_of_le (h.fl k hk).2 hb.size⟩, h.vl, h.tl, fun k hk => Nat.lt_of_lt_of_le (h.sl k hk) hb.size, h.sf, h.s0, h.ok, h.tr, h.nf⟩
theorem Dr.alloc (h : Dr TD TP TV W0 w S F bv bd bt n v l) (q : Nat) (cs : Array Value) (T : TypeId) (hn : w.heap.size = q) : Dr TD TP TV W0 (w.alloc (.cells cs T)) S F bv bd bt n v ((q, T, cs) :: l) := by
  have h1 := h.step ((Below.refl w.heap.size w).alloc (Nat.le_refl _) (.cells cs T))
  refine ⟨h.lay.alloc' q cs T hn, h1.p, h1.fl, h.vl, h.tl, h1.sl, h.sf, h.s0, h.ok, h.tr, fun x hx => ?_⟩
  rcases List.mem_cons.1 hx with rfl | hx
  · have h1 := h.p.vlt
    have h2 := h.p.tlt
    exact ⟨fun hf => by have := (h.fl _ hf).2; simp only at this; omega, fun hf => by have := h.sl _ hf; simp only at this; omega, by simp only; omega, by simp only; omega⟩
  · exact h.nf x hx
/-- The driver has done something. -/
theorem Dr.did (h : Dr TD TP TV W0 w S F bv bd bt n v l) (hp : DrvAt TD TP TV S' F' w' bv bd bt m v') (hc : Chg (fun k => F k ∨ k = bt) w w') (hF : ∀ k, F' k → Grow F w w' k) (hSS : ∀ k, S k → S' k) (hS : ∀ k, S' k → Grow S w w' k) (hSF : ∀ k, S' k → ¬ F' k)
    (hok : DvOk v'.d) (htr : ∀ j, 0 ≤ v'.tries j ∧ v'.tries j ≤ 2) : Dr TD TP TV W0 w' S' F' bv bd bt m v' l := by
  have hs := h.lay.size
  have hz := hc.size
  refine ⟨h.lay.chg hc (fun k hk => hk.elim (fun hk => (h.fl k hk).1) (fun e => e ▸ h.tl)) (fun x hx hk => hk.elim (h.nf x hx).1 (h.nf x hx).2.2.2), hp, fun k hk => ?_, h.vl, h.tl, fun k hk => ?_, hSF, fun k hk => hSS k (h.s0 k hk), hok, htr, fun x hx => ⟨fun hf => ?_, fun hf => ?_, (h.nf x hx).2.2⟩⟩
  · rcases hF k hk with hk | hk
    · exact ⟨(h.fl k hk).1, Nat.lt_of_lt_of_le (h.fl k hk).2 hc.size⟩
    · exact ⟨by omega, hk.2⟩
  · rcases hS k hk with hk | hk
    · exact Nat.lt_of_lt_of_le (h.sl k hk) hc.size
    · exact hk.2
  · rcases hF _ hf with hk | hk
    · exact (h.nf x hx).1 hk
    · have := h.lay.lt hx; omega
  · rcases hS _ hf with hk | hk
    · exact (h.nf x hx).2.1 hk
    · have := h.lay.lt hx; omega
/-- The driver has started one. -/
theorem Dr.started (h : Dr TD TP TV W0 w S F bv bd bt n v l) (hp : DrvAt TD TP TV S (Grow F w w') w' bv bd bt n v') (hc : Chg F w w') (hok : DvOk v'.d) (htr : v'.tries = v.tries) : Dr TD TP TV W0 w' S (Grow F w w') bv bd bt n v' l :=
  h.did hp (hc.mono (fun k hk => .inl hk)) (fun k hk => hk) (fun k hk => hk) (fun k hk => .inl hk) (fun k hk hf => hf.elim (h.sf k hk) (fun hh => by have := h.sl k hk; omega)) hok (by rw [htr]; exact h.tr)
theorem Dr.flt (h : Dr TD TP TV W0 w S F bv bd bt n v l) : ∀ k, F k → k < w.heap.size := fun k hk => (h.fl k hk).2
theorem Dr.tri (h : Dr TD TP TV W0 w S F bv bd bt n v l) : ∀ j, i64 j → 0 ≤ v.tries j ∧ v.tries j ≤ 2 := fun j _ => h.tr j
theorem Dr.tail {x : Nat × TypeId × Array Value} (h : Dr TD TP TV W0 w S F bv bd bt n v (x :: l)) : Dr TD TP TV W0 w S F bv bd bt n v l :=
  ⟨h.lay.tail, h.p, h.fl, h.vl, h.tl, h.sl, h.sf, h.s0, h.ok, h.tr, fun y hy => h.nf y (List.mem_cons_of_mem _ hy)⟩
end
/-- What the driver has stays as it may be. -/
theorem Drv.endAt_ok {v : Drv} (h : DvOk v.d) (ht : ∀ j, 0 ≤ v.tries j ∧ v.tries j ≤ 2) (i : Int) (f : Bool) : DvOk (v.endAt i f).1.d ∧ (∀ j, 0 ≤ (v.endAt i f).1.tries j ∧ (v.endAt i f).1.tries j ≤ 2) ∧ (v.endAt i f).1.d.waits.length ≤ v.d.waits.length + 4 := by
  rcases endAt_split v.d i with hi | ⟨k, r, rfl, hk⟩
  · rw [drvEndAt_none v i f hi]
    exact ⟨h, ht, by simp⟩
  · have hr := h.l r (List.mem_of_getElem? hk)
    have hu : ∀ a t, 0 ≤ t ∧ t ≤ 2 → ∀ j, 0 ≤ upd v.tries a t j ∧ upd v.tries a t j ≤ 2 := fun a t hh j => by
      unfold upd
      split
      · exact hh
      · exact ht j
    cases f with
    | false =>
      rw [drvEndAt_ok v k r hk]
      have := h.ended (reqF_zero hr) k false
      exact ⟨this.1, hu _ _ (by omega), this.2⟩
    | true =>
      by_cases h3 : v.tries (tagOf r) + 1 < 3
      · rw [drvEndAt_again v k r hk h.two h3]
        have := (ht (tagOf r)).1
        refine ⟨(h.drop k).start hr, hu _ _ (by omega), ?_⟩
        show ((v.d.drop k).start r).1.waits.length ≤ _
        rw [start_waits]
        simp [Dv.drop]
      · rw [drvEndAt_gone v k r hk h3]
        exact ⟨h.drop k, hu _ _ (by omega), by simp [Dv.drop]⟩
end Go.Proofs.Ytdhiepcglnbkbaa
