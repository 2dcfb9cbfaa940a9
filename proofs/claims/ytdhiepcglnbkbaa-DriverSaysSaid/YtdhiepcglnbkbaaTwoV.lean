
/- Two drivers at once, the program's and the reference's, and a call's own blocks. -/
import Derived.Test.YtdhiepcglnbkbaaOneV
import Derived.Test.YtdhiepcglnbkbaaRDrvRest
namespace Go.Proofs.Ytdhiepcglnbkbaa
set_option linter.unusedSimpArgs false
set_option linter.unusedVariables false
open Go.RowKit

section
variable {TD TP TV : TypeId} {W0 w w' : World} {S S' F F' X : Nat → Prop} {bv bd bt n m : Nat} {v v' : Drv} {l : List (Nat × TypeId × Array Value)}
/-- The driver's disk has done something by itself. -/
theorem DrvAt.dev2 {d' : Dv} (h : DrvAt TD TP TV S F w bv bd bt n v) (hF : ∀ k, F k → k < w.heap.size) (hd : DevAt TD TP S (Grow F w w') w' bd d') (hc : Chg F w w') : DrvAt TD TP TV S (Grow F w w') w' bv bd bt n { v with d := d' } := by
  have h1 := h.vlt
  have h2 := h.tlt
  obtain ⟨f, hm, hf⟩ := h.map
  refine ⟨(hc.block _ h1 h.nv).trans h.row, ⟨f, hm.keep (hc.block _ h2 h.nt), hf⟩, hd, fun hg => hg.elim h.nv (fun h => by omega), fun hg => hg.elim h.nt (fun h => by omega), h.sv⟩
/-- Something else was written. -/
theorem Dr.apart (h : Dr TD TP TV W0 w S F bv bd bt n v l) (hc : Chg X w w') (hX : ∀ k, X k → W0.heap.size ≤ k ∧ ¬ F k ∧ ¬ S k ∧ k ≠ bv ∧ k ≠ bt) (hl : ∀ x ∈ l, ¬ X x.1) : Dr TD TP TV W0 w' S F bv bd bt n v l := by
  obtain ⟨f, hm, hf⟩ := h.p.map
  refine ⟨h.lay.chg hc (fun k hk => (hX k hk).1) hl, ⟨(hc.block _ h.p.vlt (fun hk => (hX _ hk).2.2.2.1 rfl)).trans h.p.row, ⟨f, hm.keep (hc.block _ h.p.tlt (fun hk => (hX _ hk).2.2.2.2 rfl)), hf⟩, h.p.dev.apart hc (fun k hk hx => (hX k hx).2.1 hk) (fun k hk hx => (hX k hx).2.2.1 hk), h.p.nv, h.p.nt, h.p.sv⟩,
    fun k hk => ⟨(h.fl k hk).1, Nat.lt_of_lt_of_le (h.fl k hk).2 hc.size⟩, h.vl, h.tl, fun k hk => Nat.lt_of_lt_of_le (h.sl k hk) hc.size, h.sf, h.s0, h.ok, h.tr, h.nf⟩
end
/-- The driver v1 of the program and v2 of the reference, and the blocks of the list. -/
structure Dd (W0 w : World) (S F : Nat → Prop) (bv bd bt n : Nat) (T G : Nat → Prop) (cv cd ct m : Nat) (v1 v2 : Drv) (l : List (Nat × TypeId × Array Value)) : Prop where
  a : Dr TDp TPp TVp W0 w S F bv bd bt n v1 l
  b : Dr TDr TPr TVr W0 w T G cv cd ct m v2 l
  ab : ∀ k, (F k ∨ k = bt ∨ k = bv) → ¬ G k ∧ k ≠ ct ∧ k ≠ cv ∧ ¬ T k
  ba : ∀ k, (G k ∨ k = ct ∨ k = cv) → ¬ S k
section
variable {W0 w w' : World} {S S' F F' T T' G G' : Nat → Prop} {bv bd bt n n' cv cd ct m m' : Nat} {v1 v1' v2 v2' : Drv} {l : List (Nat × TypeId × Array Value)}
theorem Dd.step (h : Dd W0 w S F bv bd bt n T G cv cd ct m v1 v2 l) (hb : Below w.heap.size w w') : Dd W0 w' S F bv bd bt n T G cv cd ct m v1 v2 l := ⟨h.a.step hb, h.b.step hb, h.ab, h.ba⟩
theorem Dd.alloc (h : Dd W0 w S F bv bd bt n T G cv cd ct m v1 v2 l) (q : Nat) (cs : Array Value) (Ty : TypeId) (hn : w.heap.size = q) : Dd W0 (w.alloc (.cells cs Ty)) S F bv bd bt n T G cv cd ct m v1 v2 ((q, Ty, cs) :: l) := ⟨h.a.alloc q cs Ty hn, h.b.alloc q cs Ty hn, h.ab, h.ba⟩
theorem Dr.nil {TD TP TV : TypeId} {v : Drv} (h : Dr TD TP TV W0 w S F bv bd bt n v l) : Dr TD TP TV W0 w S F bv bd bt n v [] :=
  ⟨⟨h.lay.below, by simp, by simp, by simp⟩, h.p, h.fl, h.vl, h.tl, h.sl, h.sf, h.s0, h.ok, h.tr, by simp⟩
theorem Dd.drop (h : Dd W0 w S F bv bd bt n T G cv cd ct m v1 v2 l) : Dd W0 w S F bv bd bt n T G cv cd ct m v1 v2 [] := ⟨h.a.nil, h.b.nil, h.ab, h.ba⟩
theorem Dd.below (h : Dd W0 w S F bv bd bt n T G cv cd ct m v1 v2 l) : Below W0.heap.size W0 w := h.a.lay.below
/-- The program's driver has done something. -/
theorem Dd.prog (h : Dd W0 w S F bv bd bt n T G cv cd ct m v1 v2 l) (hp : DrvAt TDp TPp TVp S' F' w' bv bd bt n' v1') (hc : Chg (fun k => F k ∨ k = bt) w w') (hF : ∀ k, F' k → Grow F w w' k) (hSS : ∀ k, S k → S' k) (hS : ∀ k, S' k → Grow S w w' k) (hSF : ∀ k, S' k → ¬ F' k)
    (hok : DvOk v1'.d) (htr : ∀ j, 0 ≤ v1'.tries j ∧ v1'.tries j ≤ 2) : Dd W0 w' S' F' bv bd bt n' T G cv cd ct m v1' v2 l := by
  refine ⟨h.a.did hp hc hF hSS hS hSF hok htr, h.b.apart hc (fun k hk => ?_) (fun x hx hk => hk.elim (h.a.nf x hx).1 (h.a.nf x hx).2.2.2), fun k hk => ?_, fun k hk hs => ?_⟩
  · have h1 := h.ab k (hk.elim .inl (fun e => .inr (.inl e)))
    exact ⟨hk.elim (fun hf => (h.a.fl k hf).1) (fun e => e ▸ h.a.tl), h1.1, h1.2.2.2, h1.2.2.1, h1.2.1⟩
  · rcases hk with hk | hk
    · rcases hF k hk with hk | hk
      · exact h.ab k (.inl hk)
      · have h1 := h.b.p.vlt
        have h2 := h.b.p.tlt
        exact ⟨fun hg => by have := (h.b.fl k hg).2; omega, by omega, by omega, fun ht => by have := h.b.sl k ht; omega⟩
    · exact h.ab k (.inr hk)
  · rcases hS k hs with hs | hs
    · exact h.ba k hk hs
    · have h1 := h.b.p.vlt
      have h2 := h.b.p.tlt
      rcases hk with hk | rfl | rfl
      · have := (h.b.fl k hk).2; omega
      · omega
      · omega
/-- The reference's driver has done something. -/
theorem Dd.ref (h : Dd W0 w S F bv bd bt n T G cv cd ct m v1 v2 l) (hp : DrvAt TDr TPr TVr T' G' w' cv cd ct m' v2') (hc : Chg (fun k => G k ∨ k = ct) w w') (hF : ∀ k, G' k → Grow G w w' k) (hSS : ∀ k, T k → T' k) (hS : ∀ k, T' k → Grow T w w' k) (hSF : ∀ k, T' k → ¬ G' k)
    (hok : DvOk v2'.d) (htr : ∀ j, 0 ≤ v2'.tries j ∧ v2'.tries j ≤ 2) : Dd W0 w' S F bv bd bt n T' G' cv cd ct m' v1 v2' l := by
  refine ⟨h.a.apart hc (fun k hk => ?_) (fun x hx hk => hk.elim (h.b.nf x hx).1 (h.b.nf x hx).2.2.2), h.b.did hp hc hF hSS hS hSF hok htr, fun k hk => ?_, fun k hk hs => ?_⟩
  · have h0 : ¬ F k ∧ k ≠ bv ∧ k ≠ bt := by
      rcases hk with hk | rfl
      · exact ⟨fun hf => (h.ab k (.inl hf)).1 hk, fun e => (h.ab k (.inr (.inr e))).1 hk, fun e => (h.ab k (.inr (.inl e))).1 hk⟩
      · exact ⟨fun hf => (h.ab _ (.inl hf)).2.1 rfl, fun e => (h.ab _ (.inr (.inr e))).2.1 rfl, fun e => (h.ab _ (.inr (.inl e))).2.1 rfl⟩
    exact ⟨hk.elim (fun hf => (h.b.fl k hf).1) (fun e => e ▸ h.b.tl), h0.1, h.ba k (hk.elim .inl (fun e => .inr (.inl e))), h0.2⟩
  · have h0 := h.ab k hk
    have hlt : k < w.heap.size := by
      rcases hk with hk | rfl | rfl
      · exact (h.a.fl k hk).2
      · exact h.a.p.tlt
      · exact h.a.p.vlt
    exact ⟨fun hg => (hF k hg).elim h0.1 (fun h => by omega), h0.2.1, h0.2.2.1, fun ht => (hS k ht).elim h0.2.2.2 (fun h => by omega)⟩
  · rcases hk with hk | hk
    · rcases hF k hk with hk | hk
      · exact h.ba k (.inl hk) hs
      · have := h.a.sl k hs; omega
    · exact h.ba k (.inr hk) hs
/-- The program's driver has started one. -/
theorem Dd.prog1 (h : Dd W0 w S F bv bd bt n T G cv cd ct m v1 v2 l) (hp : DrvAt TDp TPp TVp S (Grow F w w') w' bv bd bt n v1') (hc : Chg F w w') (hok : DvOk v1'.d) (htr : v1'.tries = v1.tries) : Dd W0 w' S (Grow F w w') bv bd bt n T G cv cd ct m v1' v2 l :=
  h.prog hp (hc.mono (fun k hk => .inl hk)) (fun k hk => hk) (fun k hk => hk) (fun k hk => .inl hk) (fun k hk hf => hf.elim (h.a.sf k hk) (fun hh => by have := h.a.sl k hk; omega)) hok (by rw [htr]; exact h.a.tr)
/-- The reference's disk has started one. -/
theorem Dd.ref1 {d' : Dv} (h : Dd W0 w S F bv bd bt n T G cv cd ct m v1 v2 l) (hd : DevAt TDr TPr T (Grow G w w') w' cd d') (hc : Chg G w w') (hok : DvOk d') : Dd W0 w' S F bv bd bt n T (Grow G w w') cv cd ct m v1 { v2 with d := d' } l :=
  h.ref (h.b.p.dev2 h.b.flt hd hc) (hc.mono (fun k hk => .inl hk)) (fun k hk => hk) (fun k hk => hk) (fun k hk => .inl hk) (fun k hk hf => hf.elim (h.b.sf k hk) (fun hh => by have := h.b.sl k hk; omega)) hok h.b.tr
end
theorem zcellsV : Try.zeroCells32 = (devCells Dv.new (.slice none 0 0) (.slice none 0 0)).toArray := by rfl
def drvNew : Drv := ⟨Dv.new, fun _ => 0⟩
theorem Dd.begin {W0 w4 : World} {S F : Nat → Prop} {bv bd bt cd : Nat} (h : Dr TDp TPp TVp W0 w4 S F bv bd bt 0 drvNew []) (hS : ∀ k, S k → k < W0.heap.size) (hcd : w4.heap.size = cd) :
    ∃ T G, Dd W0 (((w4.alloc (.cells Try.zeroCells32 TDr)).alloc (.map #[] 0)).alloc (.cells #[.pointer (some ⟨cd, 0, none⟩), .map (some (cd + 1))] TVr)) S F bv bd bt 0 T G (cd + 2) cd (cd + 1) 0 drvNew drvNew [] := by
  have hb5 : Below w4.heap.size w4 (w4.alloc (.cells Try.zeroCells32 TDr)) := (Below.refl _ _).alloc (Nat.le_refl _) _
  have hz5 : (w4.alloc (.cells Try.zeroCells32 TDr)).heap.size = w4.heap.size + 1 := by simp
  have hr5 : (w4.alloc (.cells Try.zeroCells32 TDr)).heap[w4.heap.size]? = _ := heap_alloc_new _ _
  generalize w4.alloc (.cells Try.zeroCells32 TDr) = w5 at hb5 hz5 hr5 ⊢
  have hb6 : Below w5.heap.size w5 (w5.alloc (.map #[] 0)) := (Below.refl _ _).alloc (Nat.le_refl _) _
  have hz6 : (w5.alloc (.map #[] 0)).heap.size = w5.heap.size + 1 := by simp
  have hm6 := MapAt.made w5
  generalize w5.alloc (.map #[] 0) = w6 at hb6 hz6 hm6 ⊢
  have hb7 : Below w6.heap.size w6 (w6.alloc (.cells #[.pointer (some ⟨cd, 0, none⟩), .map (some (cd + 1))] TVr)) := (Below.refl _ _).alloc (Nat.le_refl _) _
  have hz7 : (w6.alloc (.cells #[.pointer (some ⟨cd, 0, none⟩), .map (some (cd + 1))] TVr)).heap.size = w6.heap.size + 1 := by simp
  have hr7 : (w6.alloc (.cells #[.pointer (some ⟨cd, 0, none⟩), .map (some (cd + 1))] TVr)).heap[w6.heap.size]? = _ := heap_alloc_new _ _
  generalize w6.alloc (.cells #[.pointer (some ⟨cd, 0, none⟩), .map (some (cd + 1))] TVr) = w7 at hb7 hz7 hr7 ⊢
  have hba := hb5.trans ((hb6.trans (hb7.mono (by omega))).mono (by omega))
  have hs0 := h.lay.size
  have e1 : w5.heap.size = cd + 1 := by omega
  have e2 : w6.heap.size = cd + 2 := by omega
  rw [hcd] at hr5
  rw [e1] at hm6
  rw [e2] at hr7
  have hd5 : DevAt TDr TPr (fun k => k < W0.heap.size) (fun k => k = cd) w5 cd Dv.new := dev_new _ _ _ _ (by rw [← zcellsV]; exact hr5) rfl
  have hv := h.p.vlt
  have ht := h.p.tlt
  refine ⟨fun k => k < W0.heap.size, fun k => k = cd, h.step hba, ⟨h.lay.step hba, ⟨hr7, ⟨_, hm6.keep (hb7.block _ (by omega)), fun k hk => rfl⟩, (hd5.below hb6).below hb7, by omega, by omega, fun k hk => by omega⟩, fun k hk => by omega, by omega, by omega, fun k hk => by omega, fun k hk => by omega, fun k hk => hk, DvOk.new, fun j => by simp [drvNew], by simp⟩, fun k hk => ?_, fun k hk hs => ?_⟩
  · have h1 : W0.heap.size ≤ k ∧ k < w4.heap.size := by
      rcases hk with hk | rfl | rfl
      · exact h.fl k hk
      · exact ⟨h.tl, ht⟩
      · exact ⟨h.vl, hv⟩
    refine ⟨?_, ?_, ?_, ?_⟩ <;> omega
  · have := hS k hs
    rcases hk with hk | hk | hk <;> omega
end Go.Proofs.Ytdhiepcglnbkbaa
