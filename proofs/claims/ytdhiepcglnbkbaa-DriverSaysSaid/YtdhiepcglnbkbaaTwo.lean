
/- Two disks at once, the program's and the reference's, and a call's own blocks. -/
import Derived.Test.YtdhiepcglnbkbaaLawDev
import Derived.Test.YtdhiepcglnbkbaaDevPure
namespace Go.Proofs.Ytdhiepcglnbkbaa
set_option linter.unusedSimpArgs false
set_option linter.unusedVariables false
open Go.RowKit

/-- Since W0 nothing that was there was written; d1 lies at bd, d2 at bm; what each may write is its own; the blocks of the list are the call's own. -/
structure Two (W0 w : World) (bd bm : Nat) (F G : Nat → Prop) (d1 d2 : Dv) (l : List (Nat × TypeId × Array Value)) : Prop where
  lay : Lay W0 w l
  p : DevAt TDp TPp (fun k => k < W0.heap.size) F w bd d1
  r : DevAt TDr TPr (fun k => k < W0.heap.size) G w bm d2
  fl : ∀ k, F k → W0.heap.size ≤ k ∧ k < w.heap.size
  gl : ∀ k, G k → W0.heap.size ≤ k ∧ k < w.heap.size
  fg : ∀ k, F k → ¬ G k
  ok1 : DvOk d1
  ok2 : DvOk d2
  nf : ∀ x ∈ l, ¬ F x.1 ∧ ¬ G x.1
section
variable {W0 w w' : World} {bd bm : Nat} {F F' G G' : Nat → Prop} {d1 d1' d2 d2' : Dv} {l : List (Nat × TypeId × Array Value)}
theorem Two.step (h : Two W0 w bd bm F G d1 d2 l) (hb : Below w.heap.size w w') : Two W0 w' bd bm F G d1 d2 l :=
  ⟨h.lay.step hb, h.p.below hb, h.r.below hb, fun k hk => ⟨(h.fl k hk).1, Nat.lt_of_lt_of_le (h.fl k hk).2 hb.size⟩, fun k hk => ⟨(h.gl k hk).1, Nat.lt_of_lt_of_le (h.gl k hk).2 hb.size⟩, h.fg, h.ok1, h.ok2, h.nf⟩
theorem Two.alloc (h : Two W0 w bd bm F G d1 d2 l) (n : Nat) (cs : Array Value) (T : TypeId) (hn : w.heap.size = n) : Two W0 (w.alloc (.cells cs T)) bd bm F G d1 d2 ((n, T, cs) :: l) := by
  have h1 := h.step ((Below.refl w.heap.size w).alloc (Nat.le_refl _) (.cells cs T))
  refine ⟨h.lay.alloc' n cs T hn, h1.p, h1.r, h1.fl, h1.gl, h1.fg, h1.ok1, h1.ok2, fun x hx => ?_⟩
  rcases List.mem_cons.1 hx with rfl | hx
  · exact ⟨fun hf => by have := (h.fl _ hf).2; simp only at this; omega, fun hf => by have := (h.gl _ hf).2; simp only at this; omega⟩
  · exact h.nf x hx
theorem Two.tail {x : Nat × TypeId × Array Value} (h : Two W0 w bd bm F G d1 d2 (x :: l)) : Two W0 w bd bm F G d1 d2 l :=
  ⟨⟨h.lay.below, fun y hy => h.lay.row y (List.mem_cons_of_mem _ hy), fun y hy => h.lay.own y (List.mem_cons_of_mem _ hy), by have := h.lay.nd; rw [List.map_cons, List.nodup_cons] at this; exact this.2⟩, h.p, h.r, h.fl, h.gl, h.fg, h.ok1, h.ok2, fun y hy => h.nf y (List.mem_cons_of_mem _ hy)⟩
theorem Two.drop (h : Two W0 w bd bm F G d1 d2 l) : Two W0 w bd bm F G d1 d2 [] :=
  ⟨⟨h.lay.below, by simp, by simp, by simp⟩, h.p, h.r, h.fl, h.gl, h.fg, h.ok1, h.ok2, by simp⟩
/-- The program's disk has done something. -/
theorem Two.prog (h : Two W0 w bd bm F G d1 d2 l) (hd : DevAt TDp TPp (fun k => k < W0.heap.size) F' w' bd d1') (hc : Chg F w w') (hF : ∀ k, F' k → Grow F w w' k) (hok : DvOk d1') : Two W0 w' bd bm F' G d1' d2 l := by
  have hs := h.lay.size
  refine ⟨h.lay.chg hc (fun k hk => (h.fl k hk).1) (fun x hx => (h.nf x hx).1), hd, h.r.apart hc (fun k hk hf => h.fg k hf hk) (fun k hk hf => by have := (h.fl k hf).1; omega), fun k hk => ?_, fun k hk => ⟨(h.gl k hk).1, Nat.lt_of_lt_of_le (h.gl k hk).2 hc.size⟩, fun k hk hg => ?_, hok, h.ok2, fun x hx => ⟨fun hf => ?_, (h.nf x hx).2⟩⟩
  · rcases hF k hk with hk | hk
    · exact ⟨(h.fl k hk).1, Nat.lt_of_lt_of_le (h.fl k hk).2 hc.size⟩
    · exact ⟨by omega, hk.2⟩
  · rcases hF k hk with hk | hk
    · exact h.fg k hk hg
    · have := (h.gl k hg).2; omega
  · rcases hF _ hf with hk | hk
    · exact (h.nf x hx).1 hk
    · have := h.lay.lt hx; omega
/-- The reference's disk has done something. -/
theorem Two.ref (h : Two W0 w bd bm F G d1 d2 l) (hd : DevAt TDr TPr (fun k => k < W0.heap.size) G' w' bm d2') (hc : Chg G w w') (hG : ∀ k, G' k → Grow G w w' k) (hok : DvOk d2') : Two W0 w' bd bm F G' d1 d2' l := by
  have hs := h.lay.size
  refine ⟨h.lay.chg hc (fun k hk => (h.gl k hk).1) (fun x hx => (h.nf x hx).2), h.p.apart hc (fun k hk hf => h.fg k hk hf) (fun k hk hf => by have := (h.gl k hf).1; omega), hd, fun k hk => ⟨(h.fl k hk).1, Nat.lt_of_lt_of_le (h.fl k hk).2 hc.size⟩, fun k hk => ?_, fun k hk hg => ?_, h.ok1, hok, fun x hx => ⟨(h.nf x hx).1, fun hf => ?_⟩⟩
  · rcases hG k hk with hk | hk
    · exact ⟨(h.gl k hk).1, Nat.lt_of_lt_of_le (h.gl k hk).2 hc.size⟩
    · exact ⟨by omega, hk.2⟩
  · rcases hG k hg with hg | hg
    · exact h.fg k hk hg
    · have := (h.fl k hk).2; omega
  · rcases hG _ hf with hk | hk
    · exact (h.nf x hx).2 hk
    · have := h.lay.lt hx; omega
theorem Two.below (h : Two W0 w bd bm F G d1 d2 l) : Below W0.heap.size W0 w := h.lay.below
theorem Two.sf (h : Two W0 w bd bm F G d1 d2 l) : ∀ k, k < W0.heap.size → ¬ F k := fun k hk hf => by have := (h.fl k hf).1; omega
theorem Two.sg (h : Two W0 w bd bm F G d1 d2 l) : ∀ k, k < W0.heap.size → ¬ G k := fun k hk hf => by have := (h.gl k hf).1; omega
theorem Two.flt (h : Two W0 w bd bm F G d1 d2 l) : ∀ k, F k → k < w.heap.size := fun k hk => (h.fl k hk).2
theorem Two.glt (h : Two W0 w bd bm F G d1 d2 l) : ∀ k, G k → k < w.heap.size := fun k hk => (h.gl k hk).2
theorem Two.slt (h : Two W0 w bd bm F G d1 d2 l) : ∀ k, k < W0.heap.size → k < w.heap.size := fun k hk => Nat.lt_of_lt_of_le hk h.lay.size
end
theorem DevAt.reqs {TD TP : TypeId} {S F : Nat → Prop} {w : World} {b : Nat} {d : Dv} (h : DevAt TD TP S F w b d) : ∃ lv, w.cell? ⟨b, 65, none⟩ = some lv ∧ ReqsAt (fun _ => True) w lv d.l := by
  obtain ⟨wv, lv, cs, hrow, hw, hl, hcs, hok⟩ := h.two
  refine ⟨lv, ?_, cs, hcs, hl.rd.more (fun _ _ => trivial), fun c hc => (hok c hc).more (fun _ _ => trivial)⟩
  rw [cell_of_row _ _ _ _ _ _ hrow]
  simpa using devCells_at_l d wv lv h.kept h.now
theorem Lay.c9 {w wr : World} {l : List (Nat × TypeId × Array Value)} (h : Lay w wr l) (i : Nat) {b : Nat} {T : TypeId} {c0 c1 c2 c3 c4 c5 c6 c7 c8 : Value} (hi : l[i]? = some (b, T, #[c0, c1, c2, c3, c4, c5, c6, c7, c8])) :
    wr.cell? ⟨b, 0, none⟩ = some c0 ∧ wr.cell? ⟨b, 1, none⟩ = some c1 ∧ wr.cell? ⟨b, 2, none⟩ = some c2 ∧ wr.cell? ⟨b, 3, none⟩ = some c3 ∧ wr.cell? ⟨b, 4, none⟩ = some c4 ∧ wr.cell? ⟨b, 5, none⟩ = some c5 ∧ wr.cell? ⟨b, 6, none⟩ = some c6 ∧ wr.cell? ⟨b, 7, none⟩ = some c7 ∧ wr.cell? ⟨b, 8, none⟩ = some c8 :=
  ⟨h.cell i hi 0, h.cell i hi 1, h.cell i hi 2, h.cell i hi 3, h.cell i hi 4, h.cell i hi 5, h.cell i hi 6, h.cell i hi 7, h.cell i hi 8⟩

theorem endAt_split (d : Dv) (i : Int) : (i < 0 ∨ (d.l.length : Int) ≤ i) ∨ ∃ (k : Nat) (r : Rq), i = (k : Int) ∧ d.l[k]? = some r := by
  by_cases h : i < 0 ∨ (d.l.length : Int) ≤ i
  · exact .inl h
  · obtain ⟨k, rfl⟩ : ∃ k : Nat, i = (k : Int) := ⟨i.toNat, by omega⟩
    exact .inr ⟨k, d.l[k]'(by omega), rfl, List.getElem?_eq_getElem (by omega)⟩
theorem devend_any (S F : Nat → Prop) (w : World) (b : Nat) (d : Dv) (i : Int) (f : Bool) (h : DevAt TDp TPp S F w b d) (hok : DvOk d) (hwl : d.waits.length ≤ 1000000000000) (hF : ∀ k, F k → k < w.heap.size) (hSF : ∀ k, S k → ¬ F k) (hSlt : ∀ k, S k → k < w.heap.size) :
    Calls Try.prog 20 #[.pointer (some ⟨b, 0, none⟩), .int .i64 i, .bool f] w (RetEnd TDp TPp S F w b (d.endAt i f).1 (d.endAt i f).2.1 (errV (d.endAt i f).2.2)) := by
  rcases endAt_split d i with hn | ⟨k, r, rfl, hk⟩
  · exact devend_none S F w b d i f h hn hSF hSlt
  · have := devend_some S F w b d k r f h hk (reqF_zero (hok.l r (List.mem_of_getElem? hk))) hok.two hwl hok.nowM hF hSF hSlt
    rw [endAt_some d k f r hk]
    exact this
theorem rdevend_any (S F : Nat → Prop) (w : World) (b : Nat) (d : Dv) (i : Int) (f : Bool) (h : DevAt TDr TPr S F w b d) (hok : DvOk d) (hwl : d.waits.length ≤ 1000000000000) (hF : ∀ k, F k → k < w.heap.size) (hSF : ∀ k, S k → ¬ F k) (hSlt : ∀ k, S k → k < w.heap.size) :
    Calls Try.prog 21 #[.pointer (some ⟨b, 0, none⟩), .int .i64 i, .bool f] w (RetEnd TDr TPr S F w b (d.endAt i f).1 (d.endAt i f).2.1 (.int .i64 ((d.endAt i f).2.2 : Int))) := by
  rcases endAt_split d i with hn | ⟨k, r, rfl, hk⟩
  · exact rdevend_none S F w b d i f h hn hSF hSlt
  · have := rdevend_some S F w b d k r f h hk (reqF_zero (hok.l r (List.mem_of_getElem? hk))) hok.two hwl hok.nowM hF hSF hSlt
    rw [endAt_some d k f r hk]
    exact this
end Go.Proofs.Ytdhiepcglnbkbaa
