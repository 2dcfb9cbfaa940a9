
/- One disk of the program, and a call's own blocks; what is written at once. -/
import Derived.Test.YtdhiepcglnbkbaaTwoP
import Derived.Test.YtdhiepcglnbkbaaCheck2
namespace Go.Proofs.Ytdhiepcglnbkbaa
set_option linter.unusedSimpArgs false
set_option linter.unusedVariables false
open Go.RowKit

/-- Since W0 nothing that was there was written; the disk d lies at bd, and what it may write is its own; the blocks of the list are the call's own. -/
structure One (W0 w : World) (bd : Nat) (F : Nat → Prop) (d : Dv) (l : List (Nat × TypeId × Array Value)) : Prop where
  lay : Lay W0 w l
  p : DevAt TDp TPp (fun k => k < W0.heap.size) F w bd d
  fl : ∀ k, F k → W0.heap.size ≤ k ∧ k < w.heap.size
  ok : DvOk d
  nf : ∀ x ∈ l, ¬ F x.1
section
variable {W0 w w' : World} {bd : Nat} {F F' : Nat → Prop} {d d' : Dv} {l : List (Nat × TypeId × Array Value)}
theorem One.step (h : One W0 w bd F d l) (hb : Below w.heap.size w w') : One W0 w' bd F d l :=
  ⟨h.lay.step hb, h.p.below hb, fun k hk => ⟨(h.fl k hk).1, Nat.lt_of_lt_of_le (h.fl k hk).2 hb.size⟩, h.ok, h.nf⟩
theorem One.alloc (h : One W0 w bd F d l) (n : Nat) (cs : Array Value) (T : TypeId) (hn : w.heap.size = n) : One W0 (w.alloc (.cells cs T)) bd F d ((n, T, cs) :: l) := by
  have h1 := h.step ((Below.refl w.heap.size w).alloc (Nat.le_refl _) (.cells cs T))
  refine ⟨h.lay.alloc' n cs T hn, h1.p, h1.fl, h1.ok, fun x hx => ?_⟩
  rcases List.mem_cons.1 hx with rfl | hx
  · exact fun hf => by have := (h.fl _ hf).2; simp only at this; omega
  · exact h.nf x hx
theorem One.prog (h : One W0 w bd F d l) (hd : DevAt TDp TPp (fun k => k < W0.heap.size) F' w' bd d') (hc : Chg F w w') (hF : ∀ k, F' k → Grow F w w' k) (hok : DvOk d') : One W0 w' bd F' d' l := by
  have hs := h.lay.size
  refine ⟨h.lay.chg hc (fun k hk => (h.fl k hk).1) h.nf, hd, fun k hk => ?_, hok, fun x hx hf => ?_⟩
  · rcases hF k hk with hk | hk
    · exact ⟨(h.fl k hk).1, Nat.lt_of_lt_of_le (h.fl k hk).2 hc.size⟩
    · exact ⟨by omega, hk.2⟩
  · rcases hF _ hf with hk | hk
    · exact h.nf x hx hk
    · have := h.lay.lt hx; omega
theorem One.sf (h : One W0 w bd F d l) : ∀ k, k < W0.heap.size → ¬ F k := fun k hk hf => by have := (h.fl k hf).1; omega
theorem One.flt (h : One W0 w bd F d l) : ∀ k, F k → k < w.heap.size := fun k hk => (h.fl k hk).2
theorem One.slt (h : One W0 w bd F d l) : ∀ k, k < W0.heap.size → k < w.heap.size := fun k hk => Nat.lt_of_lt_of_le hk h.lay.size
/-- A new disk. -/
theorem One.begin {w5 w6 : World} (L : Lay W0 w5 l) (hd6 : DevAt TDp TPp (fun k => k < W0.heap.size) (fun k => k = w5.heap.size) w6 w5.heap.size Dv.new) (hb6 : Below w5.heap.size w5 w6) (hs6 : w6.heap.size = w5.heap.size + 1) :
    One W0 w6 w5.heap.size (fun k => k = w5.heap.size) Dv.new l := by
  have hz5 := L.size
  refine ⟨L.step hb6, hd6, fun k hk => by omega, DvOk.new, fun x hx h => ?_⟩
  have hx2 := L.lt hx
  omega
end
theorem end_l' (d : Dv) (r : Rq) (i : Nat) (f : Bool) : (d.ended r i f).1.l = d.l.eraseIdx i := by
  unfold Dv.ended
  split
  · rfl
  · split
    · exact (Dv.wrote_same _ _ _).2.1
    · rfl
/-- A request is done at once. -/
def writtenM (d : Dv) (r : Rq) : Dv × Bool := if reqF r = 0 then (((d.start r).1.ended r 0 false).1, true) else (d, false)
theorem writtenM_ok {d : Dv} (h : DvOk d) (hl : d.l = []) (r : Rq) : DvOk (writtenM d r).1 ∧ (writtenM d r).1.l = [] ∧ (writtenM d r).1.waits.length ≤ d.waits.length + 4 := by
  unfold writtenM
  split
  · rename_i hr
    obtain ⟨h1, h2⟩ := (h.start hr).ended (reqF_zero hr) 0 false
    refine ⟨h1, ?_, by rwa [start_waits] at h2⟩
    show ((d.start r).1.ended r 0 false).1.l = []
    rw [end_l']
    unfold Dv.start
    rw [if_neg (by rw [hl]; simp)]
    simp [hl]
  · exact ⟨h, hl, by simp⟩
/-- It returns v; the disk has become d', and what it may write F'. -/
def RetDev2 (S F : Nat → Prop) (w : World) (b : Nat) (d' : Dv) (v : Value) : Ending → World → Prop :=
  fun e w' => ∃ F' : Nat → Prop, e = .returned v ∧ DevAt TDp TPp S F' w' b d' ∧ Chg F w w' ∧ ∀ k, F' k → Grow F w w' k
set_option maxRecDepth 100000 in
set_option maxHeartbeats 1000000 in
theorem written_any (S F : Nat → Prop) (w : World) (b : Nat) (d : Dv) (a : Ac) (h : DevAt TDp TPp S F w b d) (hok : DvOk d) (hl : d.l = []) (hwl : d.waits.length ≤ 100000) (ha : AcOk S w a) (hF : ∀ k, F k → k < w.heap.size) (hSF : ∀ k, S k → ¬ F k) (hSlt : ∀ k, S k → k < w.heap.size) :
    Calls Try.prog 57 #[.pointer (some ⟨b, 0, none⟩), .agg a.cells.toArray] w (RetDev2 S F w b (writtenM d a.c.r).1 (.bool (writtenM d a.c.r).2)) := by
  obtain ⟨Ad, cd, e1, _, _⟩ := ha.rc.data.form
  obtain ⟨At, ct, e2, _, _⟩ := ha.rc.tags.form
  have Hrc := Lib.hid ha.rc.req
  rw [e1, e2] at Hrc
  have H := Lib.hid h
  have Hok := Lib.hid hok
  have Hl := Lib.hid hl
  have HF := Lib.hid hF
  have HS := Lib.hid hSF
  have Hlt := Lib.hid hSlt
  have ecells : a.cells.toArray = #[Value.string a.kind, Value.bool a.c.r.write, Value.int IntKind.i64 a.c.r.lo, Value.int IntKind.i64 a.c.r.many, Value.slice Ad a.c.r.data.length cd, Value.slice At a.c.r.tags.length ct, Value.int IntKind.i64 a.c.r.born, Value.int IntKind.i64 a.n, Value.int IntKind.u64 (a.k : Int)] := by
    simp [Ac.cells, Rc.cells, e1, e2]
  rw [ecells]
  clear h hok hl ha hF hSF hSlt e1 e2 ecells
  obtain ⟨kind, ⟨r, dv, tv⟩, n, kk⟩ := a
  simp only at *
  go_enter Try.func57, Try.ntmps57
  go_wp2_with fail
  have L := (Lay.refl w).alloc' w.heap.size #[Value.string kind, Value.bool r.write, Value.int IntKind.i64 r.lo, Value.int IntKind.i64 r.many, Value.slice Ad r.data.length cd, Value.slice At r.tags.length ct, Value.int IntKind.i64 r.born, Value.int IntKind.i64 n, Value.int IntKind.u64 (kk : Int)] 41 rfl
  generalize World.alloc _ _ = W at L ⊢
  refine (reqcheck_any S r _ _ (Hrc.out.below L.below)).mono ?_
  rintro e w1 ⟨rfl, hb1⟩
  have L1 := L.step hb1
  clear L hb1
  by_cases hf : reqF r = 0
  rotate_left
  · have g1 : (reqF r == 0) = false := by simpa using hf
    go_wp2_with fail
    go_ret
    have he : writtenM d r = (d, false) := if_neg hf
    rw [he]
    exact ⟨F, rfl, H.out.below L1.below, Chg.of_below L1.below, fun k hk => .inl hk⟩
  rw [hf]
  have Hf := Lib.hid hf
  clear hf
  obtain ⟨c0, c1, c2, c3, c4, c5, c6, c7, c8⟩ := L1.c9 0 rfl
  go_wp2_with fail
  refine (devstart_any S F w1 b d r _ (H.out.below L1.below) (Hrc.out.below L1.below) (fun k hk => Nat.lt_of_lt_of_le (HF.out k hk) L1.size) HS.out (by rw [Hl.out]; simp)).mono ?_
  have hst : d.start r = ({ d with l := [r] }, 0) := by unfold Dv.start; rw [if_neg (by rw [Hl.out]; simp), Hl.out]; rfl
  have Hst := Lib.hid hst
  have Hok1 := Lib.hid (Hok.out.start Hf.out)
  rw [hst] at Hok1 ⊢
  rintro e w2 ⟨rfl, hd2, hc2⟩
  simp only at hd2 ⊢
  have hF2 : ∀ k, Grow F w1 w2 k → k < w2.heap.size := Grow.lt (fun k hk => Nat.lt_of_lt_of_le (HF.out k hk) L1.size) hc2.size
  have hS2 : ∀ k, S k → ¬ Grow F w1 w2 k := fun k hk hg => hg.elim (HS.out k hk) (fun h => by have := Hlt.out k hk; have := L1.size; omega)
  have Hd2 := Lib.hid hd2
  have HF2 := Lib.hid hF2
  have HS2 := Lib.hid hS2
  have Hc2 := Lib.hid ((Chg.of_below (F := F) L1.below).trans (hc2.mono (fun k hk => .inl hk)))
  have Hz := Lib.hid L1.size
  clear hd2 hF2 hS2 hst c0 c1 c2 c3 c4 c5 c6 c7 c8 L1
  go_wp2_with fail
  refine (devbusy_any S _ w2 b _ Hd2.out (by simp)).mono ?_
  rintro e w3 ⟨v3, rfl, hv3, hb3⟩
  obtain ⟨A3, c3, rfl, _, _⟩ := hv3.form
  have Hb3 := Lib.hid hb3
  clear hv3 hb3
  simp only [List.length_cons, List.length_nil, Nat.zero_add]
  go_wp2_with fail
  refine (devend_some S _ w3 b _ 0 r false (Hd2.out.below Hb3.out) rfl (reqF_zero Hf.out) (by simp) (by simp only; omega) Hok1.out.nowM (fun k hk => Nat.lt_of_lt_of_le (HF2.out k hk) Hb3.out.size) HS2.out (fun k hk => by have h1 := Hlt.out k hk; have h2 := Hz.out; have h3 := hc2.size; have h4 := Hb3.out.size; omega)).mono ?_
  rintro e w4 ⟨v4, F4, S4, rfl, hrs, hd4, hc4, _, hF4, _, _, _⟩
  obtain ⟨Bd, bd4, Bt, bt4, Bo, bo4, rfl⟩ := hrs.opened
  have Hd4 := Lib.hid hd4
  have hz2 := hc2.size
  have Hz2 := Lib.hid hz2
  have hG4 : ∀ k, F4 k → Grow F w w4 k := fun k hk => by
    have h1 := Hz.out
    have h3 := Hb3.out.size
    have h4 := hc4.size
    rcases hF4 k hk with hk | hk
    · rcases hk with hk | hk
      · exact .inl hk
      · exact .inr ⟨by omega, by omega⟩
    · exact .inr ⟨by omega, by omega⟩
  have hC4 : Chg F w w4 := by
    have h5 : Chg F w w3 := Hc2.out.step Hb3.out
    refine h5.trans (hc4.mono (fun k hk => ?_))
    have h1 := Hz.out
    have h3 := Hb3.out.size
    exact hk.elim .inl (fun h => .inr ⟨by omega, by omega⟩)
  have HG4 := Lib.hid hG4
  have HC4 := Lib.hid hC4
  clear hrs hd4 hc4 hF4 hG4 hC4 hz2 hc2
  go_wp2_with fail
  generalize hW : World.alloc _ _ = W5
  have hb5 : Below w4.heap.size w4 W5 := hW ▸ (Below.refl _ _).alloc (Nat.le_refl _) _
  go_ret
  have he : writtenM d r = (((d.start r).1.ended r 0 false).1, true) := if_pos Hf.out
  rw [he, Hst.out]
  exact ⟨F4, rfl, Hd4.out.below hb5, HC4.out.step hb5, fun k hk => (HG4.out k hk).elim .inl (fun h => .inr ⟨h.1, Nat.lt_of_lt_of_le h.2 hb5.size⟩)⟩
end Go.Proofs.Ytdhiepcglnbkbaa
