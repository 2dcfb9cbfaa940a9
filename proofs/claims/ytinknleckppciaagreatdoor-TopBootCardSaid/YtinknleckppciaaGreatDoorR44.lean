/- How a player lies in memory, beside others: its own block has the colour 9; what others write has the colour 9 too. player.texts, player.got, player.New. -/
import Derived.Test.YtinknleckppciaaGreatDoorR43
import Derived.Test.YtinknleckppciaaGreatDoorR4
import Derived.Test.YtinknleckppciaaGreatDoorR23
import Derived.Test.YtinknleckppciaaGreatDoorR16
import Derived.Test.YtinknleckppciaaGreatDoorR27
namespace Go.Proofs.YtinknleckppciaaGreatDoor
set_option linter.unusedSimpArgs false
set_option linter.unusedVariables false
open Go.RowKit Go.Sort

section
variable {T : Tys} {col col' : Nat → Nat} {w w' : World} {b bd N : Nat} {x : Sv} {s : St}
theorem rise_in (c : Nat) (hc : c ≠ 0 ∧ c ≠ 9) {P : Nat → Prop} [DecidablePred P] (hP : ∀ k, P k → ¬ Fl col k) : ∀ k, (if P k then 9 else col k) = c ↔ col k = c := fun k => by
  split
  · rename_i h
    have h1 := hP k h
    constructor
    · intro e; exact absurd e.symm hc.2
    · intro e; exact absurd (show Fl col k from ⟨by rw [e]; exact hc.1, by rw [e]; exact hc.2⟩) h1
  · exact Iff.rfl
/-- Others wrote: blocks of the colour 9 alone; new ones may have the colour 9 now. -/
theorem StAt.far9 (h : StAt T col w b bd N x s) {F : Nat → Prop} (hc : Chg F w w') (h9 : ∀ k, F k → col k = 9) (P : Nat → Prop) [DecidablePred P] (hP : ∀ k, P k → w.heap.size ≤ k ∧ k < w'.heap.size) :
    StAt T (fun k => if P k then 9 else col k) w' b bd N x s := by
  have hP0 : ∀ k, P k → ¬ Fl col k := fun k hk hf => hf.1 (h.s0 k (hP k hk).1)
  have hk : ∀ k, col k ≠ 9 → k < w.heap.size → w'.heap[k]? = w.heap[k]? := fun k hk hl => hc.block k hl (fun e => hk (h9 k e))
  have hi : ∀ c, c ≠ 0 → c ≠ 9 → ∀ k, (if P k then 9 else col k) = c ↔ col k = c := fun c h0 h1 => rise_in c ⟨h0, h1⟩ hP0
  have hF : Fd (fun k => if P k then 9 else col k) = Fd col := funext fun k => propext (hi 4 (by decide) (by decide) k)
  have hA : ∀ c, c < 3 → Fa (fun k => if P k then 9 else col k) c = Fa col c := fun c hc => funext fun k => propext (hi (5 + c) (by omega) (by omega) k)
  have him : ∀ k, Im w col k → Im w' (fun k => if P k then 9 else col k) k := fun k hk => ⟨Nat.lt_of_lt_of_le hk.1 hc.size, by
    show (if P k then 9 else col k) = 0
    rw [if_neg (fun hp => by have := (hP k hp).1; have := hk.1; omega)]; exact hk.2⟩
  have hnv : ∀ k, Im w' (fun k => if P k then 9 else col k) k → k ≠ x.bv ∧ k ≠ x.bt := by
    intro k hk
    have h1 : (if P k then 9 else col k) = 0 := hk.2
    refine ⟨fun e => ?_, fun e => ?_⟩
    · rw [e, (hi 2 (by decide) (by decide) _).2 h.cv] at h1; omega
    · rw [e, (hi 3 (by decide) (by decide) _).2 h.ct] at h1; omega
  obtain ⟨f, hf, hv⟩ := h.drv.map
  have lb := h.bl
  have lv := h.lt x.bv (by rw [h.cv]; decide)
  have lt := h.lt x.bt (by rw [h.ct]; decide)
  refine ⟨(hk _ (by rw [h.cb]; decide) lb).trans h.row, ?_, h.n, ?_, ?_, h.asks, fun c hc3 => ?_, h.done, h.errs, (hi 1 (by decide) (by decide) _).2 h.cb, (hi 2 (by decide) (by decide) _).2 h.cv, (hi 3 (by decide) (by decide) _).2 h.ct, fun k hk => ?_⟩
  · rw [hF]
    refine ⟨(hk _ (by rw [h.cv]; decide) lv).trans h.drv.row, ⟨f, hf.keep (hk _ (by rw [h.ct]; decide) lt), hv⟩, ?_, h.drv.nv, h.drv.nt, hnv⟩
    exact (h.drv.dev.keep (fun k hf hl => hk k (by rw [show col k = 4 from hf]; decide) hl) (fun k hs hl => hk k (by rw [hs.2]; decide) hl)).more him
  · exact (h.bufs.keep (fun k hs hl => hk k (by rw [hs.2]; decide) hl)).more him
  · exact (h.wait.keep (fun k hs hl => hk k (by rw [hs.2]; decide) hl)).more him
  · rw [hA c hc3]
    exact (h.ask c hc3).keep (fun k hf hl => hk k (by rw [show col k = 5 + c from hf]; omega) hl)
  · have hk : (if P k then 9 else col k) ≠ 0 := hk
    split at hk
    · rename_i e; exact (hP k e).2
    · exact Nat.lt_of_lt_of_le (h.lt k hk) hc.size
theorem DevAt.bare {TD TP : TypeId} {S S' F : Nat → Prop} {d : Dv} (h : DevAt TD TP S F w b d) (hl : d.l = []) : DevAt TD TP S' F w b d := by
  obtain ⟨wv, lv, cs, hrow, hw, ho, hcs, hok⟩ := h.two
  refine ⟨h.fb, h.kept, h.now, wv, lv, cs, hrow, hw, ho, hcs, fun c hc => ?_⟩
  have : cs = [] := by rw [hl] at hcs; exact List.map_eq_nil_iff.1 hcs
  rw [this] at hc; cases hc
/-- A new stack reads no block that is nobody's: those may be others' now. -/
theorem StAt.blank {d : Dv} (h : StAt T col w b bd N x (St.new d)) (hl : d.l = []) (P : Nat → Prop) [DecidablePred P] (hP : ∀ k, P k → ¬ Fl col k ∧ k < w.heap.size) :
    StAt T (fun k => if P k then 9 else col k) w b bd N x (St.new d) := by
  have hP0 : ∀ k, P k → ¬ Fl col k := fun k hk => (hP k hk).1
  have hi : ∀ c, c ≠ 0 → c ≠ 9 → ∀ k, (if P k then 9 else col k) = c ↔ col k = c := fun c h0 h1 => rise_in c ⟨h0, h1⟩ hP0
  have hF : Fd (fun k => if P k then 9 else col k) = Fd col := funext fun k => propext (hi 4 (by decide) (by decide) k)
  have hA : ∀ c, c < 3 → Fa (fun k => if P k then 9 else col k) c = Fa col c := fun c hc => funext fun k => propext (hi (5 + c) (by omega) (by omega) k)
  have hnv : ∀ k, Im w (fun k => if P k then 9 else col k) k → k ≠ x.bv ∧ k ≠ x.bt := by
    intro k hk
    have h1 : (if P k then 9 else col k) = 0 := hk.2
    refine ⟨fun e => ?_, fun e => ?_⟩
    · rw [e, (hi 2 (by decide) (by decide) _).2 h.cv] at h1; omega
    · rw [e, (hi 3 (by decide) (by decide) _).2 h.ct] at h1; omega
  refine ⟨h.row, ?_, h.n, ?_, ?_, h.asks, fun c hc3 => ?_, h.done, h.errs, (hi 1 (by decide) (by decide) _).2 h.cb, (hi 2 (by decide) (by decide) _).2 h.cv, (hi 3 (by decide) (by decide) _).2 h.ct, fun k hk => ?_⟩
  · rw [hF]
    exact ⟨h.drv.row, h.drv.map, h.drv.dev.bare hl, h.drv.nv, h.drv.nt, hnv⟩
  · have hb : BufsAt (Im w col) w x.bufs [] := h.bufs
    obtain ⟨⟨A, cap, e, h1, h2, h3, _⟩, _⟩ := hb
    exact ⟨⟨A, cap, e, h1, h2, h3, fun hn => absurd hn (Nat.lt_irrefl 0)⟩, by simp [St.new]⟩
  · obtain ⟨cs, hcs, hrd, hok⟩ := h.wait
    have : cs = [] := List.map_eq_nil_iff.1 hcs
    subst this
    obtain ⟨A, cap, e, h1, h2, h3, _⟩ := hrd
    exact ⟨[], rfl, ⟨A, cap, e, h1, h2, h3, fun hn => absurd hn (Nat.lt_irrefl 0)⟩, by simp⟩
  · rw [hA c hc3]
    exact h.ask c hc3
  · have hk : (if P k then 9 else col k) ≠ 0 := hk
    split at hk
    · rename_i e; exact (hP k e).2
    · exact h.lt k hk
end
abbrev tPl : TypeId := 49
/-- A player of the law's own, at the block p. -/
structure PlAt (W0 w : World) (col : Nat → Nat) (p b bd N : Nat) (K : Int) (x : Sv) (s : St) : Prop where
  st : StAt Ts col w b bd N x s
  inv : Inv s
  bnd : Bd K s
  k0 : 0 ≤ K
  row : w.heap[p]? = some (.cells #[.pointer (some ⟨bd, 0, none⟩), .pointer (some ⟨b, 0, none⟩)] tPl (0, 0))
  c9 : col p = 9
  below : Below W0.heap.size W0 w
  own : ∀ k, Fl col k → W0.heap.size ≤ k
  base : W0.heap.size ≤ p
/-- What a player may write. -/
def Pf (col : Nat → Nat) (p : Nat) : Nat → Prop := fun k => Fl col k ∨ k = p
/-- How the colours go on. -/
structure Pr (col col' : Nat → Nat) (p : Nat) (w w' : World) : Prop where
  chg : Chg (Pf col p) w w'
  grow : ∀ k, Fl col' k → Fl col k ∨ w.heap.size ≤ k
  nine : ∀ k, col k = 9 → col' k = 9
section
variable {W0 w w' w2 : World} {col col' col2 : Nat → Nat} {p q b bd N M : Nat} {K L : Int} {x y : Sv} {s t : St}
theorem PlAt.step (h : PlAt W0 w col p b bd N K x s) (hb : Below w.heap.size w w') : PlAt W0 w' col p b bd N K x s :=
  ⟨h.st.below hb, h.inv, h.bnd, h.k0, (hb.block _ (Array.getElem?_eq_some_iff.1 h.row).1).trans h.row, h.c9, h.below.trans (hb.mono h.below.size), h.own, h.base⟩
theorem PlAt.cell (h : PlAt W0 w col p b bd N K x s) : w.cell? ⟨p, 0, none⟩ = some (.pointer (some ⟨bd, 0, none⟩)) ∧ w.cell? ⟨p, 1, none⟩ = some (.pointer (some ⟨b, 0, none⟩)) :=
  ⟨cell_of_row _ _ 0 _ _ _ h.row, cell_of_row _ _ 1 _ _ _ h.row⟩
theorem PlAt.env (h : PlAt W0 w col p b bd N K x s) (hE : Env W0) : Env w := hE.below h.below
theorem PlAt.mono (h : PlAt W0 w col p b bd N K x s) (hn : N ≤ M) (hk : K ≤ L) : PlAt W0 w col p b bd M L x s :=
  ⟨h.st.moreN hn, h.inv, h.bnd.mono hk, Int.le_trans h.k0 hk, h.row, h.c9, h.below, h.own, h.base⟩
theorem Pr.rest (hb : Below w.heap.size w w') : Pr col col p w w' := ⟨Chg.of_below hb, fun k hk => .inl hk, fun k hk => hk⟩
/-- The player's stack was called. -/
theorem PlAt.call (h : PlAt W0 w col p b bd N K x s) (ha : StAt Ts col' w' b bd M y t) (hI : Inv t) (hB : Bd L t) (hL : 0 ≤ L) (hc : Chg (Fl col) w w') (hr : Rec col col' w w') : PlAt W0 w' col' p b bd M L y t ∧ Pr col col' p w w' := by
  have hlt := (Array.getElem?_eq_some_iff.1 h.row).1
  have hq : ∀ k, col k = 9 → col' k = 9 := fun k hk => by
    have hl : k < w.heap.size := h.st.lt k (by rw [hk]; decide)
    rw [hr.old k hl]; exact hk
  exact ⟨⟨ha, hI, hB, hL, (hc.block _ hlt (fun hf => hf.2 h.c9)).trans h.row, hq _ h.c9, h.below.trans (hc.below h.own h.below.size), fun k hk => (hr.grow k hk).elim (h.own k) (fun h1 => Nat.le_trans h.below.size h1), h.base⟩,
    ⟨hc.mono (fun k hk => .inl hk), hr.grow, hq⟩⟩
theorem PlAt.five {v : Value} {e : Ending} (h : PlAt W0 w col p b bd N K x s) (hr : Ret5 Ts col w b bd M t v e w') (hI : Inv t) (hB : Bd L t) (hL : 0 ≤ L) : e = .returned v ∧ ∃ col' y, PlAt W0 w' col' p b bd M L y t ∧ Pr col col' p w w' := by
  obtain ⟨col', y, he, hst, hc, hrc⟩ := hr
  exact ⟨he, col', y, h.call hst hI hB hL hc hrc⟩
theorem PlAt.two {v : Value} {e : Ending} (h : PlAt W0 w col p b bd N K x s) (hr : Ret2 Ts col w b bd N x t v e w') (hI : Inv t) (hB : Bd L t) (hL : 0 ≤ L) : e = .returned v ∧ ∃ col' y, PlAt W0 w' col' p b bd N L y t ∧ Pr col col' p w w' := by
  obtain ⟨y, he, hst, hc, _⟩ := hr
  exact ⟨he, col, y, h.call hst hI hB hL (h.st.chg1 hc) .refl⟩
theorem PlAt.four {v : Value} {e : Ending} (h : PlAt W0 w col p b bd N K x s) (hr : Ret4 Ts col w b bd N x t v e w') (hI : Inv t) (hB : Bd L t) (hL : 0 ≤ L) : e = .returned v ∧ ∃ col' y, PlAt W0 w' col' p b bd N L y t ∧ Pr col col' p w w' := by
  obtain ⟨y, he, hst, hc, _⟩ := hr
  exact ⟨he, col, y, h.call hst hI hB hL hc .refl⟩
theorem Pr.after {w3 : World} {col3 : Nat → Nat} (h : Pr col col' p w w') (h2 : Pr col' col3 p w' w3) (hc9 : col p = 9) : Pr col col3 p w w3 := by
  refine ⟨?_, fun k hk => ?_, fun k hk => h2.nine k (h.nine k hk)⟩
  · refine ⟨h2.chg.os.trans h.chg.os, h2.chg.tape.trans h.chg.tape, h2.chg.output.trans h.chg.output, Nat.le_trans h.chg.size h2.chg.size, fun k hk hn => ?_⟩
    refine (h2.chg.block k (Nat.lt_of_lt_of_le hk h.chg.size) (fun hf => ?_)).trans (h.chg.block k hk hn)
    rcases hf with hf | hf
    · rcases h.grow k hf with h3 | h3
      · exact hn (.inl h3)
      · omega
    · exact hn (.inr hf)
  · rcases h2.grow k hk with h3 | h3
    · exact h.grow k h3
    · exact .inr (Nat.le_trans h.chg.size h3)
theorem Pr.before {w1 : World} (h : Pr col col' p w1 w') (hb : Below w.heap.size w w1) : Pr col col' p w w' := by
  refine ⟨?_, fun k hk => (h.grow k hk).imp id (fun h3 => Nat.le_trans hb.size h3), h.nine⟩
  exact ⟨h.chg.os.trans hb.os, h.chg.tape.trans hb.tape, h.chg.output.trans hb.output, Nat.le_trans hb.size h.chg.size, fun k hk hn => (h.chg.block k (Nat.lt_of_lt_of_le hk hb.size) hn).trans (hb.block k hk)⟩
theorem PlAt.pf (h : PlAt W0 w col p b bd N K x s) : ∀ k, Pf col p k → W0.heap.size ≤ k := fun k hk => hk.elim (h.own k) (fun e => by rw [e]; exact h.base)
/-- Another player was called: the two are apart. -/
theorem PlAt.other {b2 bd2 N2 : Nat} {K2 : Int} {y2 : Sv} {s2 : St} (h : PlAt W0 w col p b bd N K x s) {c2 c2' : Nat → Nat} (hr : Pr c2 c2' q w w') (h2 : PlAt W0 w' c2' q b2 bd2 N2 K2 y2 s2) (ho : ∀ k, Pf c2 q k → W0.heap.size ≤ k) (hd : ∀ k, Pf c2 q k → col k = 9) (hd2 : ∀ k, Pf col p k → c2 k = 9) (hpq : p ≠ q) :
    ∃ col', PlAt W0 w' col' p b bd N K x s ∧ (∀ k, Pf c2' q k → col' k = 9) ∧ (∀ k, Pf col' p k → c2' k = 9) := by
  classical
  have hpl := (Array.getElem?_eq_some_iff.1 h.row).1
  have hP : ∀ k, (w.heap.size ≤ k ∧ Fl c2' k) → w.heap.size ≤ k ∧ k < w'.heap.size := fun k hk => ⟨hk.1, h2.st.lt k hk.2.1⟩
  have hst := h.st.far9 hr.chg hd (fun k => w.heap.size ≤ k ∧ Fl c2' k) hP
  obtain ⟨col', hcol⟩ : ∃ f : Nat → Nat, (fun k => if w.heap.size ≤ k ∧ Fl c2' k then 9 else col k) = f := ⟨_, rfl⟩
  have hc : ∀ k, col' k = if w.heap.size ≤ k ∧ Fl c2' k then 9 else col k := fun k => by rw [← hcol]
  rw [hcol] at hst
  clear hcol
  have hF : ∀ k, Fl col' k → Fl col k := fun k hk => by
    obtain ⟨h1, h2⟩ := hk
    rw [hc] at h1 h2
    by_cases e : w.heap.size ≤ k ∧ Fl c2' k
    · rw [if_pos e] at h2; exact absurd rfl h2
    · rw [if_neg e] at h1 h2; exact ⟨h1, h2⟩
  have hn : ∀ k, col k = 9 → col' k = 9 := fun k hk => by
    rw [hc]
    split
    · rfl
    · exact hk
  have hpn : ¬ Pf c2 q p := fun e => by
    rcases e with e | e
    · exact e.2 (hd2 p (.inr rfl))
    · exact hpq e
  refine ⟨col', ⟨hst, h.inv, h.bnd, h.k0, (hr.chg.block p hpl hpn).trans h.row, hn _ h.c9, h.below.trans (hr.chg.below ho h.below.size), fun k hk => h.own k (hF k hk), h.base⟩, fun k hk => ?_, fun k hk => ?_⟩
  · rcases hk with hk | rfl
    · by_cases hl : w.heap.size ≤ k
      · rw [hc, if_pos ⟨hl, hk⟩]
      · rcases hr.grow k hk with h3 | h3
        · exact hn _ (hd k (.inl h3))
        · exact absurd h3 hl
    · exact hn _ (hd _ (.inr rfl))
  · refine hr.nine k (hd2 k ?_)
    rcases hk with hk | hk
    · exact .inl (hF k hk)
    · exact .inr hk
/-- A new player beside one. -/
theorem PlAt.beside {b2 bd2 N2 : Nat} {K2 : Int} {y2 : Sv} {s2 : St} (h : PlAt W0 w col p b bd N K x s) (hb : Below w.heap.size w w') (h2 : PlAt W0 w' col2 q b2 bd2 N2 K2 y2 s2) (hnew : ∀ k, Pf col2 q k → w.heap.size ≤ k) (h9 : ∀ k, k < w.heap.size → col2 k = 9) :
    ∃ col', PlAt W0 w' col' p b bd N K x s ∧ (∀ k, Pf col2 q k → col' k = 9) ∧ (∀ k, Pf col' p k → col2 k = 9) := by
  classical
  have hpl := (Array.getElem?_eq_some_iff.1 h.row).1
  have hq := (Array.getElem?_eq_some_iff.1 h2.row).1
  have hP : ∀ k, Pf col2 q k → w.heap.size ≤ k ∧ k < w'.heap.size := fun k hk => ⟨hnew k hk, hk.elim (fun e => h2.st.lt k e.1) (fun e => by rw [e]; exact hq)⟩
  have hst := h.st.far9 (F := fun _ => False) (Chg.of_below hb) (fun k hk => hk.elim) (Pf col2 q) hP
  obtain ⟨col', hcol⟩ : ∃ f : Nat → Nat, (fun k => if Pf col2 q k then 9 else col k) = f := ⟨_, rfl⟩
  have hc : ∀ k, col' k = if Pf col2 q k then 9 else col k := fun k => by rw [← hcol]
  rw [hcol] at hst
  clear hcol
  have hF : ∀ k, Fl col' k → Fl col k := fun k hk => by
    obtain ⟨h1, h2⟩ := hk
    rw [hc] at h1 h2
    by_cases e : Pf col2 q k
    · rw [if_pos e] at h2; exact absurd rfl h2
    · rw [if_neg e] at h1 h2; exact ⟨h1, h2⟩
  refine ⟨col', ⟨hst, h.inv, h.bnd, h.k0, (hb.block p hpl).trans h.row, ?_, h.below.trans (hb.mono h.below.size), fun k hk => h.own k (hF k hk), h.base⟩, fun k hk => by rw [hc, if_pos hk], fun k hk => h9 k ?_⟩
  · rw [hc]
    split
    · rfl
    · exact h.c9
  · rcases hk with hk | rfl
    · exact h.st.lt k (hF k hk).1
    · exact hpl
/-- A player whose disk crashed: its stack is a new one. -/
theorem PlAt.crashed {u1 u2 u3 : World} {m b2 : Nat} {y2 : Sv} (h : PlAt W0 w col p b bd N K x s) (hc : Chg (Fd col) w u1) (hs : StAt Ts col2 u2 b2 bd 0 y2 (St.new (s.v.d.crash m))) (hb : Below u1.heap.size u1 u2)
    (hfl : ∀ k, Fl col2 k → Fd col k ∨ u1.heap.size ≤ k) (hu : Same1 p u2 u3) (hrow : u3.heap[p]? = some (.cells #[.pointer (some ⟨bd, 0, none⟩), .pointer (some ⟨b2, 0, none⟩)] tPl (0, 0))) (hB : Bd 0 (St.new (s.v.d.crash m))) :
    ∃ col', PlAt W0 u3 col' p b2 bd 0 0 y2 (St.new (s.v.d.crash m)) ∧ Pr col col' p w u3 := by
  classical
  have hpl := (Array.getElem?_eq_some_iff.1 h.row).1
  have hp1 : p < u1.heap.size := Nat.lt_of_lt_of_le hpl hc.size
  have hs' := hs.blank rfl (fun k => k < u1.heap.size ∧ ¬ Fd col k) (fun k hk => ⟨fun hf => (hfl k hf).elim hk.2 (fun e => by omega), Nat.lt_of_lt_of_le hk.1 hb.size⟩)
  obtain ⟨col', hcol⟩ : ∃ f : Nat → Nat, (fun k => if k < u1.heap.size ∧ ¬ Fd col k then 9 else col2 k) = f := ⟨_, rfl⟩
  have hcc : ∀ k, col' k = if k < u1.heap.size ∧ ¬ Fd col k then 9 else col2 k := fun k => by rw [← hcol]
  rw [hcol] at hs'
  clear hcol
  have hpF : ¬ Fd col p := fun e => by have e : col p = 4 := e; rw [h.c9] at e; cases e
  have h9 : col' p = 9 := by rw [hcc, if_pos ⟨hp1, hpF⟩]
  have hF : ∀ k, Fl col' k → Fd col k ∨ u1.heap.size ≤ k := fun k hk => by
    obtain ⟨h1, h2⟩ := hk
    rw [hcc] at h1 h2
    by_cases e : k < u1.heap.size ∧ ¬ Fd col k
    · rw [if_pos e] at h2; exact absurd rfl h2
    · rw [if_neg e] at h1 h2; exact hfl k ⟨h1, h2⟩
  have hFF : ∀ k, Fd col k → Fl col k := fun k (hk : col k = 4) => ⟨by rw [hk]; decide, by rw [hk]; decide⟩
  have hst : StAt Ts col' u3 b2 bd 0 y2 (St.new (s.v.d.crash m)) := by
    have := hs'.far9 (F := fun k => k = p) (hu.chg rfl) (fun k hk => by rw [hk]; exact h9) (fun _ => False) (fun k hk => hk.elim)
    simpa using this
  have hch : Chg (Pf col p) w u3 := by
    refine ⟨?_, ?_, ?_, ?_, fun k hk hn => ?_⟩
    · exact (hu.os.trans hb.os).trans hc.os
    · exact (hu.tape.trans hb.tape).trans hc.tape
    · exact (hu.output.trans hb.output).trans hc.output
    · rw [hu.size]; exact Nat.le_trans hc.size hb.size
    · exact ((hu.block k (fun e => hn (.inr e))).trans (hb.block k (Nat.lt_of_lt_of_le hk hc.size))).trans (hc.block k hk (fun e => hn (.inl (hFF k e))))
  exact ⟨col', ⟨hst, Inv.new (h.inv.dv.crash _) rfl, hB, Int.le_refl _, hrow, h9, h.below.trans (hch.below h.pf h.below.size), fun k hk => (hF k hk).elim (fun e => h.own k (hFF k e)) (fun e => Nat.le_trans h.below.size (Nat.le_trans hc.size e)), h.base⟩,
    ⟨hch, fun k hk => (hF k hk).imp (hFF k) (fun e => Nat.le_trans hc.size e), fun k hk => by
      have hkF : ¬ Fd col k := fun e => by have e : col k = 4 := e; rw [hk] at e; cases e
      have hkl := h.st.lt k (by rw [hk]; decide)
      rw [hcc, if_pos ⟨Nat.lt_of_lt_of_le hkl hc.size, hkF⟩]⟩⟩
/-- A new player: whatever was there before is not its own. -/
theorem PlAt.made {w1 w2 w3 : World} {F : Nat → Prop} {d : Dv} (hW : Below W0.heap.size W0 w) (hs : StAt Ts col w2 b bd 0 x (St.new d)) (hl : d.l = []) (hd : DvOk d) (hw : d.waits = []) (hb : Below w.heap.size w w2) (hfl : ∀ k, Fl col k → w.heap.size ≤ k)
    (hb3 : Below w2.heap.size w2 w3) (hp : w2.heap.size ≤ p) (hrow : w3.heap[p]? = some (.cells #[.pointer (some ⟨bd, 0, none⟩), .pointer (some ⟨b, 0, none⟩)] tPl (0, 0))) (hB : Bd 0 (St.new d)) :
    ∃ col', PlAt W0 w3 col' p b bd 0 0 x (St.new d) ∧ (∀ k, k < w.heap.size → col' k = 9) ∧ (∀ k, Pf col' p k → w.heap.size ≤ k) := by
  classical
  have hpl := (Array.getElem?_eq_some_iff.1 hrow).1
  have h0 := hs.s0 p hp
  have hs' := (hs.below hb3).blank hl (fun k => k < w.heap.size ∨ k = p) (fun k hk => hk.elim (fun e => ⟨fun hf => by have := hfl k hf; omega, Nat.lt_of_lt_of_le e (Nat.le_trans hb.size hb3.size)⟩) (fun e => by rw [e]; exact ⟨fun hf => hf.1 h0, hpl⟩))
  obtain ⟨col', hcol⟩ : ∃ f : Nat → Nat, (fun k => if k < w.heap.size ∨ k = p then 9 else col k) = f := ⟨_, rfl⟩
  have hcc : ∀ k, col' k = if k < w.heap.size ∨ k = p then 9 else col k := fun k => by rw [← hcol]
  rw [hcol] at hs'
  clear hcol
  have hF : ∀ k, Fl col' k → w.heap.size ≤ k := fun k hk => by
    rcases Nat.lt_or_ge k w.heap.size with hlt | hge
    · exact absurd (by rw [hcc, if_pos (.inl hlt)]) hk.2
    · exact hge
  have hpw : w.heap.size ≤ p := Nat.le_trans hb.size hp
  exact ⟨col', ⟨hs', Inv.new hd hl, hB, Int.le_refl _, hrow, by rw [hcc, if_pos (.inr rfl)], hW.trans ((hb.trans (hb3.mono hb.size)).mono hW.size), fun k hk => Nat.le_trans hW.size (hF k hk), Nat.le_trans hW.size hpw⟩,
    fun k hk => by rw [hcc, if_pos (.inl hk)], fun k hk => hk.elim (hF k) (fun e => by rw [e]; exact hpw)⟩
end
end Go.Proofs.YtinknleckppciaaGreatDoor
namespace Go.Proofs.YtinknleckppciaaGreatDoor
set_option linter.unusedSimpArgs false
set_option linter.unusedVariables false
open Go.RowKit Go.Sort

def txs (l : List Rq) (k : Nat) : List ByteArray := (l.take k).map textP
theorem txs_succ {l : List Rq} {k : Nat} {x : Rq} (h : l[k]? = some x) : txs l (k + 1) = txs l k ++ [textP x] := by
  unfold txs; rw [List.take_add_one, h]; simp
theorem txs_len {l : List Rq} {k : Nat} (h : k ≤ l.length) : (txs l k).length = k := by unfold txs; simp; omega
theorem txs_size {S : Nat → Prop} {w : World} {l : List Rq} {v : Value} (h : ReqsAt S w v l) (hok : ∀ r ∈ l, ReqOk r) : ∀ x ∈ txs l l.length, x.size ≤ 300 := fun x hx => by
  unfold txs at hx
  obtain ⟨y, hy, rfl⟩ := List.mem_map.1 hx
  have hy := List.mem_of_mem_take hy
  obtain ⟨cs, rfl, _, hc⟩ := h
  obtain ⟨c, hcm, rfl⟩ := List.mem_map.1 hy
  have h1 := hc c hcm
  have h2 := (hok _ hy).tags
  exact textP_size (fun x hx => h1.tags.2 x hx) h1.lo h1.many (Nat.le_trans h2.2 (by decide))
set_option maxRecDepth 100000 in
set_option maxHeartbeats 2000000 in
theorem texts_any (S : Nat → Prop) (l : List Rq) (v : Value) (w : World) (h : ReqsAt S w v l) (hl : l.length ≤ 6) (hok : ∀ r ∈ l, ReqOk r) (hE : Env w) :
    Calls Tryz.prog 29 #[v] w (Ret (.string (textsM l)) w) := by
  obtain ⟨i0, hi0, hz0, hz1, hz2⟩ := info_parts ptrInfo
  obtain ⟨A, cap, rfl, _, hcap⟩ := h.form
  have Hsz := Lib.hid (txs_size h hok)
  have H := Lib.hid h
  have HE := Lib.hid hE
  have Hok := Lib.hid hok
  clear h hE hok
  go_enter Tryz.func29, Tryz.ntmps29
  go_wp2_with fail
  go_loopw [3, 8] (fun v i wr => ∃ (k : Nat), k ≤ l.length ∧ i = .int .i64 k ∧ Below w.heap.size w wr ∧ Hid (wr.ownsRow w.heap.size 9 1 v k ((txs l k).map .string))) (fun _ i _ => l.length - (intOf i).toNat)
  case atStart => exact ⟨0, by omega, rfl, Below.refl _ _, World.ownsRow_nil _ _ _ _⟩
  case round =>
    obtain ⟨k, hk, rfl, hb, HO⟩ := hrel
    by_cases hlt : k < l.length
    · obtain ⟨b, off, rfl, _, _, hc⟩ := (H.out.below hb).at_ (by omega)
      have hx : l[k]? = some l[k] := List.getElem?_eq_getElem hlt
      obtain ⟨Ad, cd, At, ct, hreq, c0, c1, c2, c3, c4, c5⟩ := hc k _ hx
      have Hx := Lib.hid hx
      have Hreq := Lib.hid hreq
      have Hr := Lib.hid (Hok.out _ (List.mem_of_getElem? hx))
      clear hx hc hreq
      generalize l[k] = r at *
      have hk1 : (k : Int) < (l.length : Int) := by omega
      have Hdec := Lib.hid (txs_succ Hx.out)
      have Hd := Lib.hid (fun v w h hE => textp_any S r v w h (Nat.le_trans Hr.out.tags.2 (by decide)) hE)
      generalize textP r = dx at *
      go_wp2_with fail
      have L := (Lay.refl wr).alloc' wr.heap.size #[Value.bool r.write, Value.int IntKind.i64 r.lo, Value.int IntKind.i64 r.many, Value.slice Ad r.data.length cd, Value.slice At r.tags.length ct, Value.int IntKind.i64 r.born] 97 rfl
      generalize World.alloc _ _ = W at L ⊢
      have hw0 := hb.trans (L.below.mono hb.size)
      refine (Hd.out _ W (Hreq.out.below L.below) (HE.out.below hw0)).mono ?_
      rintro e w1 ⟨rfl, hb1⟩
      have hbr := (Below.refl w1.heap.size w1).alloc (Nat.le_refl _) (Obj.cells #[Value.string dx] 9)
      have hw1 := hw0.trans (hb1.mono hw0.size)
      have hwb := hw1.trans (hbr.mono hw1.size)
      have hb2 := hb1.trans (hbr.mono hb1.size)
      have hba := (L.below.trans (hb2.mono L.below.size) : Below wr.heap.size wr _)
      have HO1 := Lib.hid (own_keepL HO.out (fun g _ hg => hba.block g hg))
      have Hrow := Lib.hid (rd_row1 w1 (.string dx) 9)
      have Hwb := Lib.hid hwb
      clear hbr hba hwb hb2 c0 c1 c2 c3 c4 c5 L
      go_wp2_with (at_builtin; refine wpList_append_rd (S := fun _ => True) _ rfl (.tmp 12) (.tmp 15) _ rfl w.heap.size 9 i0 _ 1 16 Tryz.underlying95 hi0 hz0 hz1 hz2 rfl (by omega) _ k ((txs l k).map .string) rfl HO1.out _ 1 _ rfl Hrow.out (fun u hu => by simp at hu; subst hu; rfl) (by simp only [maxLen]; omega) (by omega) Hwb.out.size ?_; intro v5 w5 hown5 hg5 hat5)
      have HB5 := Lib.hid (Hwb.out.grown hg5 Hwb.out.size (fun k hk => (HO1.out.lt k hk).1))
      have HO5 := Lib.hid hown5
      clear hown5 hg5 hat5
      go_roundw
      case rel => exact ⟨k + 1, by omega, by go_num, HB5.out, by show World.ownsRow _ _ _ _ _ _ _; rw [Hdec.out, List.map_append]; exact HO5.out⟩
      case measure => simp [intOf]; omega
    · obtain rfl : k = l.length := by omega
      have hj : (joinP (txs l l.length) 32).size ≤ 2000 := by
        have := joinP_size (txs l l.length) 32 300 Hsz.out
        rw [txs_len (Nat.le_refl _)] at this
        have h4 : l.length * (300 + 1) ≤ 6 * 301 := Nat.mul_le_mul hl (Nat.le_refl _)
        omega
      obtain ⟨A6, c6, rfl⟩ := own_slice HO.out
      have hk1 : ¬ (l.length : Int) < (l.length : Int) := by omega
      by_cases h0 : l = []
      · have HT : Hid (textsM l = ⟨#[45]⟩) := show _ = _ by unfold textsM; rw [if_pos h0]; rfl
        have hz : ((l.length : Int) == 0) = true := by rw [h0]; rfl
        clear h0 hj
        go_wp2_with fail
        go_ret
        rw [HT.out]
        exact ⟨rfl, hb⟩
      · have HT : Hid (textsM l = joinP (txs l l.length) 32) := show _ = _ by unfold textsM txs; rw [if_neg h0, List.take_length]
        have hz : ((l.length : Int) == 0) = false := by
          have := List.length_pos_iff.2 h0
          simp only [beq_eq_false_iff_ne]; omega
        have Hil := Lib.hid (txs_len (l := l) (Nat.le_refl _))
        have Hjo := Lib.hid (fun hN => joinp_own (32 : UInt8) HO.out Hil.out hN (by omega))
        have Hj := Lib.hid hj
        clear h0 hj
        go_wp2_with fail
        refine (Hjo.out (Nat.le_trans Hj.out (by decide))).mono ?_
        rintro e w7 ⟨rfl, hb7⟩
        go_wp2_with fail
        go_ret
        rw [HT.out]
        exact ⟨rfl, hb.trans (hb7.mono hb.size)⟩
theorem got_err {s : St} (h : Inv s) (c : Nat) : (s.got c).2 ≤ 9 := by
  unfold St.got
  split
  · exact Nat.zero_le _
  · show s.errs.getD c 0 ≤ 9
    rw [List.getD_eq_getElem?_getD]
    cases he : s.errs[c]? with
    | none => exact Nat.zero_le _
    | some e => exact h.errs.2 e (List.mem_of_getElem? he)
theorem got_size {s : St} (h : Inv s) (c : Nat) : (s.got c).1.size ≤ 16 := by
  unfold St.got
  split
  · show (s.done.getD c noB).size ≤ 16
    rw [List.getD_eq_getElem?_getD]
    cases he : s.done[c]? with
    | none => exact noB16
    | some e => exact h.done.2 e (List.mem_of_getElem? he)
  · exact noB16
set_option maxRecDepth 100000 in
set_option maxHeartbeats 2000000 in
theorem pgot_any (W0 : World) (col : Nat → Nat) (w : World) (p b bd N : Nat) (x : Sv) (s : St) (K : Int) (a : Int) (h : PlAt W0 w col p b bd N K x s) (hE : Env W0) (ha : 0 ≤ a) :
    Calls Tryz.prog 21 #[.pointer (some ⟨p, 0, none⟩), .int .i64 a] w (Ret (.string (gotM s a)) w) := by
  have H := Lib.hid h
  have HE := Lib.hid (h.env hE)
  obtain ⟨c0, c1⟩ := h.cell
  clear h hE
  go_enter Tryz.func21, Tryz.ntmps21
  by_cases h3 : 3 ≤ a
  · have HT : Hid (gotM s a = doneB 5) := show _ = _ by unfold gotM; rw [if_pos h3]
    have e5 : Value.iface 62 (.int .i64 5) = errV 5 := rfl
    go_wp2_with fail
    refine (done_any 5 w (by decide) HE.out).mono ?_
    rintro e w1 ⟨rfl, hb1⟩
    go_wp2_with fail
    go_ret
    rw [HT.out]
    exact ⟨rfl, hb1⟩
  · obtain ⟨c, rfl⟩ := Int.eq_ofNat_of_zero_le ha
    have hc : c < 3 := by omega
    have hn : gotM s (c : Int) = if (s.askAt c).isSome then p_waitsB else if (s.got c).2 ≠ 0 then doneB (s.got c).2 else p_dataB ++ (s.got c).1 := by
      unfold gotM; rw [if_neg h3, Int.toNat_natCast]
    have HN := Lib.hid hn
    clear hn
    go_wp2_with fail
    refine (waits_any col w b bd N x s c H.out.st hc).mono ?_
    rintro e w1 ⟨rfl, rfl⟩
    cases ho : (s.askAt c).isSome with
    | true =>
      have HT : Hid (gotM s (c : Int) = ⟨#[119, 97, 105, 116, 115]⟩) := show _ = _ by rw [HN.out, ho]; rfl
      clear ho
      go_wp2_with fail
      go_ret
      rw [HT.out]
      exact ⟨rfl, Below.refl _ _⟩
    | false =>
      have Ho := Lib.hid ho
      clear ho
      go_wp2_with fail
      refine (got_any col w b bd N x s c H.out.st hc).mono ?_
      rintro e w1 ⟨rfl, hb1⟩
      have g9 := got_err H.out.inv c
      have g16 := got_size H.out.inv c
      by_cases he : (s.got c).2 = 0
      · have HT : Hid (gotM s (c : Int) = (⟨#[100, 97, 116, 97, 32]⟩ : ByteArray) ++ (s.got c).1) := show _ = _ by rw [HN.out, Ho.out, he]; rfl
        rw [he, errV_zero]
        clear he g9
        generalize (s.got c).1 = d at *
        have z1 : ¬ (9223372036854775807 < 5 + d.size) := by omega
        go_wp2_with fail
        go_ret
        rw [HT.out]
        exact ⟨rfl, hb1⟩
      · have HT : Hid (gotM s (c : Int) = doneB (s.got c).2) := show _ = _ by rw [HN.out, Ho.out, if_neg (by decide), if_pos he]
        rw [errV_pos he]
        generalize (s.got c).2 = n at *
        have HV : Hid (Value.iface 62 (.int .i64 (n : Int)) = errV n) := show _ = _ from (errV_pos he).symm
        generalize (s.got c).1 = d at *
        clear he
        go_wp2_with fail
        rw [HV.out]
        refine (done_any n w1 (by omega) (HE.out.below hb1)).mono ?_
        rintro e w2 ⟨rfl, hb2⟩
        go_wp2_with fail
        go_ret
        rw [HT.out]
        exact ⟨rfl, hb1.trans (hb2.mono hb1.size)⟩
end Go.Proofs.YtinknleckppciaaGreatDoor
