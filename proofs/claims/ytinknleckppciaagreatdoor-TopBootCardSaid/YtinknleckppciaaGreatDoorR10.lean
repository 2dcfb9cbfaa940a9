/- The reference's Next. The reference's Next, where a turn begins. The reference's Next, where a turn begins. The reference's Next answers as the program's. The reference's Meet: it goes over all sectors. GoodReqs: may each be, and have no two a sector in common? The law ElevatorSays: its walk. Plain facts: lists of requests that may wait, taken from and added to; what Next says. The law TopElevator: its walk. -/
import Derived.Test.YtinknleckppciaaGreatDoorR9
import Derived.Test.YtinknleckppciaaGreatDoorR7
import Derived.Test.YtinknleckppciaaGreatDoorR5
import Derived.Test.YtinknleckppciaaGreatDoorR8
import Derived.Outline
import Derived.Test.YtinknleckppciaaGreatDoorR6
namespace Go.Proofs.YtinknleckppciaaGreatDoor
set_option linter.unusedSimpArgs false
set_option linter.unusedVariables false
open Go.RowKit Go.Sort
end Go.Proofs.YtinknleckppciaaGreatDoor
namespace Go.Proofs.YtinknleckppciaaGreatDoor
set_option linter.unusedSimpArgs false
set_option linter.unusedVariables false
open Go.RowKit Go.Sort
end Go.Proofs.YtinknleckppciaaGreatDoor
namespace Go.Proofs.YtinknleckppciaaGreatDoor
set_option linter.unusedSimpArgs false
set_option linter.unusedVariables false
open Go.RowKit Go.Sort
end Go.Proofs.YtinknleckppciaaGreatDoor
namespace Go.Proofs.YtinknleckppciaaGreatDoor
open Go.RowKit Go.Sort
end Go.Proofs.YtinknleckppciaaGreatDoor
namespace Go.Proofs.YtinknleckppciaaGreatDoor
open Go.RowKit Go.Sort

/-- What is known of a world in a round: the two spans lie in the call's own blocks. -/
structure TwoSpans (B : Nat) (w wr : World) (af am bf bm : Int) : Prop where
  below : Below B w wr
  lt : B + 1 < wr.heap.size
  b1 : wr.heap[B]? = some (.cells #[.int .i64 af, .int .i64 am] 94 (0, 0))
  b2 : wr.heap[B + 1]? = some (.cells #[.int .i64 bf, .int .i64 bm] 94 (0, 0))
theorem TwoSpans.c {B : Nat} {w wr : World} {af am bf bm : Int} (h : TwoSpans B w wr af am bf bm) :
    wr.cell? ⟨B, 0, none⟩ = some (.int .i64 af) ∧ wr.cell? ⟨B, 1, none⟩ = some (.int .i64 am) ∧ wr.cell? ⟨B + 1, 0, none⟩ = some (.int .i64 bf) ∧ wr.cell? ⟨B + 1, 1, none⟩ = some (.int .i64 bm) :=
  ⟨cell_of_row _ _ 0 _ _ _ h.b1, cell_of_row _ _ 1 _ _ _ h.b1, cell_of_row _ _ 0 _ _ _ h.b2, cell_of_row _ _ 1 _ _ _ h.b2⟩
theorem TwoSpans.next {B : Nat} {w wr w' : World} {af am bf bm : Int} (h : TwoSpans B w wr af am bf bm) (hb : Below wr.heap.size wr w') (hB : B ≤ wr.heap.size := by omega) : TwoSpans B w w' af am bf bm :=
  ⟨h.below.trans (hb.mono hB), by have := hb.size; have := h.lt; omega, (hb.block _ (by have := h.lt; omega)).trans h.b1, (hb.block _ h.lt).trans h.b2⟩

theorem TwoSpans.step {B : Nat} {w wr w' : World} {af am bf bm : Int} (h : TwoSpans B w wr af am bf bm) (hb : Below wr.heap.size wr w') : TwoSpans B w w' af am bf bm :=
  h.next hb (by have := h.lt; omega)
theorem TwoSpans.rg {B : Nat} {w wr : World} {af am bf bm : Int} (h : TwoSpans B w wr af am bf bm) :
    (∀ d os, (grow (redrawn wr d) os).cell? ⟨B, 0, none⟩ = some (.int .i64 af)) ∧ (∀ d os, (grow (redrawn wr d) os).cell? ⟨B, 1, none⟩ = some (.int .i64 am)) ∧
    (∀ d os, (grow (redrawn wr d) os).cell? ⟨B + 1, 0, none⟩ = some (.int .i64 bf)) ∧ (∀ d os, (grow (redrawn wr d) os).cell? ⟨B + 1, 1, none⟩ = some (.int .i64 bm)) :=
  ⟨fun _ _ => cell_regrown h.c.1 _ _, fun _ _ => cell_regrown h.c.2.1 _ _, fun _ _ => cell_regrown h.c.2.2.1 _ _, fun _ _ => cell_regrown h.c.2.2.2 _ _⟩
theorem meet_of_has {af am bf bm k : Int} (hx : hasB af am k = true) (hy : hasB bf bm k = true) : meetB af am bf bm = true := by
  simp [hasB, meetB] at *; omega
theorem not_meet {af am bf bm : Int} (ha : SpanOk af am 32) (hb : SpanOk bf bm 32) (h : ∀ k, 0 ≤ k → k < 32 → ¬ (hasB af am k = true ∧ hasB bf bm k = true)) : meetB af am bf bm = false := by
  obtain ⟨a1, a2, a3, a4, a5⟩ := ha
  obtain ⟨b1, b2, b3, b4, b5⟩ := hb
  have h1 := h (if af ≤ bf then bf else af) (by split <;> omega) (by split <;> omega)
  by_cases c : af ≤ bf
  · rw [if_pos c] at h1
    simp [hasB] at h1
    simp [meetB]; omega
  · rw [if_neg c] at h1
    simp [hasB] at h1
    simp [meetB]; omega

end Go.Proofs.YtinknleckppciaaGreatDoor
namespace Go.Proofs.YtinknleckppciaaGreatDoor
open Go.RowKit Go.Sort

end Go.Proofs.YtinknleckppciaaGreatDoor
namespace Go.Proofs.YtinknleckppciaaGreatDoor
open Go.RowKit Go.Sort

/-- A list of one request without data, with one tag, as a literal makes it. -/
theorem reqs_one {S : Nat → Prop} {w : World} {g g0 : Nat} {wb : Bool} {lo many tag born : Int} {T T' : TypeId} (hS : ∀ b, S b)
    (h1 : w.heap[g]? = some (.cells #[.bool wb, .int .i64 lo, .int .i64 many, .slice none 0 0, .slice (some ⟨g0, 0, none⟩) 1 1, .int .i64 born] T (0, 0)))
    (h0 : w.heap[g0]? = some (.cells #[.int .i64 tag] T' (0, 0))) (b1 : i64 lo) (b2 : i64 many) (b3 : i64 tag) (b4 : i64 born) :
    ReqsAt S w (.slice (some ⟨g, 0, none⟩) 1 1) [⟨wb, lo, many, [], [tag], born⟩] := by
  refine ⟨[⟨⟨wb, lo, many, [], [tag], born⟩, .slice none 0 0, .slice (some ⟨g0, 0, none⟩) 1 1⟩], rfl, ⟨some ⟨g, 0, none⟩, 1, rfl, Nat.le_refl _, by simp [maxLen], rfl, fun _ => ⟨g, 0, rfl, hS _, fun j u hj => ?_⟩⟩, ?_⟩
  · rw [cell_of_row _ _ _ _ _ _ h1]
    simpa [Rc.cells] using hj
  · intro c hc
    simp at hc
    subst hc
    exact ⟨⟨Rd.nil, by simp⟩, ⟨⟨some ⟨g0, 0, none⟩, 1, rfl, Nat.le_refl _, by simp [maxLen], rfl, fun _ => ⟨g0, 0, rfl, hS _, fun j u hj => by rw [cell_of_row _ _ _ _ _ _ h0]; simpa using hj⟩⟩, by intro x hx; simp at hx; subst hx; exact b3⟩, b1, b2, b4⟩

abbrev oneR : Rq := ⟨false, 3, 1, [], [1], 0⟩
theorem one_good : goodReqs [oneR] = true := by decide
theorem one_next : nextV [oneR] ⟨false, 0, 0, 0⟩ 0 = .tuple #[.int .i64 0, tnV ⟨false, 1, 0, 4⟩] := by
  have : nextM [oneR] ⟨false, 0, 0, 0⟩ 0 = (0, ⟨false, 1, 0, 4⟩) := by decide
  unfold nextV; rw [this]

/-- A turn lies in the call's own block. -/
structure TnBox (B : Nat) (w wr : World) (t : Tn) : Prop where
  below : Below B w wr
  lt : B < wr.heap.size
  b1 : wr.heap[B]? = some (.cells (tnCells t) 68 (0, 0))
theorem TnBox.c {B : Nat} {w wr : World} {t : Tn} (h : TnBox B w wr t) : wr.cell? ⟨B, 0, none⟩ = some (.bool t.write) ∧ wr.cell? ⟨B, 1, none⟩ = some (.int .i64 t.gone) ∧ wr.cell? ⟨B, 2, none⟩ = some (.int .i64 t.starved) ∧ wr.cell? ⟨B, 3, none⟩ = some (.int .i64 t.wh) :=
  ⟨cell_of_row _ _ 0 _ _ _ h.b1, cell_of_row _ _ 1 _ _ _ h.b1, cell_of_row _ _ 2 _ _ _ h.b1, cell_of_row _ _ 3 _ _ _ h.b1⟩
theorem TnBox.step {B : Nat} {w wr w' : World} {t : Tn} (h : TnBox B w wr t) (hb : Below wr.heap.size wr w') : TnBox B w w' t :=
  ⟨h.below.trans (hb.mono (by have := h.lt; omega)), by have := hb.size; have := h.lt; omega, (hb.block _ h.lt).trans h.b1⟩
theorem TnBox.start (w : World) (t : Tn) : TnBox w.heap.size w (w.alloc (Obj.cells #[Value.bool t.write, Value.int IntKind.i64 t.gone, Value.int IntKind.i64 t.starved, Value.int IntKind.i64 t.wh] 68)) t :=
  ⟨(Below.refl _ _).alloc (Nat.le_refl _) _, by simp, heap_alloc_new _ _⟩

end Go.Proofs.YtinknleckppciaaGreatDoor
namespace Go.Proofs.YtinknleckppciaaGreatDoor
set_option linter.unusedSimpArgs false
set_option linter.unusedVariables false
open Go.RowKit

def Apart (a b : Rq) : Prop := meetB b.lo b.many a.lo a.many = false
theorem meetB_comm (a b c d : Int) : meetB a b c d = meetB c d a b := by unfold meetB; exact Bool.and_comm _ _
theorem Apart.symm {a b : Rq} (h : Apart a b) : Apart b a := by unfold Apart at *; rw [meetB_comm]; exact h
theorem good_iff (l : List Rq) : goodReqs l = true ↔ (∀ r ∈ l, reqF r = 0) ∧ l.Pairwise Apart := by
  unfold goodReqs
  rw [List.all_eq_true, List.pairwise_iff_getElem]
  constructor
  · intro h
    have key : ∀ i (hi : i < l.length), reqF l[i] = 0 ∧ apartFrom l[i] (l.take i) = true := by
      intro i hi
      have := h i (List.mem_range.2 hi)
      rw [okAt_some (List.getElem?_eq_getElem hi)] at this
      simpa using this
    constructor
    · intro r hr
      obtain ⟨i, hi, rfl⟩ := List.getElem_of_mem hr
      exact (key i hi).1
    · intro i j hi hj hij
      have := (key j hj).2
      unfold apartFrom at this
      rw [List.all_eq_true] at this
      have h2 := this l[i] (List.mem_iff_getElem?.2 ⟨i, by rw [List.getElem?_take, if_pos hij]; exact List.getElem?_eq_getElem hi⟩)
      simpa [Apart] using h2
  · rintro ⟨h1, h2⟩ i hi
    rw [List.mem_range] at hi
    rw [okAt_some (List.getElem?_eq_getElem hi)]
    simp only [Bool.and_eq_true, decide_eq_true_eq]
    refine ⟨h1 _ (List.getElem_mem hi), ?_⟩
    unfold apartFrom
    rw [List.all_eq_true]
    intro q hq
    obtain ⟨j, hj⟩ := List.mem_iff_getElem?.1 hq
    rw [List.getElem?_take] at hj
    split at hj
    · rename_i hji
      rw [List.getElem?_eq_getElem (by omega)] at hj
      cases hj
      have := h2 j i (by omega) hi hji
      simpa [Apart] using this
    · cases hj
theorem good_erase {l : List Rq} (h : goodReqs l = true) (i : Nat) : goodReqs (l.eraseIdx i) = true := by
  rw [good_iff] at *
  exact ⟨fun r hr => h.1 r (List.mem_of_mem_eraseIdx hr), h.2.sublist (List.eraseIdx_sublist _ _)⟩
theorem pairwise_perm {l l' : List Rq} (h : l.Perm l') (hp : l.Pairwise Apart) : l'.Pairwise Apart :=
  (h.pairwise_iff (fun {a b} hab => Apart.symm hab)).1 hp
theorem good_perm {l l' : List Rq} (h : l.Perm l') (hg : goodReqs l = true) : goodReqs l' = true := by
  rw [good_iff] at *
  exact ⟨fun r hr => hg.1 r (h.mem_iff.2 hr), pairwise_perm h hg.2⟩
theorem perm_back {l : List Rq} {i : Nat} {r : Rq} (h : l[i]? = some r) : l.Perm (l.eraseIdx i ++ [r]) := by
  have hi : i < l.length := by
    rcases Nat.lt_or_ge i l.length with h1 | h1
    · exact h1
    · rw [List.getElem?_eq_none h1] at h; cases h
  have e : r = l[i] := by rw [List.getElem?_eq_getElem hi] at h; cases h; rfl
  rw [e, List.eraseIdx_eq_take_drop_succ]
  have h2 : l = l.take i ++ (l[i] :: l.drop (i + 1)) := by rw [← List.drop_eq_getElem_cons hi, List.take_append_drop]
  rw [List.append_assoc]
  conv => lhs; rw [h2]
  exact List.Perm.append_left _ (List.perm_append_comm (l₁ := [l[i]]))

theorem pick_kind {l : List Rq} {t' : Tn} {now : Int} (hg : goodReqs l = true) (h : 0 ≤ oldest l t'.write) : ∃ (j : Nat) (r : Rq), pickM l t' now = j ∧ l[j]? = some r ∧ j < l.length ∧ r.write = t'.write := by
  obtain ⟨o, r, ho, hr, hw, hlt⟩ := oldest_ok h
  unfold pickM
  split
  · exact ⟨o, r, ho, hr, hlt, hw⟩
  · split
    · have h0 : 0 ≤ fromI l t'.write 0 := fromI_some hr hw (good_mem hg hr).span.1
      obtain ⟨j, r', hj, hr', hw', _, hl⟩ := fromI_ok h0
      exact ⟨j, r', hj, hr', hl, hw'⟩
    · rename_i hn
      obtain ⟨j, r', hj, hr', hw', _, hl⟩ := fromI_ok (Int.not_lt.1 hn)
      exact ⟨j, r', hj, hr', hl, hw'⟩

/-- What is known of the one that is next. -/
structure NextIs (l : List Rq) (t : Tn) (now : Int) (j : Nat) (r : Rq) (t' : Tn) : Prop where
  eq : nextM l t now = ((j : Int), t')
  get : l[j]? = some r
  lt : j < l.length
  kind : r.write = t'.write
  gone : 1 ≤ t'.gone ∧ t'.gone ≤ 3
  wh : t'.wh = r.lo + r.many
  on : 1 < t'.gone → t'.write = t.write ∧ t.wh ≤ r.lo
  st : 0 ≤ t.starved → t.starved ≤ 2 → 0 ≤ t'.starved ∧ t'.starved ≤ 2
  st64 : i64 t.starved → i64 t'.starved
theorem turned_starved (l : List Rq) (t : Tn) : ((turnedM l t).starved = t.starved) ∨ (turnedM l t).starved = 0 ∨ ((turnedM l t).starved = t.starved + 1 ∧ t.starved < 2) ∨ (oldest l false < 0 ∧ oldest l true < 0) := by
  unfold turnedM
  split
  · left; rfl
  · rename_i h1
    split
    · right; left; rfl
    · rename_i h2
      right; right
      rcases Int.lt_or_le (oldest l true) 0 with h3 | h3
      · rcases Int.lt_or_le (oldest l false) 0 with h4 | h4
        · right; exact ⟨h4, h3⟩
        · exact absurd ⟨h4, by omega⟩ h1
      · left
        refine ⟨rfl, ?_⟩
        rcases Int.lt_or_le t.starved 2 with h4 | h4
        · exact h4
        · exact absurd ⟨h3, .inr h4⟩ h2
theorem next_is {l : List Rq} (t : Tn) (now : Int) (hg : goodReqs l = true) (hne : l ≠ []) : ∃ j r t', NextIs l t now j r t' := by
  by_cases h : 0 < t.gone ∧ t.gone < 3 ∧ 0 ≤ fromI l t.write t.wh
  · obtain ⟨h1, h2, h3⟩ := h
    obtain ⟨j, r, hj, hr, hw, hlo, hl⟩ := fromI_ok h3
    refine ⟨j, r, { t with gone := t.gone + 1, wh := endOf l (fromI l t.write t.wh) }, ⟨?_, hr, hl, hw, by simp; omega, ?_, fun _ => ⟨rfl, hlo⟩, fun a b => ⟨a, b⟩, id⟩⟩
    · rw [nextM_on h1 h2 h3, hj]
    · show endOf l (fromI l t.write t.wh) = _
      rw [hj, endOf_at hr]
  · obtain ⟨j, r, hj, hr, hl, hw⟩ := pick_kind (now := now) hg (turned_kind (t := t) hne)
    have hk := kinds hne
    refine ⟨j, r, { turnedM l t with gone := 1, wh := endOf l (pickM l (turnedM l t) now) }, ⟨?_, hr, hl, hw, by simp, ?_, by simp, fun a b => ?_, fun a => ?_⟩⟩
    · rw [nextM_new h, hj]
    · show endOf l (pickM l (turnedM l t) now) = _
      rw [hj, endOf_at hr]
    · show 0 ≤ (turnedM l t).starved ∧ (turnedM l t).starved ≤ 2
      rcases turned_starved l t with h | h | h | h <;> omega
    · show i64 (turnedM l t).starved
      unfold i64 at *
      rcases turned_starved l t with h | h | h | h <;> omega
end Go.Proofs.YtinknleckppciaaGreatDoor
namespace Go.Proofs.YtinknleckppciaaGreatDoor
set_option linter.unusedSimpArgs false
set_option linter.unusedVariables false
open Go.RowKit Go.Sort

theorem TnBox.f {B : Nat} {w wr : World} {t : Tn} (h : TnBox B w wr t) : wr.frozen? ⟨B, 0, none⟩ = false ∧ wr.frozen? ⟨B, 1, none⟩ = false ∧ wr.frozen? ⟨B, 2, none⟩ = false ∧ wr.frozen? ⟨B, 3, none⟩ = false :=
  ⟨frozen_of_row _ _ 0 _ _ h.b1, frozen_of_row _ _ 1 _ _ h.b1, frozen_of_row _ _ 2 _ _ h.b1, frozen_of_row _ _ 3 _ _ h.b1⟩
theorem TnBox.put {B : Nat} {w wr : World} {t : Tn} (h : TnBox B w wr t) (t' : Tn) : TnBox B w ((((wr.setCell ⟨B, 0, none⟩ (.bool t'.write)).setCell ⟨B, 1, none⟩ (.int .i64 t'.gone)).setCell ⟨B, 2, none⟩ (.int .i64 t'.starved)).setCell ⟨B, 3, none⟩ (.int .i64 t'.wh)) t' := by
  refine ⟨((((h.below.setCell (Nat.le_refl _) _).setCell (Nat.le_refl _) _).setCell (Nat.le_refl _) _).setCell (Nat.le_refl _) _), by simpa using h.lt, ?_⟩
  have h1 := heap_setCell_same _ _ 0 _ _ (.bool t'.write) h.b1
  have h2 := heap_setCell_same _ _ 1 _ _ (.int .i64 t'.gone) h1
  have h3 := heap_setCell_same _ _ 2 _ _ (.int .i64 t'.starved) h2
  have h4 := heap_setCell_same _ _ 3 _ _ (.int .i64 t'.wh) h3
  rw [h4]; rfl
theorem put_below (B : Nat) (wr : World) (t' : Tn) : Below B wr ((((wr.setCell ⟨B, 0, none⟩ (.bool t'.write)).setCell ⟨B, 1, none⟩ (.int .i64 t'.gone)).setCell ⟨B, 2, none⟩ (.int .i64 t'.starved)).setCell ⟨B, 3, none⟩ (.int .i64 t'.wh)) := by
  repeat ((with_reducible refine Below.setCell ?_ ?hp _); case hp => simp)
  exact Below.refl _ _
theorem put_other (B : Nat) (wr : World) (t' : Tn) (b : Nat) (hb : b ≠ B) : ((((wr.setCell ⟨B, 0, none⟩ (.bool t'.write)).setCell ⟨B, 1, none⟩ (.int .i64 t'.gone)).setCell ⟨B, 2, none⟩ (.int .i64 t'.starved)).setCell ⟨B, 3, none⟩ (.int .i64 t'.wh)).heap[b]? = wr.heap[b]? := by
  repeat (rw [heap_setCell_other _ _ _ _ (by simpa using hb)])
theorem light_len {l : List Rq} (h : lightReqs l = true) : l.length ≤ 10 := by
  unfold lightReqs at h; simp at h; exact h.1

end Go.Proofs.YtinknleckppciaaGreatDoor
