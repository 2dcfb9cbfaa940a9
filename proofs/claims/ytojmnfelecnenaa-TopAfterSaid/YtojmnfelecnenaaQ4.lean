/- queue.Add: first what it calls: does a request meet one of them? queue.Add. The disk's pure model: what is for good, what is now, what isn't for good yet, and the requests that it has. What a call may write: the blocks of a set, and new ones. How a disk lies in memory. The disk starts a request: (*Device).Start, both. The disk starts a request: the reference's Start. Blocks of the call's own, while an object changes: what lies in each, in a list. The disk: New, Peek, Busy, Flush, both programs. A map from numbers to numbers, as a function. What a disk has may be so, whatever is done. The driver: its pure model, and how it lies in memory. -/
import Derived.Test.YtojmnfelecnenaaQ3
import Derived.Test.YtojmnfelecnenaaQ1
import Derived.Outline
import Derived.Deep.MidRow
import Derived.Deep.RegionLaw
import Derived.Maps.OwnSet
namespace Go.Proofs.Ytojmnfelecnenaa
set_option linter.unusedSimpArgs false
set_option linter.unusedVariables false
open Go.RowKit Go.Sort

def meetsR (lo many : Int) (x : Rq) : Bool := meetB x.lo x.many lo many
set_option maxRecDepth 100000 in
theorem meets1_any (S : Nat → Prop) (x : Rq) (v : Value) (B : Nat) (T : TypeId) (lo many : Int) (w : World) (h : ReqAt S w v x) (hB : w.heap[B]? = some (.cells #[.int .i64 lo, .int .i64 many] T (0, 0))) (hx : SpanOk x.lo x.many 4) (hr : SpanOk lo many 4) :
    Calls Try.prog 105 #[v, .pointer (some ⟨B, 0, none⟩)] w (Ret (.bool (meetsR lo many x)) w) := by
  obtain ⟨Ad, cd, At, ct, rfl, _, _, _, _, _, _, _⟩ := h.opened
  obtain ⟨a1, a2, a3, a4, a5⟩ := hx
  obtain ⟨b1, b2, b3, b4, b5⟩ := hr
  have hlt : B < w.heap.size := by
    rcases Nat.lt_or_ge B w.heap.size with h | h
    · exact h
    · rw [Array.getElem?_eq_none h] at hB; cases hB
  have k : ∀ o, (w.alloc o).heap[B]? = some (.cells #[.int .i64 lo, .int .i64 many] T (0, 0)) := fun o => (Below.heap_alloc _ _ _ hlt).trans hB
  have c0 : ∀ o, (w.alloc o).cell? ⟨B, 0, none⟩ = some (.int .i64 lo) := fun o => cell_of_row _ _ 0 _ _ _ (k o)
  have c1 : ∀ o, (w.alloc o).cell? ⟨B, 1, none⟩ = some (.int .i64 many) := fun o => cell_of_row _ _ 1 _ _ _ (k o)
  clear k hB h
  go_enter Try.func105, Try.ntmps105
  go_wp2_with fail
  refine (meet_any _ _ _ _ _ a1 (by omega) (by omega) (by omega) b1 (by omega) (by omega) (by omega)).mono ?_
  rintro e w1 ⟨rfl, hb1⟩
  go_wp2
  go_ret
  exact ⟨rfl, ((Below.refl _ _).alloc (Nat.le_refl _) _).trans (hb1.mono (by simp))⟩

/-- It returns a number of which P holds, and writes nothing that was there. -/
def RetIdxB (P : Int → Prop) (w : World) : Ending → World → Prop := fun e w' => ∃ n : Int, e = .returned (.int .i64 n) ∧ P n ∧ Below w.heap.size w w'
theorem any_take_succ {α : Type} (p : α → Bool) (l : List α) (k : Nat) (x : α) (h : l[k]? = some x) : (l.take (k + 1)).any p = ((l.take k).any p || p x) := by
  rw [List.take_add_one, h]; simp
theorem any_yes {α : Type} (p : α → Bool) (l : List α) (k : Nat) (x : α) (h : l[k]? = some x) (hp : p x = true) : l.any p = true := by
  rw [List.any_eq_true]
  exact ⟨x, List.mem_of_getElem? h, hp⟩
theorem any_end {α : Type} (p : α → Bool) (l : List α) (k : Nat) (hk : l.length ≤ k) (h : (l.take k).any p = false) : l.any p = false := by
  rwa [List.take_of_length_le hk] at h

set_option maxRecDepth 100000 in
theorem index2_any (S : Nat → Prop) (l : List Rq) (v : Value) (B : Nat) (T : TypeId) (lo many : Int) (w : World) (h : ReqsAt S w v l) (hB : w.heap[B]? = some (.cells #[.int .i64 lo, .int .i64 many] T (0, 0))) (hl : ∀ x ∈ l, SpanOk x.lo x.many 4) (hr : SpanOk lo many 4) :
    Calls Try.prog 91 #[v, .func (.func 105) #[] #[.pointer (some ⟨B, 0, none⟩)]] w (RetIdxB (fun n => idxTells n (l.any (meetsR lo many))) w) := by
  obtain ⟨A, cap, rfl, h1, h2⟩ := h.form
  unfold maxLen at h2
  have Hl := Lib.hid h
  have HB := Lib.hid hB
  have Hs := Lib.hid hl
  have Hr := Lib.hid hr
  have hlt : B < w.heap.size := by
    rcases Nat.lt_or_ge B w.heap.size with h | h
    · exact h
    · rw [Array.getElem?_eq_none h] at hB; cases hB
  clear h hB hl hr
  go_enter Try.func91, Try.ntmps91
  go_wp2
  go_loopw [8] (fun i wr => ∃ k : Nat, k ≤ l.length ∧ i = .int .i64 k ∧ Below w.heap.size w wr ∧ Hid ((l.take k).any (meetsR lo many) = false)) (fun i _ => l.length - (intOf i).toNat)
  case atStart => exact ⟨0, by omega, rfl, Below.refl _ _, rfl⟩
  case round =>
    obtain ⟨k, hk, rfl, hw, hall⟩ := hrel
    by_cases hlt : k < l.length
    · obtain ⟨b, off, rfl, _, hb, hc⟩ := (Hl.out.below hw).at_ (by omega)
      have hx : l[k]? = some l[k] := List.getElem?_eq_getElem hlt
      obtain ⟨Ad, cd, At, ct, hok, k0, k1, k2, k3, k4, k5⟩ := hc k _ hx
      have Hok := Lib.hid hok
      clear hc hok
      have Hx := Lib.hid hx
      clear hx
      generalize l[k] = s at *
      have Hsx := Lib.hid (Hs.out s (List.mem_of_getElem? Hx.out))
      go_wp2_with fail
      refine (meets1_any S s _ B T lo many _ Hok.out ((hw.block _ (by assumption)).trans HB.out) Hsx.out Hr.out).mono ?_
      rintro e w1 ⟨rfl, hb1⟩
      have hw1 := hw.trans (hb1.mono hw.size)
      clear k0 k1 k2 k3 k4 k5 hb1
      cases hs : meetsR lo many s with
      | false =>
        have Hm := Lib.hid hs
        clear hs
        go_wp2_with fail
        go_roundw
        case rel => exact ⟨k + 1, by omega, by go_num, hw1, by show _ = false; rw [any_take_succ _ _ _ _ Hx.out, hall.out, Hm.out]; rfl⟩
        case measure => simp [intOf]; omega
      | true =>
        have Hm := Lib.hid hs
        clear hs
        go_wp2_with fail
        go_ret
        refine ⟨k, rfl, ?_, hw1⟩
        rw [any_yes _ _ _ _ Hx.out Hm.out]
        simp [idxTells]
    · go_wp2
      go_ret
      refine ⟨-1, rfl, ?_, hw⟩
      rw [any_end _ _ _ (by omega) hall.out]
      simp [idxTells]

theorem contains2_any (S : Nat → Prop) (l : List Rq) (v : Value) (B : Nat) (T : TypeId) (lo many : Int) (w : World) (h : ReqsAt S w v l) (hB : w.heap[B]? = some (.cells #[.int .i64 lo, .int .i64 many] T (0, 0))) (hl : ∀ x ∈ l, SpanOk x.lo x.many 4) (hr : SpanOk lo many 4) :
    Calls Try.prog 71 #[v, .func (.func 105) #[] #[.pointer (some ⟨B, 0, none⟩)]] w (Ret (.bool (l.any (meetsR lo many))) w) := by
  go_enter Try.func71, Try.ntmps71
  go_wp2_with fail
  refine (index2_any S l _ B T lo many _ h hB hl hr).mono ?_
  rintro e w1 ⟨n, rfl, hn, hb1⟩
  go_wp2_with fail
  go_ret
  refine ⟨?_, hb1⟩
  cases hb : (l.any (meetsR lo many)) with
  | true => rw [hb] at hn; have := hn.2 rfl; simp [this]
  | false => rw [hb] at hn; have : ¬ 0 ≤ n := fun h => by cases hn.1 h
             simp; omega

theorem meets_any (S : Nat → Prop) (l : List Rq) (v : Value) (lo many : Int) (w : World) (h : ReqsAt S w v l) (hl : ∀ x ∈ l, SpanOk x.lo x.many 4) (hr : SpanOk lo many 4) :
    Calls Try.prog 96 #[v, spanV lo many] w (Ret (.bool (l.any (meetsR lo many))) w) := by
  obtain ⟨A, cap, rfl, h1, h2⟩ := h.form
  have H := Lib.hid h
  have Hl := Lib.hid hl
  have Hr := Lib.hid hr
  clear h hl hr
  go_enter Try.func96, Try.ntmps96
  go_wp2_with fail
  have hb0 := (Below.refl w.heap.size w).alloc (Nat.le_refl _) (Obj.cells #[Value.int IntKind.i64 lo, Value.int IntKind.i64 many] 40)
  refine (contains2_any S l _ _ 40 lo many _ (H.out.below hb0) (heap_alloc_new w _) Hl.out Hr.out).mono ?_
  rintro e w1 ⟨rfl, hb1⟩
  have hb2 := hb0.trans (hb1.mono hb0.size)
  go_wp2
  go_ret
  exact ⟨rfl, hb2⟩
end Go.Proofs.Ytojmnfelecnenaa
namespace Go.Proofs.Ytojmnfelecnenaa
set_option linter.unusedSimpArgs false
set_option linter.unusedVariables false
open Go.RowKit Go.Sort

/-- The first of them that goes together with r, does. -/
def mergeIn : List Rq → Rq → Option (List Rq)
  | [], _ => none
  | x :: l, r => match mergeM x r with
    | some m => some (m :: l)
    | none => (mergeIn l r).map (x :: ·)
/-- The list with a request added, or what is wrong. -/
def addM (l : List Rq) (r : Rq) : List Rq × Nat :=
  if reqF r ≠ 0 then ([], reqF r) else if l.any (meetsR r.lo r.many) then ([], 6) else match mergeIn l r with
    | some l' => (l', 0)
    | none => if 6 ≤ l.length then ([], 7) else (l ++ [r], 0)
theorem addM_bad {l : List Rq} {r : Rq} (h : reqF r ≠ 0) : addM l r = ([], reqF r) := by unfold addM; rw [if_pos h]
theorem addM_meets {l : List Rq} {r : Rq} (h : reqF r = 0) (hm : l.any (meetsR r.lo r.many) = true) : addM l r = ([], 6) := by unfold addM; rw [if_neg (by simp [h]), if_pos hm]
theorem addM_merge {l l' : List Rq} {r : Rq} (h : reqF r = 0) (hm : l.any (meetsR r.lo r.many) = false) (hi : mergeIn l r = some l') : addM l r = (l', 0) := by unfold addM; rw [if_neg (by simp [h]), if_neg (by simp [hm]), hi]
theorem addM_full {l : List Rq} {r : Rq} (h : reqF r = 0) (hm : l.any (meetsR r.lo r.many) = false) (hi : mergeIn l r = none) (hl : 6 ≤ l.length) : addM l r = ([], 7) := by unfold addM; rw [if_neg (by simp [h]), if_neg (by simp [hm]), hi]; simp [hl]
theorem addM_new {l : List Rq} {r : Rq} (h : reqF r = 0) (hm : l.any (meetsR r.lo r.many) = false) (hi : mergeIn l r = none) (hl : ¬ 6 ≤ l.length) : addM l r = (l ++ [r], 0) := by unfold addM; rw [if_neg (by simp [h]), if_neg (by simp [hm]), hi]; simp [hl]
def NoMerge (l : List Rq) (r : Rq) (k : Nat) : Prop := ∀ (j : Nat) (x : Rq), j < k → l[j]? = some x → mergeM x r = none
theorem mergeIn_at {r m : Rq} : ∀ {l : List Rq} {k : Nat} {x : Rq}, NoMerge l r k → l[k]? = some x → mergeM x r = some m → mergeIn l r = some (l.set k m)
  | [], k, x, _, h, _ => by simp at h
  | y :: l, 0, x, _, h, hm => by simp at h; subst h; unfold mergeIn; rw [hm]; rfl
  | y :: l, k + 1, x, hn, h, hm => by
    unfold mergeIn
    rw [hn 0 y (by omega) rfl, mergeIn_at (l := l) (k := k) (x := x) (fun j z hj hz => hn (j + 1) z (by omega) (by simpa using hz)) (by simpa using h) hm]
    rfl
theorem mergeIn_none {r : Rq} : ∀ {l : List Rq}, NoMerge l r l.length → mergeIn l r = none
  | [], _ => rfl
  | y :: l, hn => by
    unfold mergeIn
    rw [hn 0 y (by simp) rfl, mergeIn_none (l := l) (fun j z hj hz => hn (j + 1) z (by simp; omega) (by simpa using hz))]
    rfl

theorem own_setCell {w : World} {base : Nat} {e : TypeId} {size n g cap : Nat} {xs : List Value} (h : w.ownsRow base e size (.slice (some ⟨g, 0, none⟩) n cap) n xs) {i : Nat} (hi : i < n * size) (u : Value) :
    (w.setCell ⟨g, i, none⟩ u).ownsRow base e size (.slice (some ⟨g, 0, none⟩) n cap) n (xs.set i u) := by
  obtain ⟨h1, h2⟩ := h
  refine ⟨by simpa using h1, ?_⟩
  rcases h2 with ⟨h2, h3⟩ | ⟨g', cap', cur, hv, hb, hh, hnc, hcm, hcs, htake⟩
  · exact .inl ⟨h2, h3⟩
  · cases hv
    refine .inr ⟨g, cap, cur.setIfInBounds i u, rfl, hb, heap_setCell_same _ _ i _ _ u hh, hnc, hcm, by simpa using hcs, ?_⟩
    rw [Array.toList_setIfInBounds, List.take_set, htake]
theorem flat_set (cs : List Rc) (c : Rc) : ∀ (k : Nat), k < cs.length → ((((((cs.flatMap Rc.cells).set (k * 6) (.bool c.r.write)).set (k * 6 + 1) (.int .i64 c.r.lo)).set (k * 6 + 2) (.int .i64 c.r.many)).set (k * 6 + 3) c.dv).set (k * 6 + 4) c.tv).set (k * 6 + 5) (.int .i64 c.r.born) = (cs.set k c).flatMap Rc.cells := by
  induction cs with
  | nil => intro k h; simp at h
  | cons a cs ih =>
    intro k hk
    cases k with
    | zero => simp [Rc.cells]
    | succ k =>
      rw [List.set_cons_succ, List.flatMap_cons, List.flatMap_cons, ← ih k (by simpa using hk)]
      have e : a.cells.length = 6 := rfl
      have s : ∀ (X : List Value) (j : Nat) (u : Value), (a.cells ++ X).set ((k + 1) * 6 + j) u = a.cells ++ X.set (k * 6 + j) u := by
        intro X j u
        rw [List.set_append_right _ _ (by rw [e]; omega)]
        congr 2
        rw [e]; omega
      have s0 : ∀ (X : List Value) (u : Value), (a.cells ++ X).set ((k + 1) * 6) u = a.cells ++ X.set (k * 6) u := fun X u => s X 0 u
      rw [s0, s, s, s, s, s]
theorem own_cap {w : World} {base : Nat} {e : TypeId} {size n c : Nat} {A : Option Addr} {xs : List Value} (h : w.ownsRow base e size (.slice A n c) n xs) : n ≤ c ∧ c ≤ 9223372036854775807 := by
  rcases h.2 with ⟨hv, h0⟩ | ⟨g, cap, cur, hv, hb, hh, hnc, hcm, _⟩
  · injection hv; omega
  · injection hv; unfold maxLen at hcm; omega
theorem own_row {w : World} {base : Nat} {e : TypeId} {size n g cap : Nat} {xs : List Value} (h : w.ownsRow base e size (.slice (some ⟨g, 0, none⟩) n cap) n xs) : base ≤ g ∧ g < w.heap.size ∧ ∃ cur : Array Value, w.heap[g]? = some (.cells cur e (0, 0)) := by
  rcases h.2 with ⟨hv, h0⟩ | ⟨g', cap', cur, hv, hb, hh, hnc, hcm, _⟩
  · injection hv with h1; cases h1
  · cases hv; exact ⟨hb, (h.lt g rfl).2, cur, hh⟩
theorem own_req_at {S : Nat → Prop} {w : World} {base : Nat} {e : TypeId} {n g cap k : Nat} {cs : List Rc} {c : Rc} (h : w.ownsRow base e 6 (.slice (some ⟨g, 0, none⟩) n cap) n (cs.flatMap Rc.cells)) (hc : cs[k]? = some c) (hok : RcOk S w c) :
    ∃ Ad cd At ct, ReqAt S w (rqV c.r (.slice Ad c.r.data.length cd) (.slice At c.r.tags.length ct)) c.r ∧
      w.cell? ⟨g, k * 6, none⟩ = some (.bool c.r.write) ∧ w.cell? ⟨g, k * 6 + 1, none⟩ = some (.int .i64 c.r.lo) ∧ w.cell? ⟨g, k * 6 + 2, none⟩ = some (.int .i64 c.r.many) ∧
      w.cell? ⟨g, k * 6 + 3, none⟩ = some (.slice Ad c.r.data.length cd) ∧ w.cell? ⟨g, k * 6 + 4, none⟩ = some (.slice At c.r.tags.length ct) ∧ w.cell? ⟨g, k * 6 + 5, none⟩ = some (.int .i64 c.r.born) := by
  have hg := fun j hj => flat_get cs k j c hc hj
  have hcell : ∀ j u, (cs.flatMap Rc.cells)[j]? = some u → w.cell? ⟨g, j, none⟩ = some u := fun j u hu => by
    have := h.cells (g := g) rfl j u hu
    simpa [Go.WideShapes.add_plain] using this
  obtain ⟨Ad, cd, e1, _, _⟩ := hok.data.form
  obtain ⟨At, ct, e2, _, _⟩ := hok.tags.form
  exact ⟨Ad, cd, At, ct, by rw [← e1, ← e2]; exact hok.req, hcell _ _ (hg 0 (by omega)), hcell _ _ (hg 1 (by omega)), hcell _ _ (hg 2 (by omega)), by rw [← e1]; exact hcell _ _ (hg 3 (by omega)), by rw [← e2]; exact hcell _ _ (hg 4 (by omega)), hcell _ _ (hg 5 (by omega))⟩
theorem ReqAt.rc {S : Nat → Prop} {w : World} {r : Rq} {dv tv : Value} (h : ReqAt S w (rqV r dv tv) r) : RcOk S w ⟨r, dv, tv⟩ := by
  obtain ⟨c, rfl, e, hok⟩ := h
  simp only [rqV, Value.agg.injEq, Array.mk.injEq, List.cons.injEq] at e
  obtain ⟨c1, c2, c3⟩ := c
  simp only at e
  rw [e.2.2.2.1, e.2.2.2.2.1]
  exact hok
/-- One request of a row is written. -/
theorem own_put {w : World} {base g n cap k : Nat} {e : TypeId} {cs : List Rc} (h : w.ownsRow base e 6 (.slice (some ⟨g, 0, none⟩) n cap) n (cs.flatMap Rc.cells)) (c : Rc) (hk : k < cs.length) (hn : cs.length = n) :
    ((((((w.setCell ⟨g, k * 6, none⟩ (.bool c.r.write)).setCell ⟨g, k * 6 + 1, none⟩ (.int .i64 c.r.lo)).setCell ⟨g, k * 6 + 2, none⟩ (.int .i64 c.r.many)).setCell ⟨g, k * 6 + 3, none⟩ c.dv).setCell ⟨g, k * 6 + 4, none⟩ c.tv).setCell ⟨g, k * 6 + 5, none⟩ (.int .i64 c.r.born)).ownsRow base e 6 (.slice (some ⟨g, 0, none⟩) n cap) n ((cs.set k c).flatMap Rc.cells) := by
  rw [← flat_set cs c k hk]
  exact own_setCell (own_setCell (own_setCell (own_setCell (own_setCell (own_setCell h (by omega) _) (by omega) _) (by omega) _) (by omega) _) (by omega) _) (by omega) _
theorem put6_other (w : World) (g k : Nat) (v0 v1 v2 v3 v4 v5 : Value) : ∀ b, b ≠ g → ((((((w.setCell ⟨g, k, none⟩ v0).setCell ⟨g, k + 1, none⟩ v1).setCell ⟨g, k + 2, none⟩ v2).setCell ⟨g, k + 3, none⟩ v3).setCell ⟨g, k + 4, none⟩ v4).setCell ⟨g, k + 5, none⟩ v5).heap[b]? = w.heap[b]? := by
  intro b hb
  repeat (rw [heap_setCell_other _ _ b _ (by simpa using hb)])
theorem put6_below (w : World) (g k B : Nat) (v0 v1 v2 v3 v4 v5 : Value) (hB : B ≤ g) : Below B w ((((((w.setCell ⟨g, k, none⟩ v0).setCell ⟨g, k + 1, none⟩ v1).setCell ⟨g, k + 2, none⟩ v2).setCell ⟨g, k + 3, none⟩ v3).setCell ⟨g, k + 4, none⟩ v4).setCell ⟨g, k + 5, none⟩ v5) :=
  ((((((Below.refl _ _).setCell hB _).setCell hB _).setCell hB _).setCell hB _).setCell hB _).setCell hB _
/-- A row of one request, as a literal makes it. -/
theorem rd_row6 (w : World) (b : Bool) (lo many : Int) (dv tv : Value) (born : Int) (T : TypeId) : Rd (fun _ => True) (w.alloc (Obj.cells #[Value.bool b, Value.int IntKind.i64 lo, Value.int IntKind.i64 many, dv, tv, Value.int IntKind.i64 born] T)) 6 (.slice (some ⟨w.heap.size, 0, none⟩) 1 1) 1 [.bool b, .int .i64 lo, .int .i64 many, dv, tv, .int .i64 born] :=
  ⟨_, 1, rfl, Nat.le_refl _, by simp [maxLen], rfl, fun _ => ⟨w.heap.size, 0, rfl, trivial, fun j u hu => by
    rw [Nat.zero_add, cell_of_row _ _ j _ _ _ (heap_alloc_new w _)]
    simpa using hu⟩⟩
theorem one6 (b : Bool) (lo many born : Int) (Ad At : Option Addr) (n cd m ct : Nat) : ∀ u ∈ [Value.bool b, .int .i64 lo, .int .i64 many, .slice Ad n cd, .slice At m ct, .int .i64 born], u.oneCell' = true := by
  intro u hu
  simp only [List.mem_cons, List.not_mem_nil, or_false] at hu
  rcases hu with rfl | rfl | rfl | rfl | rfl | rfl <;> rfl
/-- It returns a list of requests that lies in S, and an error. -/
def RetAdd (S : Nat → Prop) (o : List Rq × Nat) (w : World) : Ending → World → Prop := fun E w' => ∃ v, E = .returned (.tuple #[v, errV o.2]) ∧ ReqsAt S w' v o.1 ∧ Below w.heap.size w w'
theorem reqs_nil {S : Nat → Prop} {w : World} : ReqsAt S w (.slice none 0 0) [] := ⟨[], rfl, Rd.nil, by simp⟩

set_option maxRecDepth 100000 in
set_option maxHeartbeats 4000000 in
theorem add_any (S : Nat → Prop) (l : List Rq) (r : Rq) (v rv : Value) (w : World) (hS : ∀ b, w.heap.size ≤ b → S b) (h : ReqsAt S w v l) (hr : ReqAt S w rv r) (hl : ∀ x ∈ l, ReqOk x) (hn : l.length ≤ 60000) :
    Calls Try.prog 73 #[v, rv] w (RetAdd S (addM l r) w) := by
  obtain ⟨Ad, cd, At, ct, rfl, _, _, _, _, _, _, _⟩ := hr.opened
  obtain ⟨A, cap, rfl, _, hcap⟩ := h.form
  unfold maxLen at hcap
  have HS := Lib.hid hS
  have H := Lib.hid h
  have Hr := Lib.hid hr
  have Hl := Lib.hid hl
  clear h hr hS hl
  go_enter Try.func73, Try.ntmps73
  go_wp2_with fail
  have L := (Lay.refl w).alloc' w.heap.size #[Value.bool r.write, Value.int IntKind.i64 r.lo, Value.int IntKind.i64 r.many, Value.slice Ad r.data.length cd, Value.slice At r.tags.length ct, Value.int IntKind.i64 r.born] 44 rfl
  generalize World.alloc _ _ = W1 at L ⊢
  refine (reqcheck_any S r _ _ (Hr.out.below L.below)).mono ?_
  rintro e w2 ⟨rfl, hb2⟩
  have L2 := L.step hb2
  clear L hb2
  by_cases g1 : reqF r = 0
  rotate_left
  · have g1' : (reqF r == 0) = false := by simpa using g1
    have G1 := Lib.hid g1
    clear g1
    go_wp2
    refine bodyPost_ret (v := .tuple #[.slice none 0 0, errV (reqF r)]) (by simp [results, Try.results73, go_sem]) rfl ?_
    rw [addM_bad G1.out]
    exact ⟨_, rfl, reqs_nil, L2.below⟩
  rw [g1]
  have G1 := Lib.hid g1
  have Gr := Lib.hid (reqF_zero g1)
  clear g1
  obtain ⟨c0, c1, c2, c3, c4, c5⟩ := L2.c6 0 rfl
  go_wp2_with fail
  refine (meets_any S l _ r.lo r.many _ (H.out.below L2.below) (fun x hx => (Hl.out x hx).span) Gr.out.span).mono ?_
  rintro e w3 ⟨rfl, hb3⟩
  have L3 := L2.step hb3
  clear L2 hb3 c0 c1 c2 c3 c4 c5
  cases g2 : l.any (meetsR r.lo r.many) with
  | true =>
    have G2 := Lib.hid g2
    clear g2
    go_wp2
    refine bodyPost_ret (v := .tuple #[.slice none 0 0, .iface 78 (.int .i64 6)]) (by simp [results, Try.results73, go_sem]) rfl ?_
    rw [addM_meets G1.out G2.out]
    exact ⟨_, rfl, reqs_nil, L3.below⟩
  | false =>
    have G2 := Lib.hid g2
    clear g2
    go_wp2_with fail
    obtain ⟨cs, hcs, hrd, hok⟩ := H.out
    have hlen : cs.length = l.length := by rw [← hcs, List.length_map]
    have Hone := Lib.hid (cells_one hok)
    refine (clone_any S _ cs.length (cs.flatMap Rc.cells) _ (hrd.below L3.below) Hone.out (by omega)).mono ?_
    rintro e w4 ⟨v4, rfl, hown, hb4⟩
    rw [hlen] at hown
    have L4 := L3.step hb4
    have Hok := Lib.hid (fun c hc => (hok c hc).lt)
    have Hcs := Lib.hid hcs
    have Hlen := Lib.hid hlen
    have Hbase := Lib.hid L3.size
    have H34 := Lib.hid hb4.size
    clear hrd hok hcs hlen L3 hb4
    obtain ⟨A4, cp4, rfl⟩ := own_slice hown
    obtain ⟨hcp1, hcp2⟩ := own_cap hown
    have Hown := Lib.hid hown
    clear hown
    go_wp2_with fail
    have HL := Lib.hid L4
    clear L4
    go_loopw [25] (fun i wr => ∃ k : Nat, k ≤ l.length ∧ i = .int .i64 k ∧ Below w4.heap.size w4 wr ∧ Hid (NoMerge l r k)) (fun i _ => l.length - (intOf i).toNat)
    case atStart => exact ⟨0, by omega, rfl, Below.refl _ _, fun j x h => by omega⟩
    case round =>
      obtain ⟨k, hk, rfl, hw, hno⟩ := hrel
      by_cases hlt : k < l.length
      · obtain ⟨g, cp, e, hg1, hg2, _, _⟩ := own_form Hown.out (by omega)
        injection e with e1 e2 e3
        subst e1 e3
        have hkc : k < cs.length := by have := Hlen.out; omega
        have hck : cs[k]? = some cs[k] := List.getElem?_eq_getElem hkc
        generalize cs[k] = c at hck
        have hxk : l[k]? = some c.r := by rw [← Hcs.out, List.getElem?_map, hck]; rfl
        have Hck := Lib.hid hck
        have Hxk := Lib.hid hxk
        have Gx := Lib.hid (Hl.out _ (List.mem_of_getElem? hxk))
        have hownr : wr.ownsRow w3.heap.size 44 6 (.slice (some ⟨g, 0, none⟩) l.length cp4) l.length (cs.flatMap Rc.cells) := own_keep Hown.out (hw.block _ hg2)
        have hLr := HL.out.step hw
        have hokr := (Hok.out c (List.mem_of_getElem? hck)).below hLr.below
        obtain ⟨Xd, xd, Xt, xt, hreq, k0, k1, k2, k3, k4, k5⟩ := own_req_at hownr hck hokr
        have Hownr := Lib.hid hownr
        have Hx := Lib.hid hreq
        have HLr := Lib.hid hLr
        clear hck hxk hownr hokr hreq
        obtain ⟨c0, c1, c2, c3, c4, c5⟩ := hLr.ca6 0 rfl
        clear hLr
        go_wp2_with fail
        have hLa := HLr.out.alloc' wr.heap.size #[Value.bool c.r.write, Value.int IntKind.i64 c.r.lo, Value.int IntKind.i64 c.r.many, Value.slice Xd c.r.data.length xd, Value.slice Xt c.r.tags.length xt, Value.int IntKind.i64 c.r.born] 44 rfl
        have hba := (Below.refl wr.heap.size wr).alloc (Nat.le_refl _) (Obj.cells #[Value.bool c.r.write, Value.int IntKind.i64 c.r.lo, Value.int IntKind.i64 c.r.many, Value.slice Xd c.r.data.length xd, Value.slice Xt c.r.tags.length xt, Value.int IntKind.i64 c.r.born] 44)
        generalize World.alloc _ _ = Wa at hLa hba ⊢
        clear k0 k1 k2 k3 k4 k5 c0 c1 c2 c3 c4 c5
        have hgb : w3.heap.size ≤ g := (own_row Hown.out).1
        have hS3 := Hbase.out
        have hwr4 := hw.size
        refine (merge_any (fun b => S b ∧ b ≠ g) c.r r _ _ _ (fun b hb => ⟨HS.out b (by have := hLa.size; omega), by have := hba.size; omega⟩) ((Hx.out.below hba).more (fun b hb => ⟨hb.1, by have := hb.2; omega⟩)) ((Hr.out.lt.more (S' := fun b => S b ∧ b ≠ g) (fun b hb => ⟨hb.1, by have := hb.2; omega⟩)).below hLa.below) Gx.out Gr.out).mono ?_
        rintro e w6 ⟨vm, rfl, hm, hb6⟩
        have hL6 := hLa.step hb6
        have hw6 : Below wr.heap.size wr w6 := hba.trans (hb6.mono hba.size)
        obtain ⟨Md, md, Mt, mt, rfl, _, _, _, _, _, _, _⟩ := hm.opened
        have Hm := Lib.hid hm
        have hown6 : w6.ownsRow w3.heap.size 44 6 (.slice (some ⟨g, 0, none⟩) l.length cp4) l.length (cs.flatMap Rc.cells) := own_keep Hownr.out (hw6.block _ (by omega))
        have Hown6 := Lib.hid hown6
        have HL6 := Lib.hid hL6
        have Hw6 := Lib.hid hw6
        clear hm hLa hba hb6 Hownr hw6 hL6
        cases hmg : mergeM c.r r with
        | none =>
          have Hmg := Lib.hid hmg
          clear hmg hown6
          rw [Hmg.out] at Hm
          simp only [Hmg.out, Option.isSome, Option.getD]
          simp only [Option.getD] at Hm
          go_wp2_with fail
          have hbz := (Below.refl w6.heap.size w6).alloc (Nat.le_refl _) (Obj.cells #[Value.bool false, Value.int IntKind.i64 0, Value.int IntKind.i64 0, Value.slice Md 0 md, Value.slice Mt 0 mt, Value.int IntKind.i64 0] 44)
          go_roundw
          case rel => exact ⟨k + 1, by omega, by go_num, (hw.trans (Hw6.out.mono hw.size)).trans (hbz.mono ((hw.trans (Hw6.out.mono hw.size)).size)), fun j y hj hy => by
            rcases Nat.lt_or_ge j k with h | h
            · exact hno.out j y h hy
            · obtain rfl : j = k := by omega
              have h1 := Hxk.out
              rw [hy] at h1
              cases h1
              exact Hmg.out⟩
          case measure => simp [intOf]; omega
        | some m =>
          have Hmg := Lib.hid hmg
          rw [hmg] at Hm
          simp only [hmg, Option.isSome, Option.getD]
          clear hmg
          simp only [Option.getD] at Hm
          obtain ⟨_, hg6, cur, hcur⟩ := own_row hown6
          have hrow : ∀ o, (w6.alloc o).heap[g]? = some (.cells cur 44 (0, 0)) := fun o => (Below.heap_alloc _ _ _ hg6).trans hcur
          have hfz : ∀ o j, (w6.alloc o).frozen? ⟨g, j, none⟩ = false := fun o j => frozen_of_row _ _ j _ _ (hrow o)
          have hfz6 : ∀ j, w6.frozen? ⟨g, j, none⟩ = false := fun j => frozen_of_row _ _ j _ _ hcur
          obtain ⟨_, _, _, _, _, k0, k1, k2, k3, k4, k5⟩ := own_req_at hown6 Hck.out (((Hok.out c (List.mem_of_getElem? Hck.out)).below HLr.out.below).below Hw6.out)
          have k0 : ∀ o, (w6.alloc o).cell? ⟨g, k * 6, none⟩ = some _ := fun o => (World.cell?_of_block (Below.heap_alloc _ _ _ hg6)).trans k0
          have k1 : ∀ o, (w6.alloc o).cell? ⟨g, k * 6 + 1, none⟩ = some _ := fun o => (World.cell?_of_block (Below.heap_alloc _ _ _ hg6)).trans k1
          have k2 : ∀ o, (w6.alloc o).cell? ⟨g, k * 6 + 2, none⟩ = some _ := fun o => (World.cell?_of_block (Below.heap_alloc _ _ _ hg6)).trans k2
          have k3 : ∀ o, (w6.alloc o).cell? ⟨g, k * 6 + 3, none⟩ = some _ := fun o => (World.cell?_of_block (Below.heap_alloc _ _ _ hg6)).trans k3
          have k4 : ∀ o, (w6.alloc o).cell? ⟨g, k * 6 + 4, none⟩ = some _ := fun o => (World.cell?_of_block (Below.heap_alloc _ _ _ hg6)).trans k4
          have k5 : ∀ o, (w6.alloc o).cell? ⟨g, k * 6 + 5, none⟩ = some _ := fun o => (World.cell?_of_block (Below.heap_alloc _ _ _ hg6)).trans k5
          clear hrow hcur hown6
          go_wp2_with fail
          clear k0 k1 k2 k3 k4 k5 hfz hfz6
          refine bodyPost_ret (v := .tuple #[.slice (some ⟨g, 0, none⟩) l.length cp4, .nilIface]) (by simp [results, Try.results73, go_sem]) rfl ?_
          have hP := own_put Hown6.out ⟨m, .slice Md m.data.length md, .slice Mt m.tags.length mt⟩ hkc Hlen.out
          have hPo := put6_other w6 g (k * 6) (.bool m.write) (.int .i64 m.lo) (.int .i64 m.many) (.slice Md m.data.length md) (.slice Mt m.tags.length mt) (.int .i64 m.born)
          have hPb := put6_below w6 g (k * 6) w.heap.size (.bool m.write) (.int .i64 m.lo) (.int .i64 m.many) (.slice Md m.data.length md) (.slice Mt m.tags.length mt) (.int .i64 m.born) (by omega)
          simp only at hP
          generalize World.setCell _ _ _ = W7 at hP hPo hPb ⊢
          have hb8 := (Below.refl W7.heap.size W7).alloc (Nat.le_refl _) (Obj.cells #[Value.bool m.write, Value.int IntKind.i64 m.lo, Value.int IntKind.i64 m.many, Value.slice Md m.data.length md, Value.slice Mt m.tags.length mt, Value.int IntKind.i64 m.born] 44)
          generalize World.alloc _ _ = W8 at hb8 ⊢
          have hg7 := (own_row hP).2.1
          have hP8 := own_keep hP (hb8.block _ hg7)
          have h60 : w.heap.size ≤ w6.heap.size := HL6.out.size
          have hB7 : Below w.heap.size w W7 := HL6.out.below.trans hPb
          have hB8 : Below w.heap.size w W8 := hB7.trans (hb8.mono hB7.size)
          rw [addM_merge G1.out G2.out (mergeIn_at hno.out Hxk.out Hmg.out)]
          refine ⟨_, rfl, ⟨cs.set k ⟨m, .slice Md m.data.length md, .slice Mt m.tags.length mt⟩, ?_, ?_, ?_⟩, hB8⟩
          · rw [List.map_set, Hcs.out]
          · rw [List.length_set, Hlen.out]
            exact Rd.of_own _ (fun b hb => HS.out b (by omega)) hP8
          · intro c' hc'
            rcases List.mem_or_eq_of_mem_set hc' with h | rfl
            · exact ((Hok.out c' h).below hB8).more (fun b hb => hb.1)
            · refine RcOk.more (S := fun b => S b ∧ b ≠ g) (Hm.rc.keep (fun b hb hlt => ?_)) (fun b hb => hb.1)
              have h76 := hPb.size
              rw [hb8.block _ (by omega), hPo b hb.2]
      · obtain rfl : k = l.length := by omega
        have hnone := Lib.hid (mergeIn_none hno.out)
        by_cases h6 : 6 ≤ l.length
        · have h6' : decide ((6 : Int) ≤ (l.length : Int)) = true := by simp; omega
          go_wp2_with fail
          refine bodyPost_ret (v := .tuple #[.slice none 0 0, .iface 78 (.int .i64 7)]) (by simp [results, Try.results73, go_sem]) rfl ?_
          rw [addM_full G1.out G2.out hnone.out h6]
          exact ⟨_, rfl, reqs_nil, HL.out.below.trans (hw.mono HL.out.size)⟩
        · have h6' : decide ((6 : Int) ≤ (l.length : Int)) = false := by simp; omega
          obtain ⟨c0, c1, c2, c3, c4, c5⟩ := (HL.out.step hw).c6 0 rfl
          obtain ⟨i0, hi0, hz0, hz1, hz2⟩ := info_parts reqInfo
          have hbr := (Below.refl wr.heap.size wr).alloc (Nat.le_refl _) (Obj.cells #[Value.bool r.write, Value.int IntKind.i64 r.lo, Value.int IntKind.i64 r.many, Value.slice Ad r.data.length cd, Value.slice At r.tags.length ct, Value.int IntKind.i64 r.born] 44)
          have hwb := hw.trans (hbr.mono hw.size)
          have Hownr := Lib.hid (own_keepL Hown.out (fun g _ hg => hwb.block g hg))
          have Hrow := Lib.hid (rd_row6 wr r.write r.lo r.many (.slice Ad r.data.length cd) (.slice At r.tags.length ct) r.born 44)
          have Hsz : Hid (w3.heap.size ≤ (wr.alloc (Obj.cells #[Value.bool r.write, Value.int IntKind.i64 r.lo, Value.int IntKind.i64 r.many, Value.slice Ad r.data.length cd, Value.slice At r.tags.length ct, Value.int IntKind.i64 r.born] 44)).heap.size) := (by have h1 := hwb.size; have h2 := H34.out; omega : _ ≤ _)
          have H1 := Lib.hid (one6 r.write r.lo r.many r.born Ad At r.data.length cd r.tags.length ct)
          clear hbr
          go_wp2_with (at_builtin; refine wpList_append_rd (S := fun _ => True) _ rfl (.tmp 47) (.tmp 49) _ rfl w3.heap.size 44 i0 _ 6 80 Try.underlying35 hi0 hz0 hz1 hz2 rfl (by omega) _ l.length (cs.flatMap Rc.cells) rfl Hownr.out _ 1 _ rfl Hrow.out H1.out (by simp only [maxLen]; omega) (by omega) Hsz.out ?_; intro v9 w9 hown9 hg9 hat9)
          have hB9 : Below w.heap.size w w9 := (HL.out.below.trans (hwb.mono HL.out.size)).grown hg9 (by have h1 := hwb.size; have h2 := HL.out.size; omega) (fun k hk => by have h1 := (Hownr.out.lt k hk).1; have h2 := Hbase.out; omega)
          refine bodyPost_ret (v := .tuple #[v9, .nilIface]) (by simp [results, Try.results73, go_sem]) rfl ?_
          rw [addM_new G1.out G2.out hnone.out h6]
          refine ⟨_, rfl, ⟨cs ++ [⟨r, .slice Ad r.data.length cd, .slice At r.tags.length ct⟩], ?_, ?_, ?_⟩, hB9⟩
          · rw [List.map_append, Hcs.out]; rfl
          · rw [List.length_append, Hlen.out, List.flatMap_append]
            have := Rd.of_own (S := S) _ (fun b hb => HS.out b (by have := Hbase.out; omega)) hown9
            simpa [Rc.cells] using this
          · intro c' hc'
            rcases List.mem_append.1 hc' with h | h
            · exact ((Hok.out c' h).below hB9).more (fun b hb => hb.1)
            · simp at h
              subst h
              exact Hr.out.rc.below hB9
end Go.Proofs.Ytojmnfelecnenaa
namespace Go.Proofs.Ytojmnfelecnenaa

structure Dv where
  kept : List ByteArray
  now : List ByteArray
  waits : List (Nat × ByteArray)
  l : List Rq
/-- What came of a request. -/
structure Rs where
  req : Rq
  data : List ByteArray
  err : Nat
def zeroRqM : Rq := ⟨false, 0, 0, [], [], 0⟩
def zeroRs : Rs := ⟨zeroRqM, [], 0⟩

namespace Dv
def new : Dv := ⟨List.replicate 32 ⟨#[]⟩, List.replicate 32 ⟨#[]⟩, [], []⟩
def start (d : Dv) (r : Rq) : Dv × Nat := if d.l.length = 2 then (d, 7) else ({ d with l := d.l ++ [r] }, 0)
def put (d : Dv) (p : Nat) (s : ByteArray) : Dv := { d with now := d.now.set p s, waits := d.waits ++ [(p, s)] }
def wrote : Dv → Nat → List ByteArray → Dv
  | d, _, [] => d
  | d, p, s :: l => (d.put p s).wrote (p + 1) l
def reads (d : Dv) (p n : Nat) : List ByteArray := (d.now.drop p).take n
def drop (d : Dv) (i : Nat) : Dv := { d with l := d.l.eraseIdx i }
/-- A request is ended: what the disk has then, what came of it. -/
def ended (d : Dv) (r : Rq) (i : Nat) (fault : Bool) : Dv × Rs :=
  if fault then (d.drop i, ⟨r, [], 8⟩)
  else if r.write then ((d.drop i).wrote r.lo.toNat r.data, ⟨r, [], 0⟩)
  else (d.drop i, ⟨r, d.reads r.lo.toNat r.many.toNat, 0⟩)
def endAt (d : Dv) (i : Int) (fault : Bool) : Dv × Rs × Nat :=
  if i < 0 then (d, zeroRs, 5) else match d.l[i.toNat]? with
    | none => (d, zeroRs, 5)
    | some r => ((d.ended r i.toNat fault).1, (d.ended r i.toNat fault).2, 0)
def flush (d : Dv) : Dv := { d with kept := d.now, waits := [] }
def bit (keep i : Nat) : Bool := keep / 2 ^ (i % 64) % 2 == 1
def keepFrom (keep : Nat) : List ByteArray → List (Nat × ByteArray) → Nat → List ByteArray
  | k, [], _ => k
  | k, (p, s) :: l, i => keepFrom keep (if bit keep i then k.set p s else k) l (i + 1)
def crash (d : Dv) (keep : Nat) : Dv := ⟨keepFrom keep d.kept d.waits 0, keepFrom keep d.kept d.waits 0, [], []⟩
def peek (d : Dv) (i : Nat) : ByteArray := d.now.getD i ⟨#[]⟩
theorem wrote_app (s : ByteArray) : ∀ (l : List ByteArray) (d : Dv) (p : Nat), d.wrote p (l ++ [s]) = (d.wrote p l).put (p + l.length) s
  | [], d, p => by simp [wrote]
  | x :: l, d, p => by
    simp only [List.cons_append, wrote, List.length_cons]
    rw [wrote_app s l]
    congr 1
    omega
theorem wrote_succ {d : Dv} {p k : Nat} {l : List ByteArray} {s : ByteArray} (h : l[k]? = some s) : d.wrote p (l.take (k + 1)) = (d.wrote p (l.take k)).put (p + k) s := by
  have hk := (List.getElem?_eq_some_iff.1 h).1
  rw [List.take_add_one, h, Option.toList_some, wrote_app, List.length_take, Nat.min_eq_left (by omega)]
theorem wrote_same : ∀ (l : List ByteArray) (d : Dv) (p : Nat), (d.wrote p l).kept = d.kept ∧ (d.wrote p l).l = d.l ∧ (d.wrote p l).now.length = d.now.length ∧ (d.wrote p l).waits.length = d.waits.length + l.length
  | [], d, p => by simp [wrote]
  | x :: l, d, p => by
    obtain ⟨h1, h2, h3, h4⟩ := wrote_same l (d.put p x) (p + 1)
    simp only [wrote]
    refine ⟨h1, h2, by rw [h3]; simp [put], by rw [h4]; simp [put]; omega⟩
end Dv

namespace Dv
theorem keepFrom_app (keep p : Nat) (s : ByteArray) : ∀ (l : List (Nat × ByteArray)) (K : List ByteArray) (i : Nat), keepFrom keep K (l ++ [(p, s)]) i = if bit keep (i + l.length) then (keepFrom keep K l i).set p s else keepFrom keep K l i
  | [], K, i => by simp [keepFrom]
  | (q, u) :: l, K, i => by
    simp only [List.cons_append, keepFrom, List.length_cons]
    rw [keepFrom_app keep p s l, show i + 1 + l.length = i + (l.length + 1) by omega]
theorem keepFrom_succ {keep k p : Nat} {s : ByteArray} {l : List (Nat × ByteArray)} {K : List ByteArray} (h : l[k]? = some (p, s)) : keepFrom keep K (l.take (k + 1)) 0 = if bit keep k then (keepFrom keep K (l.take k) 0).set p s else keepFrom keep K (l.take k) 0 := by
  have hk := (List.getElem?_eq_some_iff.1 h).1
  rw [List.take_add_one, h, Option.toList_some, keepFrom_app, List.length_take, Nat.min_eq_left (by omega), Nat.zero_add]
theorem keepFrom_len (keep : Nat) : ∀ (l : List (Nat × ByteArray)) (K : List ByteArray) (i : Nat), (keepFrom keep K l i).length = K.length
  | [], _, _ => rfl
  | (p, s) :: l, K, i => by
    rw [keepFrom, keepFrom_len keep l]
    split <;> simp
end Dv
/-- What a disk has may be so. -/
structure DvOk (d : Dv) : Prop where
  kept : d.kept.length = 32
  now : d.now.length = 32
  keptS : ∀ s ∈ d.kept, s.size ≤ 16
  nowS : ∀ s ∈ d.now, s.size ≤ 16
  waits : ∀ p ∈ d.waits, p.1 < 32 ∧ p.2.size ≤ 16
  l : ∀ r ∈ d.l, reqF r = 0
  two : d.l.length ≤ 2
end Go.Proofs.Ytojmnfelecnenaa
namespace Go.Proofs.Ytojmnfelecnenaa
open Go.RowKit

/-- Of what was there only blocks of F were written. -/
structure Chg (F : Nat → Prop) (w w' : World) : Prop where
  os : w'.os = w.os
  tape : w'.tape = w.tape
  output : w'.output = w.output
  size : w.heap.size ≤ w'.heap.size
  block : ∀ k, k < w.heap.size → ¬ F k → w'.heap[k]? = w.heap[k]?
/-- F, and what was made between. -/
def Grow (F : Nat → Prop) (w w' : World) : Nat → Prop := fun b => F b ∨ (w.heap.size ≤ b ∧ b < w'.heap.size)
section
variable {F G S : Nat → Prop} {a b c w w' : World}
theorem Chg.refl : Chg F w w := ⟨rfl, rfl, rfl, Nat.le_refl _, fun _ _ _ => rfl⟩
theorem Chg.mono (h : Chg F w w') (hg : ∀ k, F k → G k) : Chg G w w' := ⟨h.os, h.tape, h.output, h.size, fun k hk hn => h.block k hk (fun hf => hn (hg k hf))⟩
theorem Chg.of_below (h : Below w.heap.size w w') : Chg F w w' := ⟨h.os, h.tape, h.output, h.size, fun k hk _ => h.block k hk⟩
theorem Chg.trans (h : Chg F a b) (k : Chg (Grow F a b) b c) : Chg F a c :=
  ⟨k.os.trans h.os, k.tape.trans h.tape, k.output.trans h.output, Nat.le_trans h.size k.size, fun i hi hn => (k.block i (Nat.lt_of_lt_of_le hi h.size) (fun hg => hg.elim hn (fun h2 => by omega))).trans (h.block i hi hn)⟩
theorem Chg.below {B : Nat} (h : Chg F w w') (hF : ∀ k, F k → B ≤ k) (hB : B ≤ w.heap.size) : Below B w w' :=
  ⟨h.os, h.tape, h.output, h.size, fun k hk => h.block k (by omega) (fun hf => by have := hF k hf; omega)⟩
theorem Chg.step (h : Chg F a b) (k : Below b.heap.size b c) : Chg F a c := h.trans (Chg.of_below k)
theorem Chg.drew (h : Chg F a w) : Chg F a w.drew := ⟨h.os, h.tape, h.output, h.size, h.block⟩
theorem Chg.alloc (h : Chg F a w) (o : Obj) : Chg F a (w.alloc o) := h.step ((Below.refl _ _).alloc (Nat.le_refl _) o)
theorem Chg.grown {row : Option Nat} (h : Chg F a w) (hg : w.grownBy w' row) (hr : ∀ k, row = some k → F k ∨ a.heap.size ≤ k) : Chg F a w' :=
  ⟨hg.os.trans h.os, hg.tape.trans h.tape, hg.output.trans h.output, Nat.le_trans h.size hg.size, fun k hk hn => (hg.block k (Nat.lt_of_lt_of_le hk h.size) (fun e => (hr k e.symm).elim hn (fun h2 => by omega))).trans (h.block k hk hn)⟩
theorem Chg.setCell (h : Chg F a w) {p : Addr} (hp : F p.block ∨ a.heap.size ≤ p.block) (u : Value) : Chg F a (w.setCell p u) :=
  ⟨h.os, h.tape, h.output, Nat.le_trans h.size (by simp [World.setCell]), fun k hk hn => (Below.heap_setCell _ _ _ _ (fun e => by subst e; exact hp.elim hn (fun h2 => by omega))).trans (h.block k hk hn)⟩
theorem heap_setCells_other (b k : Nat) (hk : k ≠ b) : ∀ (vs : List Value) (o : Nat) (w : World), (w.setCells b o vs).heap[k]? = w.heap[k]?
  | [], _, _ => rfl
  | v :: r, o, w => by rw [World.setCells, heap_setCells_other b k hk r, Below.heap_setCell _ _ _ _ (by simpa using hk)]
theorem setCells_rest (b : Nat) : ∀ (vs : List Value) (o : Nat) (w : World), (w.setCells b o vs).os = w.os ∧ (w.setCells b o vs).tape = w.tape ∧ (w.setCells b o vs).output = w.output ∧ (w.setCells b o vs).heap.size = w.heap.size
  | [], _, _ => ⟨rfl, rfl, rfl, rfl⟩
  | v :: r, o, w => by
    obtain ⟨h1, h2, h3, h4⟩ := setCells_rest b r (o + 1) (w.setCell ⟨b, o, none⟩ v)
    exact ⟨h1, h2, h3, h4.trans (by simp [World.setCell])⟩
theorem Chg.setCells (h : Chg F a w) {p : Nat} (hp : F p ∨ a.heap.size ≤ p) (o : Nat) (vs : List Value) : Chg F a (w.setCells p o vs) := by
  obtain ⟨h1, h2, h3, h4⟩ := setCells_rest p vs o w
  exact ⟨h1.trans h.os, h2.trans h.tape, h3.trans h.output, by rw [h4]; exact h.size, fun k hk hn => (heap_setCells_other _ _ (fun e => by subst e; exact hp.elim hn (fun h2 => by omega)) _ _ _).trans (h.block k hk hn)⟩
theorem Grow.old {k : Nat} (h : F k) : Grow F w w' k := .inl h
theorem Grow.step (h2 : b.heap.size ≤ c.heap.size) : ∀ k, Grow F a b k → Grow F a c k := fun k hk => hk.elim .inl (fun hk => .inr ⟨hk.1, by omega⟩)
theorem Grow.trans (h1 : a.heap.size ≤ b.heap.size) (h2 : b.heap.size ≤ c.heap.size) : ∀ k, Grow (Grow F a b) b c k → Grow F a c k := fun k hk => by
  rcases hk with (hk | hk) | hk
  · exact .inl hk
  · exact .inr ⟨hk.1, by omega⟩
  · exact .inr ⟨by omega, hk.2⟩
theorem cell_b {p : Addr} {v : Value} (hb : Below w.heap.size w w') (h : w.cell? p = some v) : w'.cell? p = some v := by
  rw [hb.cell (block_lt_of_cell h)]; exact h
/-- What lies in blocks that nobody writes stays. -/
theorem Chg.keep (h : Chg F w w') (hd : ∀ k, S k → ¬ F k) : ∀ k, S k → k < w.heap.size → w'.heap[k]? = w.heap[k]? := fun k hs hk => h.block k hk (hd k hs)
/-- The call's own blocks, while an object changes. -/
theorem Lay.chg {l : List (Nat × TypeId × Array Value)} (L : Lay w a l) (h : Chg F a b) (hF : ∀ k, F k → w.heap.size ≤ k) (hn : ∀ x ∈ l, ¬ F x.1) : Lay w b l :=
  ⟨L.below.trans (h.below hF L.size), fun x hx => (h.block _ (L.lt hx) (hn x hx)).trans (L.row x hx), L.own, L.nd⟩
end
end Go.Proofs.Ytojmnfelecnenaa
namespace Go.Proofs.Ytojmnfelecnenaa
set_option linter.unusedSimpArgs false
set_option linter.unusedVariables false
open Go.RowKit

def devCells (d : Dv) (wv lv : Value) : List Value := d.kept.map .string ++ (d.now.map .string ++ [wv, lv])
def putCells (l : List (Nat × ByteArray)) : List Value := l.flatMap (fun p => [.int .i64 (p.1 : Int), .string p.2])
/-- It owns a row of size cells an element, in a block of F. -/
def Ow (F : Nat → Prop) (w : World) (e : TypeId) (size : Nat) (v : Value) (n : Nat) (xs : List Value) : Prop := w.ownsRow 0 e size v n xs ∧ ∀ k, v.ownBlock = some k → F k
/-- The disk d lies at the block b; all that it may write lies in F, what its requests hold in S. -/
structure DevAt (TD TP : TypeId) (S F : Nat → Prop) (w : World) (b : Nat) (d : Dv) : Prop where
  fb : F b
  kept : d.kept.length = 32
  now : d.now.length = 32
  two : ∃ (wv lv : Value) (cs : List Rc), w.heap[b]? = some (.cells (devCells d wv lv).toArray TD (0, 0)) ∧ Ow F w TP 2 wv d.waits.length (putCells d.waits) ∧ Ow F w 44 6 lv cs.length (cs.flatMap Rc.cells) ∧ cs.map (·.r) = d.l ∧ ∀ c ∈ cs, RcOk S w c

theorem ReqAt.rcOf {S : Nat → Prop} {w : World} {r : Rq} {dv tv : Value} (h : ReqAt S w (rqV r dv tv) r) : RcOk S w ⟨r, dv, tv⟩ := by
  obtain ⟨c, rfl, e, hok⟩ := h
  simp only [rqV, Value.agg.injEq, Array.mk.injEq, List.cons.injEq] at e
  obtain ⟨c1, c2, c3⟩ := c
  simp only at e
  rw [e.2.2.2.1, e.2.2.2.2.1]
  exact hok
section
variable {F G S : Nat → Prop} {w w' : World} {e TD TP : TypeId} {size n b : Nat} {v : Value} {xs : List Value} {d : Dv}
theorem putCells_len (l : List (Nat × ByteArray)) : (putCells l).length = l.length * 2 := by
  induction l with
  | nil => rfl
  | cons a l ih => unfold putCells at *; rw [List.flatMap_cons, List.length_append, ih]; simp; omega
theorem Ow.nil : Ow F w e size (.slice none 0 0) 0 [] := ⟨World.ownsRow_nil _ _ _ _, fun k hk => by simp [Value.ownBlock] at hk⟩
theorem Ow.mono (h : Ow F w e size v n xs) (hg : ∀ k, F k → G k) : Ow G w e size v n xs := ⟨h.1, fun k hk => hg k (h.2 k hk)⟩
theorem own_keepD {B : Nat} (h : w.ownsRow B e size v n xs) (hk : ∀ k, v.ownBlock = some k → w'.heap[k]? = w.heap[k]?) : w'.ownsRow B e size v n xs := by
  refine ⟨h.1, ?_⟩
  rcases h.2 with hn | ⟨g, cap, cur, rfl, hb, hgg, rest⟩
  · exact .inl hn
  · exact .inr ⟨g, cap, cur, rfl, hb, (hk g rfl).trans hgg, rest⟩
theorem Ow.keep (h : Ow F w e size v n xs) (hk : ∀ k, F k → k < w.heap.size → w'.heap[k]? = w.heap[k]?) : Ow F w' e size v n xs :=
  ⟨own_keepD h.1 (fun k hv => hk k (h.2 k hv) (h.1.lt k hv).2), h.2⟩
theorem Ow.form (h : Ow F w e size v n xs) : ∃ A cap, v = .slice A n cap ∧ n ≤ cap ∧ cap ≤ maxLen := by
  rcases h.1.2 with ⟨rfl, rfl⟩ | ⟨g, cap, cur, rfl, _, _, h1, h2, _⟩
  · exact ⟨none, 0, rfl, Nat.le_refl _, by simp [maxLen]⟩
  · exact ⟨_, cap, rfl, h1, h2⟩
theorem Ow.rd (h : Ow F w e size v n xs) : Rd F w size v n xs := by
  rcases h.1.2 with ⟨rfl, rfl⟩ | ⟨g, cap, cur, rfl, hb, hh, hnc, hcm, hcs, htake⟩
  · obtain rfl : xs = [] := List.eq_nil_of_length_eq_zero (by simpa using h.1.1)
    exact Rd.nil
  · refine ⟨_, cap, rfl, hnc, hcm, h.1.1, fun hn => ⟨g, 0, rfl, h.2 g rfl, fun j u hu => ?_⟩⟩
    have := h.1.cells (g := g) rfl j u hu
    rwa [Go.WideShapes.add_plain] at this
theorem own_lo {B B' : Nat} (h : w.ownsRow B e size v n xs) (hb : B' ≤ B) : w.ownsRow B' e size v n xs := by
  refine ⟨h.1, ?_⟩
  rcases h.2 with hn | ⟨g, cap, cur, rfl, h1, rest⟩
  · exact .inl hn
  · exact .inr ⟨g, cap, cur, rfl, by omega, rest⟩
theorem own_sl (h : w.ownsRow 0 e size v n xs) : ∃ A c, v = .slice A n c := by
  rcases h.2 with ⟨rfl, rfl⟩ | ⟨g, cap, cur, rfl, _⟩
  · exact ⟨_, _, rfl⟩
  · exact ⟨_, _, rfl⟩
/-- A block of another type is another block. -/
theorem own_ne {cs : Array Value} (h : w.ownsRow 0 e size v n xs) (hb : w.heap[b]? = some (.cells cs TD (0, 0))) (ht : e ≠ TD) : ∀ k, v.ownBlock = some k → k ≠ b := by
  rintro k hk rfl
  rcases h.2 with ⟨rfl, _⟩ | ⟨g, cap, cur, rfl, _, hh, _⟩
  · simp [Value.ownBlock] at hk
  · simp [Value.ownBlock] at hk
    subst hk
    rw [hb] at hh
    cases hh
    exact ht rfl
theorem own_two {e' : TypeId} {size' n' : Nat} {v' : Value} {xs' : List Value} (h : w.ownsRow 0 e size v n xs) (h' : w.ownsRow 0 e' size' v' n' xs') (ht : e ≠ e') : ∀ k, v.ownBlock = some k → v'.ownBlock ≠ some k := by
  intro k hk hk'
  rcases h'.2 with ⟨rfl, _⟩ | ⟨g, cap, cur, rfl, _, hh, _⟩
  · simp [Value.ownBlock] at hk'
  · simp [Value.ownBlock] at hk'
    subst hk'
    exact own_ne h hh ht _ hk rfl
theorem Grow.lt (h : ∀ k, F k → k < w.heap.size) (hs : w.heap.size ≤ w'.heap.size) : ∀ k, Grow F w w' k → k < w'.heap.size := fun k hk => hk.elim (fun hk => by have := h k hk; omega) (·.2)
theorem rcs_keep {cs : List Rc} (h : ∀ c ∈ cs, RcOk S w c) (hc : Chg F w w') (hd : ∀ k, S k → ¬ F k) : ∀ c ∈ cs, RcOk S w' c := fun c hm => (h c hm).keep (hc.keep hd)
/-- Nothing of the disk was written. -/
theorem DevAt.keep (h : DevAt TD TP S F w b d) (hF : ∀ k, F k → k < w.heap.size → w'.heap[k]? = w.heap[k]?) (hS : ∀ k, S k → k < w.heap.size → w'.heap[k]? = w.heap[k]?) : DevAt TD TP S F w' b d := by
  obtain ⟨hb, h1, h2, wv, lv, cs, hr, hw, hl, he, hc⟩ := h
  have hlt : b < w.heap.size := (Array.getElem?_eq_some_iff.1 hr).1
  exact ⟨hb, h1, h2, wv, lv, cs, (hF b hb hlt).trans hr, hw.keep hF, hl.keep hF, he, fun c hm => (hc c hm).keep hS⟩
theorem DevAt.mono (h : DevAt TD TP S F w b d) (hg : ∀ k, F k → G k) : DevAt TD TP S G w b d := by
  obtain ⟨hb, h1, h2, wv, lv, cs, hr, hw, hl, he, hc⟩ := h
  exact ⟨hg b hb, h1, h2, wv, lv, cs, hr, hw.mono hg, hl.mono hg, he, hc⟩
theorem DevAt.more {S' : Nat → Prop} (h : DevAt TD TP S F w b d) (hg : ∀ k, S k → S' k) : DevAt TD TP S' F w b d := by
  obtain ⟨hb, h1, h2, wv, lv, cs, hr, hw, hl, he, hc⟩ := h
  exact ⟨hb, h1, h2, wv, lv, cs, hr, hw, hl, he, fun c hm => (hc c hm).more hg⟩
theorem DevAt.below (h : DevAt TD TP S F w b d) (hb : Below w.heap.size w w') : DevAt TD TP S F w' b d := h.keep (fun k _ hk => hb.block k hk) (fun k _ hk => hb.block k hk)
/-- Something else was written. -/
theorem DevAt.apart (h : DevAt TD TP S F w b d) (hc : Chg G w w') (hFG : ∀ k, F k → ¬ G k) (hSG : ∀ k, S k → ¬ G k) : DevAt TD TP S F w' b d := h.keep (hc.keep hFG) (hc.keep hSG)
theorem devCells_len (d : Dv) (wv lv : Value) (h1 : d.kept.length = 32) (h2 : d.now.length = 32) : (devCells d wv lv).length = 66 := by simp [devCells, h1, h2]
theorem devCells_at_l (d : Dv) (wv lv : Value) (h1 : d.kept.length = 32) (h2 : d.now.length = 32) : (devCells d wv lv)[65]? = some lv := by
  unfold devCells
  rw [List.getElem?_append_right (by simp [h1]), List.getElem?_append_right (by simp [h1, h2])]
  simp [h1, h2]
theorem devCells_at_w (d : Dv) (wv lv : Value) (h1 : d.kept.length = 32) (h2 : d.now.length = 32) : (devCells d wv lv)[64]? = some wv := by
  unfold devCells
  rw [List.getElem?_append_right (by simp [h1]), List.getElem?_append_right (by simp [h1, h2])]
  simp [h1, h2]
theorem devCells_at_now (d : Dv) (wv lv : Value) (h1 : d.kept.length = 32) (i : Nat) (s : ByteArray) (hi : d.now[i]? = some s) : (devCells d wv lv)[32 + i]? = some (.string s) := by
  have hlt := (List.getElem?_eq_some_iff.1 hi).1
  unfold devCells
  rw [List.getElem?_append_right (by simp [h1]), List.getElem?_append_left (by simp [h1]; omega)]
  simp [h1, List.getElem?_map, hi]
theorem devCells_set_l (d : Dv) (wv lv lv' : Value) (h1 : d.kept.length = 32) (h2 : d.now.length = 32) : (devCells d wv lv).toArray.setIfInBounds 65 lv' = (devCells d wv lv').toArray := by
  rw [List.setIfInBounds_toArray]
  unfold devCells
  rw [List.set_append_right _ _ (by simp [h1]), List.set_append_right _ _ (by simp [h1, h2])]
  simp [h1, h2]
theorem devCells_set_w (d : Dv) (wv wv' lv : Value) (h1 : d.kept.length = 32) (h2 : d.now.length = 32) : (devCells d wv lv).toArray.setIfInBounds 64 wv' = (devCells d wv' lv).toArray := by
  rw [List.setIfInBounds_toArray]
  unfold devCells
  rw [List.set_append_right _ _ (by simp [h1]), List.set_append_right _ _ (by simp [h1, h2])]
  simp [h1, h2]
theorem devCells_set_now (d : Dv) (wv lv : Value) (h1 : d.kept.length = 32) (h2 : d.now.length = 32) (i : Nat) (hi : i < 32) (s : ByteArray) : (devCells d wv lv).toArray.setIfInBounds (32 + i) (.string s) = (devCells { d with now := d.now.set i s } wv lv).toArray := by
  rw [List.setIfInBounds_toArray]
  unfold devCells
  rw [List.set_append_right _ _ (by simp [h1]), List.set_append_left _ _ (by simp [h1, h2]; omega)]
  simp [h1, h2, List.map_set]
theorem devCells_set_kept (d : Dv) (wv lv : Value) (h1 : d.kept.length = 32) (i : Nat) (hi : i < 32) (s : ByteArray) : (devCells d wv lv).toArray.setIfInBounds i (.string s) = (devCells { d with kept := d.kept.set i s } wv lv).toArray := by
  rw [List.setIfInBounds_toArray]
  unfold devCells
  rw [List.set_append_left _ _ (by simp [h1]; omega)]
  simp [h1, List.map_set]

/-- The list of requests is another now. -/
theorem DevAt.setL {a : World} {lv lv' wv : Value} {cs' : List Rc} {l' : List Rq} (hc : Chg F a w) (hF : ∀ k, F k → k < a.heap.size) (hb : F b) (hk : d.kept.length = 32) (hn : d.now.length = 32)
    (hrow : w.heap[b]? = some (.cells (devCells d wv lv).toArray TD (0, 0))) (hw : Ow (Grow F a w) w TP 2 wv d.waits.length (putCells d.waits))
    (hl : w.ownsRow 0 44 6 lv' cs'.length (cs'.flatMap Rc.cells)) (hlF : ∀ k, lv'.ownBlock = some k → F k ∨ a.heap.size ≤ k) (hcs : cs'.map (·.r) = l') (hok : ∀ c ∈ cs', RcOk S w c)
    (hSF : ∀ k, S k → ¬ F k) (hTP : TP ≠ TD) (hTD : 44 ≠ TD) :
    DevAt TD TP S (Grow F a (w.setCell ⟨b, 65, none⟩ lv')) (w.setCell ⟨b, 65, none⟩ lv') b { d with l := l' } ∧ Chg F a (w.setCell ⟨b, 65, none⟩ lv') := by
  have hsz : (w.setCell ⟨b, 65, none⟩ lv').heap.size = w.heap.size := by simp [World.setCell]
  have hother : ∀ k, k ≠ b → (w.setCell ⟨b, 65, none⟩ lv').heap[k]? = w.heap[k]? := fun k hk => Below.heap_setCell _ _ _ _ hk
  refine ⟨⟨.inl hb, hk, hn, wv, lv', cs', ?_, ?_, ?_, hcs, fun c hm => (hok c hm).keep (fun k hs _ => hother k (fun e => hSF k hs (e ▸ hb)))⟩, hc.setCell (.inl hb) _⟩
  · rw [heap_setCell_same _ _ _ _ _ _ hrow, devCells_set_l _ _ _ _ hk hn]; rfl
  · refine ⟨own_keepD hw.1 (fun k hv => hother k (own_ne hw.1 hrow hTP k hv)), fun k hv => ?_⟩
    have := hw.2 k hv
    unfold Grow at this ⊢
    rwa [hsz]
  · refine ⟨own_keepD hl (fun k hv => hother k (own_ne hl hrow hTD k hv)), fun k hv => ?_⟩
    rcases hlF k hv with h | h
    · exact .inl h
    · exact .inr ⟨h, by rw [hsz]; exact (hl.lt k hv).2⟩
/-- A sector is written, now. -/
theorem DevAt.setNow (h : DevAt TD TP S F w b d) (i : Nat) (hi : i < 32) (s : ByteArray) (hSF : ∀ k, S k → ¬ F k) (hTP : TP ≠ TD) (hTD : 44 ≠ TD) :
    DevAt TD TP S F (w.setCell ⟨b, 32 + i, none⟩ (.string s)) b { d with now := d.now.set i s } := by
  obtain ⟨hb, hk, hn, wv, lv, cs, hrow, hw, hl, hcs, hok⟩ := h
  have hother : ∀ k, k ≠ b → (w.setCell ⟨b, 32 + i, none⟩ (.string s)).heap[k]? = w.heap[k]? := fun k hk => Below.heap_setCell _ _ _ _ hk
  refine ⟨hb, hk, by simpa using hn, wv, lv, cs, ?_, ⟨own_keepD hw.1 (fun k hv => hother k (own_ne hw.1 hrow hTP k hv)), hw.2⟩, ⟨own_keepD hl.1 (fun k hv => hother k (own_ne hl.1 hrow hTD k hv)), hl.2⟩, hcs, fun c hm => (hok c hm).keep (fun k hs _ => hother k (fun e => hSF k hs (e ▸ hb)))⟩
  rw [heap_setCell_same _ _ _ _ _ _ hrow, devCells_set_now _ _ _ hk hn i hi]
/-- A sector is written, for good. -/
theorem DevAt.setKept (h : DevAt TD TP S F w b d) (i : Nat) (hi : i < 32) (s : ByteArray) (hSF : ∀ k, S k → ¬ F k) (hTP : TP ≠ TD) (hTD : 44 ≠ TD) :
    DevAt TD TP S F (w.setCell ⟨b, i, none⟩ (.string s)) b { d with kept := d.kept.set i s } := by
  obtain ⟨hb, hk, hn, wv, lv, cs, hrow, hw, hl, hcs, hok⟩ := h
  have hother : ∀ k, k ≠ b → (w.setCell ⟨b, i, none⟩ (.string s)).heap[k]? = w.heap[k]? := fun k hk => Below.heap_setCell _ _ _ _ hk
  refine ⟨hb, by simpa using hk, hn, wv, lv, cs, ?_, ⟨own_keepD hw.1 (fun k hv => hother k (own_ne hw.1 hrow hTP k hv)), hw.2⟩, ⟨own_keepD hl.1 (fun k hv => hother k (own_ne hl.1 hrow hTD k hv)), hl.2⟩, hcs, fun c hm => (hok c hm).keep (fun k hs _ => hother k (fun e => hSF k hs (e ▸ hb)))⟩
  rw [heap_setCell_same _ _ _ _ _ _ hrow, devCells_set_kept _ _ _ hk i hi]
/-- The list of what isn't for good yet is another now. -/
theorem DevAt.setW {a : World} {lv wv wv' : Value} {cs : List Rc} {l' : List (Nat × ByteArray)} (hc : Chg F a w) (hb : F b) (hk : d.kept.length = 32) (hn : d.now.length = 32)
    (hrow : w.heap[b]? = some (.cells (devCells d wv lv).toArray TD (0, 0))) (hl : Ow (Grow F a w) w 44 6 lv cs.length (cs.flatMap Rc.cells))
    (hw : w.ownsRow 0 TP 2 wv' l'.length (putCells l')) (hwF : ∀ k, wv'.ownBlock = some k → F k ∨ a.heap.size ≤ k) (hcs : cs.map (·.r) = d.l) (hok : ∀ c ∈ cs, RcOk S w c)
    (hSF : ∀ k, S k → ¬ F k) (hTP : TP ≠ TD) (hTD : 44 ≠ TD) :
    DevAt TD TP S (Grow F a (w.setCell ⟨b, 64, none⟩ wv')) (w.setCell ⟨b, 64, none⟩ wv') b { d with waits := l' } ∧ Chg F a (w.setCell ⟨b, 64, none⟩ wv') := by
  have hsz : (w.setCell ⟨b, 64, none⟩ wv').heap.size = w.heap.size := by simp [World.setCell]
  have hother : ∀ k, k ≠ b → (w.setCell ⟨b, 64, none⟩ wv').heap[k]? = w.heap[k]? := fun k hk => Below.heap_setCell _ _ _ _ hk
  refine ⟨⟨.inl hb, hk, hn, wv', lv, cs, ?_, ?_, ?_, hcs, fun c hm => (hok c hm).keep (fun k hs _ => hother k (fun e => hSF k hs (e ▸ hb)))⟩, hc.setCell (.inl hb) _⟩
  · rw [heap_setCell_same _ _ _ _ _ _ hrow, devCells_set_w _ _ _ _ hk hn]; rfl
  · refine ⟨own_keepD hw (fun k hv => hother k (own_ne hw hrow hTP k hv)), fun k hv => ?_⟩
    rcases hwF k hv with h | h
    · exact .inl h
    · exact .inr ⟨h, by rw [hsz]; exact (hw.lt k hv).2⟩
  · refine ⟨own_keepD hl.1 (fun k hv => hother k (own_ne hl.1 hrow hTD k hv)), fun k hv => ?_⟩
    have := hl.2 k hv
    unfold Grow at this ⊢
    rwa [hsz]
/-- The element i of a row of requests. -/
theorem rows_at {A : Option Addr} {cap : Nat} {cs : List Rc} (h : Rd S w 6 (.slice A cs.length cap) cs.length (cs.flatMap Rc.cells)) {i : Nat} {c : Rc} (hi : cs[i]? = some c) :
    ∃ b off, A = some ⟨b, off, none⟩ ∧ b < w.heap.size ∧ w.cell? ⟨b, off + i * 6, none⟩ = some (.bool c.r.write) ∧ w.cell? ⟨b, off + i * 6 + 1, none⟩ = some (.int .i64 c.r.lo) ∧ w.cell? ⟨b, off + i * 6 + 2, none⟩ = some (.int .i64 c.r.many) ∧
      w.cell? ⟨b, off + i * 6 + 3, none⟩ = some c.dv ∧ w.cell? ⟨b, off + i * 6 + 4, none⟩ = some c.tv ∧ w.cell? ⟨b, off + i * 6 + 5, none⟩ = some (.int .i64 c.r.born) := by
  have hlt := (List.getElem?_eq_some_iff.1 hi).1
  obtain ⟨b, off, e, hS, hlt, hc⟩ := h.at_ (by omega) (by omega)
  have hg := fun j hj => flat_get cs i j c hi hj
  exact ⟨b, off, e, hlt, hc _ _ (hg 0 (by omega)), hc _ _ (hg 1 (by omega)), hc _ _ (hg 2 (by omega)), hc _ _ (hg 3 (by omega)), hc _ _ (hg 4 (by omega)), hc _ _ (hg 5 (by omega))⟩
end
end Go.Proofs.Ytojmnfelecnenaa
namespace Go.Proofs.Ytojmnfelecnenaa
set_option linter.unusedSimpArgs false
set_option linter.unusedVariables false
open Go.RowKit

/-- It returns v; the disk has become d'. -/
def RetDev (TD TP : TypeId) (S F : Nat → Prop) (w : World) (b : Nat) (d' : Dv) (v : Value) : Ending → World → Prop :=
  fun e w' => e = .returned v ∧ DevAt TD TP S (Grow F w w') w' b d' ∧ Chg F w w'

abbrev TDp : TypeId := 84
abbrev TPp : TypeId := 95

theorem rd_req6 (S : Nat → Prop) (w : World) (b : Nat) (T : TypeId) (r : Rq) (dv tv : Value) (hb : w.heap[b]? = some (.cells #[.bool r.write, .int .i64 r.lo, .int .i64 r.many, dv, tv, .int .i64 r.born] T (0, 0))) (hS : S b) :
    Rd S w 6 (.slice (some ⟨b, 0, none⟩) 1 1) 1 (Rc.cells ⟨r, dv, tv⟩) := by
  refine ⟨_, 1, rfl, Nat.le_refl _, by simp [maxLen], rfl, fun _ => ⟨b, 0, rfl, hS, fun j u hu => ?_⟩⟩
  rw [cell_of_row _ _ _ _ _ _ hb]
  simpa [Rc.cells] using hu
theorem rc_one (S : Nat → Prop) {w : World} {c : Rc} (h : RcOk S w c) : ∀ u ∈ c.cells, u.oneCell' = true := by
  obtain ⟨Ad, cd, e1, _, _⟩ := h.data.form
  obtain ⟨At, ct, e2, _, _⟩ := h.tags.form
  intro u hu
  simp only [Rc.cells, e1, e2] at hu
  simp at hu
  rcases hu with rfl | rfl | rfl | rfl | rfl | rfl <;> rfl

set_option maxRecDepth 100000 in
set_option maxHeartbeats 1000000 in
theorem devstart_any (S F : Nat → Prop) (w : World) (b : Nat) (d : Dv) (r : Rq) (rv : Value) (h : DevAt TDp TPp S F w b d) (hr : ReqAt S w rv r) (hF : ∀ k, F k → k < w.heap.size) (hSF : ∀ k, S k → ¬ F k) (h2 : d.l.length ≤ 2) :
    Calls Try.prog 79 #[.pointer (some ⟨b, 0, none⟩), rv] w (RetDev TDp TPp S F w b (d.start r).1 (errV (d.start r).2)) := by
  obtain ⟨Ad, cd, At, ct, rfl, _, _, _, _, _, _, _⟩ := hr.opened
  obtain ⟨i0, hi0, hz0, hz1, hz2⟩ := info_parts reqInfo
  obtain ⟨hb, hk, hn, wv, lv, cs, hrow, hw, hl, hcs, hok⟩ := h
  have hlen : cs.length = d.l.length := by rw [← hcs, List.length_map]
  obtain ⟨A, cap, rfl, hc1, hc2⟩ := hl.form
  unfold maxLen at hc2
  rw [hlen] at hl hrow hc1
  have Hlen := Lib.hid hlen
  clear hlen
  have c65 : w.cell? ⟨b, 65, none⟩ = some (.slice A d.l.length cap) := by rw [cell_of_row _ _ _ _ _ _ hrow]; simpa using devCells_at_l d wv _ hk hn
  have f65 : w.frozen? ⟨b, 65, none⟩ = false := frozen_of_row _ _ _ _ _ hrow
  have hbl : b < w.heap.size := (Array.getElem?_eq_some_iff.1 hrow).1
  have Hr := Lib.hid hr
  have Hrow := Lib.hid hrow
  have Hw := Lib.hid hw
  have Hl := Lib.hid hl
  have Hcs := Lib.hid hcs
  have Hok := Lib.hid hok
  have HF := Lib.hid hF
  have HS := Lib.hid hSF
  have Hb := Lib.hid hb
  clear hr hrow hw hl hcs hok hF hSF hb
  by_cases h3 : d.l.length = 2
  · have h3' : ((d.l.length : Int) == 2) = true := by simp; omega
    go_enter Try.func79, Try.ntmps79
    go_wp2_with fail
    go_ret
    have hd : d.start r = (d, 7) := if_pos h3
    rw [hd]
    have hb1 := (Below.refl w.heap.size w).alloc (Nat.le_refl _) (Obj.cells #[Value.bool r.write, Value.int IntKind.i64 r.lo, Value.int IntKind.i64 r.many, Value.slice Ad r.data.length cd, Value.slice At r.tags.length ct, Value.int IntKind.i64 r.born] 44)
    refine ⟨rfl, ?_, Chg.of_below hb1⟩
    exact DevAt.mono (DevAt.below ⟨Hb.out, hk, hn, wv, _, cs, Hrow.out, Hw.out, by rw [Hlen.out]; exact Hl.out, Hcs.out, Hok.out⟩ hb1) (fun k hk => .inl hk)
  · have h3' : ((d.l.length : Int) == 2) = false := by simp; omega
    go_enter Try.func79, Try.ntmps79
    go_wp2_with fail
    have L := (Lay.refl w).alloc' w.heap.size #[Value.bool r.write, Value.int IntKind.i64 r.lo, Value.int IntKind.i64 r.many, Value.slice Ad r.data.length cd, Value.slice At r.tags.length ct, Value.int IntKind.i64 r.born] 44 rfl
    have hb1 := (Below.refl w.heap.size w).alloc (Nat.le_refl _) (Obj.cells #[Value.bool r.write, Value.int IntKind.i64 r.lo, Value.int IntKind.i64 r.many, Value.slice Ad r.data.length cd, Value.slice At r.tags.length ct, Value.int IntKind.i64 r.born] 44)
    generalize hW1 : World.alloc _ _ = W1 at L hb1 ⊢
    have hrow1 : W1.heap[b]? = some (.cells (devCells d wv (.slice A d.l.length cap)).toArray TDp (0, 0)) := (hb1.block _ hbl).trans Hrow.out
    have c65' : W1.cell? ⟨b, 65, none⟩ = some (.slice A d.l.length cap) := by rw [cell_of_row _ _ _ _ _ _ hrow1]; simpa using devCells_at_l d wv _ hk hn
    have f65' : W1.frozen? ⟨b, 65, none⟩ = false := frozen_of_row _ _ _ _ _ hrow1
    obtain ⟨k0, k1, k2, k3, k4, k5⟩ := L.c6 0 rfl
    have hl1 := (Hl.out.keep (fun k _ hk => hb1.block k hk)).1
    have Hown := Lib.hid (hl1.drew)
    have Hreq := Lib.hid (rc_one S (c := ⟨r, .slice Ad r.data.length cd, .slice At r.tags.length ct⟩) Hr.out.rcOf)
    have Hne : Hid (∀ k, k = b → some k ≠ (Value.slice A d.l.length cap).ownBlock) := fun k hkb e => own_ne hl1 hrow1 (by decide) k e.symm hkb
    have hbl1 : b < W1.drew.heap.size := Nat.lt_of_lt_of_le hbl hb1.size
    have hbl2 : b < W1.heap.size := hbl1
    clear c65 f65 hW1 hrow1
    go_region_law (first
      | (refine step_append_rd (S := fun _ => True) _ rfl (.tmp 16) (.tmp 18) _ rfl 0 44 i0 _ 6 80 Try.underlying35 hi0 hz0 hz1 hz2 rfl (by omega) (.slice A d.l.length cap) d.l.length (cs.flatMap Rc.cells) (by simp [Act.eval, Act.put]) (Hown.out.alloc _) (.slice (some ⟨W1.heap.size, 0, none⟩) 1 1) 1 (Rc.cells ⟨r, .slice Ad r.data.length cd, .slice At r.tags.length ct⟩) (by simp [Act.eval, Act.put]) (rd_req6 _ _ _ 44 r _ _ (heap_alloc_new _ _) trivial) Hreq.out (by simp only [maxLen]; omega) (by omega) (by omega) ?_; intro v1 w1 hown1 hg1 hat1; obtain ⟨A1, c1, rfl⟩ := own_sl hown1
         have q1 : w1.cell? ⟨b, 65, none⟩ = some (.slice A d.l.length cap) := hg1.cell ((World.cell?_alloc_lt _ _ _ hbl1).trans c65') (Hne.out b rfl)
         have q2 : w1.frozen? ⟨b, 65, none⟩ = false := (World.frozen?_of_block (hg1.block b (by simp; omega) (Hne.out b rfl))).trans ((World.frozen?_alloc_past _ _ _ hbl1).trans f65')))
    all_goals
      have hg0 : w.heap.size ≤ W1.heap.size := hb1.size
      have hbA := (Below.refl W1.heap.size W1).alloc (Nat.le_refl _) (Obj.cells #[Value.bool r.write, Value.int IntKind.i64 r.lo, Value.int IntKind.i64 r.many, Value.slice Ad r.data.length cd, Value.slice At r.tags.length ct, Value.int IntKind.i64 r.born] 44)
      have hc0 : Chg F w w1 := (((Chg.of_below hb1).step hbA).drew).grown hg1 (fun k hk => .inl (Hl.out.2 k hk))
      have hkS : ∀ k, S k → k < w.heap.size → w1.heap[k]? = w.heap[k]? := hc0.keep HS.out
      have hb2 : (World.drew (W1.alloc (Obj.cells #[Value.bool r.write, Value.int IntKind.i64 r.lo, Value.int IntKind.i64 r.many, Value.slice Ad r.data.length cd, Value.slice At r.tags.length ct, Value.int IntKind.i64 r.born] 44))).heap.size = W1.heap.size + 1 := by simp
      have hkW : ∀ k, k < w.heap.size → some k ≠ (Value.slice A d.l.length cap).ownBlock → w1.heap[k]? = w.heap[k]? := fun k hk hne => by
        rw [hg1.block k (by rw [hb2]; omega) hne]
        exact (hbA.drew.block k (by omega)).trans (hb1.block k hk)
      have hfin := DevAt.setL (TD := TDp) (TP := TPp) (S := S) (lv := .slice A d.l.length cap) (lv' := .slice A1 (d.l.length + 1) c1) (cs' := cs ++ [⟨r, .slice Ad r.data.length cd, .slice At r.tags.length ct⟩]) hc0 HF.out Hb.out hk hn ((hkW b hbl (Hne.out b rfl)).trans Hrow.out)
        ⟨own_keepD Hw.out.1 (fun k hv => hkW k (Hw.out.1.lt k hv).2 (fun e => own_two Hw.out.1 Hl.out.1 (by decide) k hv e.symm)), fun k hv => .inl (Hw.out.2 k hv)⟩
        (by rw [List.length_append, Hlen.out, List.flatMap_append]; simpa using hown1)
        (fun k hv => by
          rcases hat1 with h | h
          · exact .inl (Hl.out.2 k (h ▸ hv))
          · rw [hv] at h; injection h with h; rw [hb2] at h; exact .inr (by omega))
        rfl
        (fun c hm => by
          rcases List.mem_append.1 hm with hm | hm
          · exact (Hok.out c hm).keep hkS
          · simp at hm; subst hm; exact Hr.out.rcOf.keep hkS)
        HS.out (by decide) (by decide)
      go_wp2_with fail
      go_ret
      have hd : d.start r = ({ d with l := d.l ++ [r] }, 0) := if_neg h3
      rw [hd]
      refine ⟨rfl, ?_, hfin.2⟩
      have := hfin.1
      rwa [List.map_append, Hcs.out] at this
end Go.Proofs.Ytojmnfelecnenaa
namespace Go.Proofs.Ytojmnfelecnenaa
set_option linter.unusedSimpArgs false
set_option linter.unusedVariables false
open Go.RowKit

end Go.Proofs.Ytojmnfelecnenaa
namespace Go.Proofs.Ytojmnfelecnenaa
set_option linter.unusedSimpArgs false
set_option linter.unusedVariables false
open Go.RowKit

def setMany : Array Value → Nat → List Value → Array Value
  | c, _, [] => c
  | c, o, v :: l => setMany (c.setIfInBounds o v) (o + 1) l
theorem heap_setCells_row (b : Nat) (T : TypeId) : ∀ (vs : List Value) (o : Nat) (w : World) (cur : Array Value), w.heap[b]? = some (.cells cur T (0, 0)) → (w.setCells b o vs).heap[b]? = some (.cells (setMany cur o vs) T (0, 0))
  | [], _, _, _, h => h
  | v :: l, o, w, cur, h => heap_setCells_row b T l (o + 1) _ _ (heap_setCell_same _ _ o _ _ v h)
theorem setMany_mid : ∀ (vs a m c : List Value), m.length = vs.length → setMany (a ++ (m ++ c)).toArray a.length vs = (a ++ (vs ++ c)).toArray
  | [], a, [], c, _ => rfl
  | v :: vs, a, x :: m, c, h => by
    unfold setMany
    rw [List.setIfInBounds_toArray]
    have e1 : (a ++ (x :: m ++ c)).set a.length v = (a ++ [v]) ++ (m ++ c) := by simp [List.set_append_right]
    have e2 : a.length + 1 = (a ++ [v]).length := by simp
    rw [e1, e2, setMany_mid vs (a ++ [v]) m c (by simpa using h)]
    simp
theorem setMany_all (cur vs : Array Value) (h : cur.size = vs.size) : setMany cur 0 vs.toList = vs := by
  have := setMany_mid vs.toList [] cur.toList [] (by simpa using h)
  simpa using this

/-- Since w only F and the new blocks were written; the blocks of the list are the call's own, and hold what it says. -/
structure LayF (F : Nat → Prop) (w wr : World) (l : List (Nat × TypeId × Array Value)) : Prop where
  chg : Chg F w wr
  row : ∀ x ∈ l, wr.heap[x.1]? = some (.cells x.2.2 x.2.1 (0, 0))
  own : ∀ x ∈ l, w.heap.size ≤ x.1
  nd : (l.map (·.1)).Nodup
section
variable {F G : Nat → Prop} {w wr w' : World} {l : List (Nat × TypeId × Array Value)}
theorem LayF.refl (F : Nat → Prop) (w : World) : LayF F w w [] := ⟨Chg.refl, by simp, by simp, by simp⟩
theorem LayF.lt (h : LayF F w wr l) {x : Nat × TypeId × Array Value} (hx : x ∈ l) : x.1 < wr.heap.size := by
  have := h.row x hx
  rcases Nat.lt_or_ge x.1 wr.heap.size with h | h
  · exact h
  · rw [Array.getElem?_eq_none h] at this; cases this
theorem LayF.size (h : LayF F w wr l) : w.heap.size ≤ wr.heap.size := h.chg.size
/-- Something was written that is not in the list. -/
theorem LayF.chg2 (h : LayF F w wr l) (hb : Chg G wr w') (hG : ∀ k, G k → F k ∨ w.heap.size ≤ k) (hn : ∀ x ∈ l, ¬ G x.1) : LayF F w w' l :=
  ⟨⟨hb.os.trans h.chg.os, hb.tape.trans h.chg.tape, hb.output.trans h.chg.output, Nat.le_trans h.size hb.size, fun k hk hf => (hb.block k (Nat.lt_of_lt_of_le hk h.size) (fun hg => (hG k hg).elim hf (fun h2 => by omega))).trans (h.chg.block k hk hf)⟩,
    fun x hx => (hb.block _ (h.lt hx) (hn x hx)).trans (h.row x hx), h.own, h.nd⟩
theorem LayF.step (h : LayF F w wr l) (hb : Below wr.heap.size wr w') : LayF F w w' l := h.chg2 (G := fun _ => False) (Chg.of_below hb) (fun _ h => h.elim) (fun _ _ h => h)
theorem LayF.drew (h : LayF F w wr l) : LayF F w wr.drew l := h.step (Below.refl _ _).drew
theorem LayF.alloc' (h : LayF F w wr l) (n : Nat) (cs : Array Value) (T : TypeId) (hn : wr.heap.size = n) : LayF F w (wr.alloc (.cells cs T)) ((n, T, cs) :: l) := by
  subst hn
  have hs := h.step ((Below.refl wr.heap.size wr).alloc (Nat.le_refl _) (.cells cs T))
  refine ⟨hs.chg, fun x hx => ?_, fun x hx => ?_, ?_⟩
  · rcases List.mem_cons.1 hx with rfl | hx
    · exact heap_alloc_new wr (.cells cs T)
    · exact hs.row x hx
  · rcases List.mem_cons.1 hx with rfl | hx
    · exact h.size
    · exact h.own x hx
  · rw [List.map_cons, List.nodup_cons]
    refine ⟨fun hm => ?_, h.nd⟩
    obtain ⟨x, hx, he⟩ := List.mem_map.1 hm
    have := h.lt hx
    omega
theorem LayF.at_ (h : LayF F w wr l) (i : Nat) {b : Nat} {T : TypeId} {cs : Array Value} (hi : l[i]? = some (b, T, cs)) : wr.heap[b]? = some (.cells cs T (0, 0)) := h.row _ (List.mem_of_getElem? hi)
theorem LayF.cell (h : LayF F w wr l) (i : Nat) {b : Nat} {T : TypeId} {cs : Array Value} (hi : l[i]? = some (b, T, cs)) (k : Nat) : wr.cell? ⟨b, k, none⟩ = cs[k]? := cell_of_row _ _ k _ _ _ (h.at_ i hi)
theorem LayF.frozen (h : LayF F w wr l) (i : Nat) {b : Nat} {T : TypeId} {cs : Array Value} (hi : l[i]? = some (b, T, cs)) (k : Nat) : wr.frozen? ⟨b, k, none⟩ = false := frozen_of_row _ _ k _ _ (h.at_ i hi)
theorem LayF.c6 (h : LayF F w wr l) (i : Nat) {b : Nat} {T : TypeId} {c0 c1 c2 c3 c4 c5 : Value} (hi : l[i]? = some (b, T, #[c0, c1, c2, c3, c4, c5])) :
    wr.cell? ⟨b, 0, none⟩ = some c0 ∧ wr.cell? ⟨b, 1, none⟩ = some c1 ∧ wr.cell? ⟨b, 2, none⟩ = some c2 ∧ wr.cell? ⟨b, 3, none⟩ = some c3 ∧ wr.cell? ⟨b, 4, none⟩ = some c4 ∧ wr.cell? ⟨b, 5, none⟩ = some c5 :=
  ⟨h.cell i hi 0, h.cell i hi 1, h.cell i hi 2, h.cell i hi 3, h.cell i hi 4, h.cell i hi 5⟩
theorem LayF.c8 (h : LayF F w wr l) (i : Nat) {b : Nat} {T : TypeId} {c0 c1 c2 c3 c4 c5 c6 c7 : Value} (hi : l[i]? = some (b, T, #[c0, c1, c2, c3, c4, c5, c6, c7])) :
    wr.cell? ⟨b, 0, none⟩ = some c0 ∧ wr.cell? ⟨b, 1, none⟩ = some c1 ∧ wr.cell? ⟨b, 2, none⟩ = some c2 ∧ wr.cell? ⟨b, 3, none⟩ = some c3 ∧ wr.cell? ⟨b, 4, none⟩ = some c4 ∧ wr.cell? ⟨b, 5, none⟩ = some c5 ∧ wr.cell? ⟨b, 6, none⟩ = some c6 ∧ wr.cell? ⟨b, 7, none⟩ = some c7 :=
  ⟨h.cell i hi 0, h.cell i hi 1, h.cell i hi 2, h.cell i hi 3, h.cell i hi 4, h.cell i hi 5, h.cell i hi 6, h.cell i hi 7⟩
theorem LayF.range (h : LayF F w wr l) (i : Nat) {b : Nat} {T : TypeId} {cs : Array Value} (hi : l[i]? = some (b, T, cs)) : wr.rangeAt b 0 cs.toList := fun j v hv => by
  rw [Nat.zero_add, h.cell i hi j]; simpa using hv
theorem LayF.there (h : LayF F w wr l) (i : Nat) {b : Nat} {T : TypeId} {cs : Array Value} (hi : l[i]? = some (b, T, cs)) (n : Nat) (hn : n = cs.size) : wr.there b 0 n := fun j hj => by
  rw [Nat.zero_add, h.cell i hi j, h.frozen i hi j, Array.getElem?_eq_getElem (by omega)]
  exact ⟨rfl, rfl⟩
theorem nd_set {l : List (Nat × TypeId × Array Value)} {i b : Nat} {T : TypeId} {cs cs' : Array Value} (hi : l[i]? = some (b, T, cs)) : (l.set i (b, T, cs')).map (·.1) = l.map (·.1) := by
  rw [List.map_set]
  apply List.ext_getElem?
  intro j
  rw [List.getElem?_set]
  split
  · rename_i e
    subst e
    rw [List.getElem?_map, hi]
    split
    · rfl
    · rename_i hh
      exfalso
      apply hh
      rw [List.length_map]
      exact (List.getElem?_eq_some_iff.1 hi).1
  · rfl
/-- A block of the list is another now. -/
theorem LayF.turn (h : LayF F w wr l) (i : Nat) {b : Nat} {T : TypeId} {cs cs' : Array Value} (hi : l[i]? = some (b, T, cs)) (hc : Chg (fun k => k = b) wr w') (hb : w'.heap[b]? = some (.cells cs' T (0, 0))) : LayF F w w' (l.set i (b, T, cs')) := by
  have hm := List.mem_of_getElem? hi
  have hown := h.own _ hm
  refine ⟨⟨hc.os.trans h.chg.os, hc.tape.trans h.chg.tape, hc.output.trans h.chg.output, Nat.le_trans h.size hc.size, fun k hk hf => (hc.block k (Nat.lt_of_lt_of_le hk h.size) (fun e => by simp only at hown; omega)).trans (h.chg.block k hk hf)⟩, fun x hx => ?_, fun x hx => ?_, ?_⟩
  · obtain ⟨j, hj⟩ := List.mem_iff_getElem?.1 hx
    rw [List.getElem?_set] at hj
    split at hj
    · split at hj
      · cases hj; exact hb
      · cases hj
    · rename_i e
      have hne : x.1 ≠ b := by
        intro he
        have h1 : (l.map (·.1))[i]? = some b := by rw [List.getElem?_map, hi]; rfl
        have h2 : (l.map (·.1))[j]? = some b := by rw [List.getElem?_map, hj]; simp [he]
        obtain ⟨l1, h1⟩ := List.getElem?_eq_some_iff.1 h1
        obtain ⟨l2, h2⟩ := List.getElem?_eq_some_iff.1 h2
        exact e ((List.getElem_inj h.nd).1 (h1.trans h2.symm))
      have hx' := List.mem_of_getElem? hj
      rw [hc.block _ (h.lt hx') hne]
      exact h.row x hx'
  · rcases List.mem_or_eq_of_mem_set hx with hx | rfl
    · exact h.own x hx
    · exact hown
  · rw [nd_set hi]; exact h.nd
theorem LayF.set (h : LayF F w wr l) (i : Nat) {b : Nat} {T : TypeId} {cs : Array Value} (hi : l[i]? = some (b, T, cs)) (k : Nat) (v : Value) : LayF F w (wr.setCell ⟨b, k, none⟩ v) (l.set i (b, T, cs.setIfInBounds k v)) :=
  h.turn i hi (Chg.setCell (F := fun k => k = b) Chg.refl (.inl rfl) _) (heap_setCell_same _ _ k _ _ v (h.at_ i hi))
/-- All cells of a block in one go. -/
theorem LayF.put (h : LayF F w wr l) (i : Nat) {b : Nat} {T : TypeId} {cs : Array Value} (hi : l[i]? = some (b, T, cs)) (vs : Array Value) (hs : cs.size = vs.size) : LayF F w (wr.setCells b 0 vs.toList) (l.set i (b, T, vs)) :=
  h.turn i hi (Chg.setCells (F := fun k => k = b) Chg.refl (.inl rfl) _ _) (by rw [heap_setCells_row b T vs.toList 0 wr cs (h.at_ i hi), setMany_all _ _ hs])
end
end Go.Proofs.Ytojmnfelecnenaa
namespace Go.Proofs.Ytojmnfelecnenaa
set_option linter.unusedSimpArgs false
set_option linter.unusedVariables false
open Go.RowKit

section
variable {F S : Nat → Prop} {w : World} {TD TP : TypeId} {b : Nat} {d : Dv}
theorem devCells_flush (d : Dv) (wv lv : Value) (h1 : d.kept.length = 32) (h2 : d.now.length = 32) : setMany (devCells d wv lv).toArray 0 (d.now.map .string) = (devCells { d with kept := d.now } wv lv).toArray := by
  have := setMany_mid (d.now.map .string) [] (d.kept.map .string) (d.now.map .string ++ [wv, lv]) (by simp [h1, h2])
  simpa [devCells] using this
theorem devCells_back (d : Dv) (wv lv : Value) (h1 : d.kept.length = 32) (h2 : d.now.length = 32) : setMany (devCells d wv lv).toArray 32 (d.kept.map .string) = (devCells { d with now := d.kept } wv lv).toArray := by
  have := setMany_mid (d.kept.map .string) (d.kept.map .string) (d.now.map .string) [wv, lv] (by simp [h1, h2])
  simpa [devCells, h1] using this
theorem DevAt.row (h : DevAt TD TP S F w b d) : ∃ wv lv, w.heap[b]? = some (.cells (devCells d wv lv).toArray TD (0, 0)) := by
  obtain ⟨_, _, _, wv, lv, _, h, _⟩ := h; exact ⟨wv, lv, h⟩
theorem range_now (h1 : d.kept.length = 32) {wv lv : Value} (hrow : w.heap[b]? = some (.cells (devCells d wv lv).toArray TD (0, 0))) : w.rangeAt b 32 (d.now.map .string) := fun j v hv => by
  rw [cell_of_row _ _ _ _ _ _ hrow]
  rw [List.getElem?_map] at hv
  obtain ⟨s, hs, rfl⟩ := Option.map_eq_some_iff.1 hv
  simpa using devCells_at_now d wv lv h1 j s hs
theorem range_kept {wv lv : Value} (hrow : w.heap[b]? = some (.cells (devCells d wv lv).toArray TD (0, 0))) : w.rangeAt b 0 (d.kept.map .string) := fun j v hv => by
  rw [cell_of_row _ _ _ _ _ _ hrow]
  have hlt : j < d.kept.length := by simpa using (List.getElem?_eq_some_iff.1 hv).1
  simp only [List.getElem?_toArray, Nat.zero_add]
  unfold devCells
  rw [List.getElem?_append_left (by simpa using hlt)]
  exact hv
theorem there_of_row {cs : Array Value} (hrow : w.heap[b]? = some (.cells cs TD (0, 0))) (o n : Nat) (h : o + n ≤ cs.size) : w.there b o n := fun j hj => by
  rw [cell_of_row _ _ _ _ _ _ hrow, frozen_of_row _ _ _ _ _ hrow, Array.getElem?_eq_getElem (by omega)]
  exact ⟨rfl, rfl⟩
end

set_option maxRecDepth 100000 in
theorem devpeek_any (S F : Nat → Prop) (w : World) (b : Nat) (d : Dv) (i : Nat) (hi : i < 32) (h : DevAt TDp TPp S F w b d) :
    Calls Try.prog 33 #[.pointer (some ⟨b, 0, none⟩), .int .i64 (i : Int)] w (RetSame (.string (d.peek i)) w) := by
  obtain ⟨wv, lv, hrow⟩ := h.row
  have hil : i < d.now.length := by rw [h.now]; exact hi
  have hx : d.now[i]? = some d.now[i] := List.getElem?_eq_getElem hil
  have hc : w.cell? ⟨b, 32 + i, none⟩ = some (.string d.now[i]) := by rw [cell_of_row _ _ _ _ _ _ hrow]; simpa using devCells_at_now d wv lv h.kept i _ hx
  have he : d.peek i = d.now[i] := by unfold Dv.peek; rw [List.getD_eq_getElem?_getD, hx]; rfl
  rw [he]
  clear he
  generalize d.now[i] = s at *
  have hi2 : (i : Int) < 32 := by omega
  clear hx hrow h hil
  go_enter Try.func33, Try.ntmps33
  go_wp2
  go_ret
  exact ⟨rfl, rfl⟩

set_option maxRecDepth 100000 in
theorem devbusy_any (S F : Nat → Prop) (w : World) (b : Nat) (d : Dv) (h : DevAt TDp TPp S F w b d) (h2 : d.l.length ≤ 2) :
    Calls Try.prog 44 #[.pointer (some ⟨b, 0, none⟩)] w (fun e w' => ∃ v, e = .returned v ∧ ReqsAt (fun b => S b ∨ w.heap.size ≤ b) w' v d.l ∧ Below w.heap.size w w') := by
  obtain ⟨hb, hk, hn, wv, lv, cs, hrow, hw, hl, hcs, hok⟩ := h
  have hlen : cs.length = d.l.length := by rw [← hcs, List.length_map]
  obtain ⟨A, cap, rfl, hc1, hc2⟩ := hl.form
  have c65 : w.cell? ⟨b, 65, none⟩ = some (.slice A cs.length cap) := by rw [cell_of_row _ _ _ _ _ _ hrow]; simpa using devCells_at_l d wv _ hk hn
  have Hl := Lib.hid hl.rd
  have Hone : Hid (∀ u ∈ cs.flatMap Rc.cells, u.oneCell' = true) := fun u hu => by obtain ⟨c, hc, hu⟩ := List.mem_flatMap.1 hu; exact rc_one S (hok c hc) u hu
  have Hok := Lib.hid hok
  have Hcs := Lib.hid hcs
  have Hlen := Lib.hid hlen
  clear hrow hw hl hcs hok hlen
  go_enter Try.func44, Try.ntmps44
  go_wp2_with fail
  refine (clone_any F _ _ _ _ Hl.out Hone.out (by rw [Hlen.out]; omega)).mono ?_
  rintro e w1 ⟨v, rfl, hown, hb1⟩
  obtain ⟨A1, c1, rfl⟩ := own_sl (own_lo hown (Nat.zero_le _))
  have Hown := Lib.hid hown
  clear hown
  go_wp2_with fail
  go_ret
  refine ⟨_, rfl, ⟨cs, Hcs.out, Rd.of_own _ (fun b hb => .inr hb) Hown.out, fun c hc => ((Hok.out c hc).below hb1).more (fun b hb => .inl hb)⟩, hb1⟩

set_option maxRecDepth 100000 in
theorem devflush_any (S F : Nat → Prop) (w : World) (b : Nat) (d : Dv) (h : DevAt TDp TPp S F w b d) (hSF : ∀ k, S k → ¬ F k) :
    Calls Try.prog 89 #[.pointer (some ⟨b, 0, none⟩)] w (fun e w' => e = .returned (.tuple #[]) ∧ DevAt TDp TPp S F w' b d.flush ∧ Chg F w w' ∧ w'.heap.size = w.heap.size) := by
  obtain ⟨hb, hk, hn, wv, lv, cs, hrow, hw, hl, hcs, hok⟩ := h
  have HR : Hid (w.rangeAt b 32 (d.now.map .string)) := range_now hk hrow
  have HT : Hid (w.there b 0 (d.now.map Value.string).toArray.size) := there_of_row hrow 0 _ (by rw [List.size_toArray, List.size_toArray, List.length_map, devCells_len _ _ _ hk hn]; omega)
  have Hs : Hid ((Try.prog.info? 46).map (·.size) = some (d.now.map Value.string).length) := show _ = _ by rw [List.length_map, hn]; kernel_rfl
  have H1 : Hid ((d.now.map Value.string).toArray.all (·.oneCell') = true) := all_oneCell_toArray (fun v hv => by obtain ⟨s, _, rfl⟩ := List.mem_map.1 hv; rfl)
  have hrow1 := heap_setCells_row b _ (d.now.map .string) 0 w _ hrow
  rw [devCells_flush d wv lv hk hn] at hrow1
  obtain ⟨W1, hW1⟩ : ∃ u, w.setCells b 0 (d.now.map .string) = u := ⟨_, rfl⟩
  rw [hW1] at hrow1
  have c64 : W1.cell? ⟨b, 64, none⟩ = some wv := by rw [cell_of_row _ _ _ _ _ _ hrow1]; simpa using devCells_at_w { d with kept := d.now } wv lv hn hn
  have f64 : W1.frozen? ⟨b, 64, none⟩ = false := frozen_of_row _ _ _ _ _ hrow1
  have Hchg : Hid (Chg F w W1) := hW1 ▸ Chg.refl.setCells (.inl hb) _ _
  have Hsz : Hid (W1.heap.size = w.heap.size) := by rw [← hW1]; exact (setCells_rest b _ 0 w).2.2.2
  have Hother : Hid (∀ k, k ≠ b → W1.heap[k]? = w.heap[k]?) := fun k hk => by rw [← hW1]; exact heap_setCells_other b k hk _ _ _
  have Hrow1 := Lib.hid hrow1
  have Hrow := Lib.hid hrow
  have Hl := Lib.hid hl
  have Hcs := Lib.hid hcs
  have Hok := Lib.hid hok
  have HS := Lib.hid hSF
  have Hb := Lib.hid hb
  have Hk := Lib.hid hk
  have Hn := Lib.hid hn
  have HW := Lib.hid hW1
  clear hrow1 hrow hl hcs hok hSF hb hk hn hw hW1
  go_enter Try.func89, Try.ntmps89
  go_wp2_with (first
    | (refine wpList_load_mid rfl 46 (.tmp 6) rfl b 32 rfl (d.now.map .string) _ HR.out Try.underlying46 rfl Hs.out ?_)
    | (refine wpList_store_mid rfl 46 (.tmp 9) (.tmp 7) rfl b 0 (d.now.map Value.string).toArray rfl rfl HT.out (by rw [List.size_toArray]; exact Hs.out) H1.out ?_
       rw [show w.setCells b 0 (d.now.map Value.string).toArray.toList = W1 from HW.out]))
  go_end0
  have hsz : (W1.setCell ⟨b, 64, none⟩ (.slice none 0 0)).heap.size = W1.heap.size := by simp [World.setCell]
  have hother : ∀ k, k ≠ b → (W1.setCell ⟨b, 64, none⟩ (.slice none 0 0)).heap[k]? = w.heap[k]? := fun k hk => (Below.heap_setCell _ _ _ _ hk).trans (Hother.out k hk)
  refine ⟨rfl, ⟨Hb.out, Hn.out, Hn.out, .slice none 0 0, lv, cs, ?_, Ow.nil, ?_, Hcs.out, fun c hm => (Hok.out c hm).keep (fun k hs _ => hother k (fun e => HS.out k hs (e ▸ Hb.out)))⟩, Hchg.out.setCell (.inl Hb.out) _, hsz.trans Hsz.out⟩
  · rw [heap_setCell_same _ _ _ _ _ _ Hrow1.out, devCells_set_w { d with kept := d.now } _ _ _ Hn.out Hn.out]; rfl
  · exact ⟨own_keepD Hl.out.1 (fun k hv => hother k (own_ne Hl.out.1 Hrow.out (by decide) k hv)), Hl.out.2⟩

theorem new_cells : devCells Dv.new (.slice none 0 0) (.slice none 0 0) = List.replicate 64 (.string ⟨#[]⟩) ++ [.slice none 0 0, .slice none 0 0] := rfl
theorem dev_new (TD TP : TypeId) (S F : Nat → Prop) {w : World} {b : Nat} (h : w.heap[b]? = some (.cells (devCells Dv.new (.slice none 0 0) (.slice none 0 0)).toArray TD (0, 0))) (hb : F b) : DevAt TD TP S F w b Dv.new :=
  ⟨hb, rfl, rfl, _, _, [], h, Ow.nil, Ow.nil, rfl, by simp⟩
set_option maxRecDepth 100000 in
theorem devnew_any (w : World) :
    Calls Try.prog 17 #[] w (fun e w' => e = .returned (.pointer (some ⟨w.heap.size, 0, none⟩)) ∧ (∀ S, DevAt TDp TPp S (fun k => k = w.heap.size) w' w.heap.size Dv.new) ∧ Below w.heap.size w w' ∧ w'.heap.size = w.heap.size + 1) := by
  go_enter Try.func17, Try.ntmps17
  go_wp2_with fail
  go_ret
  exact ⟨rfl, fun S => dev_new _ _ _ _ (heap_alloc_new _ _) rfl, (Below.refl _ _).alloc (Nat.le_refl _) _, by simp⟩
end Go.Proofs.Ytojmnfelecnenaa
namespace Go.Proofs.Ytojmnfelecnenaa
set_option linter.unusedSimpArgs false
set_option linter.unusedVariables false
open Go.RowKit

abbrev tMap : TypeId := 105
theorem tMap_u : Try.prog.underlying tMap = some (.map 3 3) := Try.underlying105
theorem int_u : Try.prog.underlying 3 = some (.int .i64) := Try.underlying3
theorem int_zero (w : World) : (zeroValue 3).run Try.prog w = .ok (.int .i64 0) w := by kernel_rfl
/-- The block b is a map of at most n entries that gives f k at k. -/
def MapAt (w : World) (b n : Nat) (f : Int → Int) : Prop :=
  ∃ D : DataW Unit, w.ownsMap Try.prog 3 (plainElem Try.prog 3) b n D ∧ Maps.IsMap D ∧ ∀ k : Int, i64 k → D.atKey (.int .i64 k) (.lit (.int .i64 0)) = .lit (.int .i64 (f k))
theorem wf_i64 {n : Int} (h : i64 n) : (Lit.int .i64 n).wf = true := by
  unfold i64 at h
  simp [Lit.wf, IntKind.min, IntKind.max, IntKind.signed, IntKind.bits]
  omega
theorem key_i64 {n : Int} (h : i64 n) : keyOf Try.prog 3 (.int .i64 n) = some (.int .i64 n) := by
  simp [keyOf, mapKey, int_u, wf_i64 h]
def upd (f : Int → Int) (k v : Int) : Int → Int := fun j => if j = k then v else f j
section
variable {w w' : World} {b n : Nat} {f : Int → Int} {k v : Int}
theorem MapAt.made (w : World) : MapAt (w.alloc (.map #[] 0)) w.heap.size 0 (fun _ => 0) := ⟨.map [], World.ownsMap_made _ _ _ _, Maps.isMap_empty, fun k _ => rfl⟩
theorem MapAt.mono {m : Nat} (h : MapAt w b n f) (hm : n ≤ m) : MapAt w b m f := by
  obtain ⟨D, h1, h2⟩ := h
  exact ⟨D, h1.mono hm, h2⟩
theorem MapAt.lt (h : MapAt w b n f) : b < w.heap.size := by obtain ⟨D, h, _⟩ := h; exact h.lt
theorem MapAt.keep (h : MapAt w b n f) (hk : w'.heap[b]? = w.heap[b]?) : MapAt w' b n f := by
  obtain ⟨D, ⟨es, clock, hb, rest⟩, h2⟩ := h
  exact ⟨D, ⟨es, clock, hk.trans hb, rest⟩, h2⟩
theorem MapAt.lookup (h : MapAt w b n f) (hk : i64 k) : (Instr.lookup tMap (.map (some b)) (.int .i64 k) false).run Try.prog w = .ok (.int .i64 (f k)) w := by
  obtain ⟨D, h1, h2, h3⟩ := h
  obtain ⟨c, hrun, hat, _⟩ := h1.lookup_int (Maps.int_keyed int_u) tMap_u int_u (int_zero w) (key_i64 hk)
  rw [h3 k hk] at hat
  simp only [DataW.lit.injEq, Lit.int.injEq, true_and] at hat
  rw [hrun, hat]
theorem MapAt.update (h : MapAt w b n f) (hk : i64 k) (hv : i64 v) (hn : n < 1000000000) : ∃ w', (Instr.mapUpdate tMap (.map (some b)) (.int .i64 k) (.int .i64 v)).run Try.prog w = .ok () w' ∧ MapAt w' b (n + 1) (upd f k v) ∧ w.grownBy w' (some b) := by
  obtain ⟨D, h1, h2, h3⟩ := h
  obtain ⟨w', hrun, ho, hg⟩ := h1.update (Maps.int_keyed int_u) tMap_u (by simp only [maxLen]; omega) (key_i64 hk) (plainElem_int int_u (wf_i64 hv))
  refine ⟨w', hrun, ⟨_, ho, h2.put _ _, fun j hj => ?_⟩, hg⟩
  unfold upd
  by_cases e : j = k
  · subst e
    rw [if_pos rfl, Maps.atKey_put_same h2 ((Maps.int_keyed int_u).key (key_i64 hk))]
  · rw [if_neg e, Maps.atKey_put_other (by simpa using e)]
    exact h3 j hj
theorem MapAt.drop (h : MapAt w b n f) (hk : i64 k) (ty : TypeId) : ∃ w', (Builtin.delete_ #[tMap, 3] ty #[.map (some b), .int .i64 k]).run Try.prog w = .ok (.tuple #[]) w' ∧ MapAt w' b n (upd f k 0) ∧ w.grownBy w' (some b) := by
  obtain ⟨D, h1, h2, h3⟩ := h
  obtain ⟨w', hrun, ho, ht⟩ := h1.drop (Maps.int_keyed int_u) tMap_u (key_i64 hk) ty
  refine ⟨w', hrun, ⟨_, ho, h2.del _, fun j hj => ?_⟩, ?_⟩
  · unfold upd
    by_cases e : j = k
    · subst e
      rw [if_pos rfl, Maps.atKey_del_same]
    · rw [if_neg e, Maps.atKey_del_other (by simpa using e)]
      exact h3 j hj
  · exact ht.grown
end
/-- 'delete(m, k)' at the operation. -/
theorem wpList_drop {ops : Array Oper} {rest : List Oper} {o : Oper} {a : Act} {Q : Exit → Act → World → Prop} (w : World) (hg : o.guard = none) (m x : Operand) (hop : o.op = Op.call { callee := Callee.builtin Builtin.delete, args := #[m, x], argTypes := #[tMap, 3] })
    (b n : Nat) (f : Int → Int) (k : Int) (hm : a.eval m = .map (some b)) (hx : a.eval x = .int .i64 k) (h : MapAt w b n f) (hk : i64 k)
    (hK : ∀ w', MapAt w' b n (upd f k 0) → w.grownBy w' (some b) → wpList Try.prog ops Q rest (a.put o.dst (.tuple #[])) w') : wpList Try.prog ops Q (o :: rest) a w := by
  refine wpList_plain hg fun K' hK' => ?_
  obtain ⟨w', hrun, r1, r2⟩ := h.drop hk o.type
  unfold Oper.wp
  simp [execOp, hop, resolve, invoke, builtin, hm, hx, hrun, Result.andThen]
  exact hK' _ _ (hK w' r1 r2)
/-- 'm[k] = v' at the operation. -/
theorem wpList_upd {ops : Array Oper} {rest : List Oper} {o : Oper} {a : Act} {Q : Exit → Act → World → Prop} (w : World) (hg : o.guard = none) (m x y : Operand) (hop : o.op = Op.mapUpdate tMap m x y)
    (b n : Nat) (f : Int → Int) (k v : Int) (hm : a.eval m = .map (some b)) (hx : a.eval x = .int .i64 k) (hy : a.eval y = .int .i64 v) (h : MapAt w b n f) (hk : i64 k) (hv : i64 v) (hn : n < 1000000000)
    (hK : ∀ w', MapAt w' b (n + 1) (upd f k v) → w.grownBy w' (some b) → wpList Try.prog ops Q rest (a.put o.dst undef) w') : wpList Try.prog ops Q (o :: rest) a w := by
  refine wpList_plain hg fun K' hK' => ?_
  obtain ⟨w', hrun, r1, r2⟩ := h.update hk hv hn
  unfold Oper.wp
  simp [execOp, hop, hm, hx, hy, hrun, Result.andThen]
  exact hK' _ _ (hK w' r1 r2)
end Go.Proofs.Ytojmnfelecnenaa
namespace Go.Proofs.Ytojmnfelecnenaa
set_option linter.unusedSimpArgs false
set_option linter.unusedVariables false

theorem ReqOk.size {r : Rq} (h : ReqOk r) : ∀ s ∈ r.data, s.size ≤ 4 := fun s hs => by
  have := h.data
  unfold dataOk at this
  rw [List.all_eq_true] at this
  simpa using this s hs
theorem ReqOk.nats {r : Rq} (h : ReqOk r) : ∃ p n : Nat, r.lo = (p : Int) ∧ r.many = (n : Int) ∧ p + n ≤ 32 ∧ 1 ≤ n ∧ n ≤ 4 := by
  have h1 := h.span
  unfold SpanOk at h1
  exact ⟨r.lo.toNat, r.many.toNat, by omega, by omega, by omega, by omega, by omega⟩
theorem ReqOk.len {r : Rq} (h : ReqOk r) (hw : r.write = true) : (r.data.length : Int) = r.many := by
  have := h.shape
  unfold shapeOk at this
  rwa [if_pos hw] at this
theorem DvOk.new : DvOk Dv.new := by
  have h0 : ∀ s ∈ List.replicate 32 (⟨#[]⟩ : ByteArray), s.size ≤ 16 := fun s hs => by
    obtain rfl := List.eq_of_mem_replicate hs
    exact Nat.zero_le _
  exact ⟨rfl, rfl, h0, h0, by simp [Dv.new], by simp [Dv.new], by simp [Dv.new]⟩
theorem DvOk.start {d : Dv} {r : Rq} (h : DvOk d) (hr : reqF r = 0) : DvOk (d.start r).1 := by
  unfold Dv.start
  split
  · exact h
  · rename_i h2
    refine ⟨h.kept, h.now, h.keptS, h.nowS, h.waits, fun x hx => ?_, ?_⟩
    · rcases List.mem_append.1 hx with hx | hx
      · exact h.l x hx
      · simp at hx; subst hx; exact hr
    · have := h.two
      simp only [List.length_append, List.length_cons, List.length_nil]
      omega
theorem start_waits (d : Dv) (r : Rq) : (d.start r).1.waits = d.waits := by
  unfold Dv.start; split <;> rfl
theorem DvOk.put {d : Dv} (h : DvOk d) {p : Nat} {s : ByteArray} (hp : p < 32) (hs : s.size ≤ 16) : DvOk (d.put p s) := by
  refine ⟨h.kept, by simpa [Dv.put] using h.now, h.keptS, fun x hx => ?_, fun x hx => ?_, h.l, h.two⟩
  · rcases List.mem_or_eq_of_mem_set hx with hx | rfl
    · exact h.nowS x hx
    · exact hs
  · rcases List.mem_append.1 hx with hx | hx
    · exact h.waits x hx
    · simp at hx; subst hx; exact ⟨hp, hs⟩
theorem DvOk.wrote : ∀ {l : List ByteArray} {d : Dv} {p : Nat}, DvOk d → p + l.length ≤ 32 → (∀ s ∈ l, s.size ≤ 16) → DvOk (d.wrote p l)
  | [], _, _, h, _, _ => h
  | s :: l, d, p, h, hp, hs => by
    simp only [List.length_cons] at hp
    rw [Dv.wrote]
    exact DvOk.wrote (d := d.put p s) (p := p + 1) (h.put (by omega) (hs s (by simp))) (by omega) (fun x hx => hs x (by simp [hx]))
theorem DvOk.drop {d : Dv} (h : DvOk d) (i : Nat) : DvOk (d.drop i) :=
  ⟨h.kept, h.now, h.keptS, h.nowS, h.waits, fun r hr => h.l r (List.mem_of_mem_eraseIdx hr), Nat.le_trans (List.length_eraseIdx_le _ _) h.two⟩
theorem DvOk.ended {d : Dv} (h : DvOk d) {r : Rq} (hr : ReqOk r) (i : Nat) (f : Bool) : DvOk (d.ended r i f).1 ∧ (d.ended r i f).1.waits.length ≤ d.waits.length + 4 := by
  unfold Dv.ended
  split
  · exact ⟨h.drop i, by simp [Dv.drop]⟩
  · split
    · rename_i hw
      obtain ⟨p, n, h1, h2, h3, _, h4⟩ := hr.nats
      have h5 := hr.len hw
      refine ⟨(h.drop i).wrote (by rw [h1]; simp; omega) (fun s hs => Nat.le_trans (hr.size s hs) (by omega)), ?_⟩
      rw [(Dv.wrote_same _ _ _).2.2.2]
      show d.waits.length + _ ≤ _
      omega
    · exact ⟨h.drop i, by simp [Dv.drop]⟩
theorem DvOk.endAt {d : Dv} (h : DvOk d) (i : Int) (f : Bool) : DvOk (d.endAt i f).1 ∧ (d.endAt i f).1.waits.length ≤ d.waits.length + 4 := by
  unfold Dv.endAt
  split
  · exact ⟨h, by simp⟩
  · cases hr : d.l[i.toNat]? with
    | none => exact ⟨h, by simp⟩
    | some r => exact h.ended (reqF_zero (h.l r (List.mem_of_getElem? hr))) _ _
theorem DvOk.flush {d : Dv} (h : DvOk d) : DvOk d.flush := ⟨h.now, h.now, h.nowS, h.nowS, by simp [Dv.flush], h.l, h.two⟩
theorem keepFrom_mem {keep : Nat} : ∀ {l : List (Nat × ByteArray)} {K : List ByteArray} {i : Nat} {s : ByteArray}, s ∈ Dv.keepFrom keep K l i → s ∈ K ∨ ∃ p ∈ l, p.2 = s
  | [], K, i, s, h => .inl h
  | (p, u) :: l, K, i, s, h => by
    rw [Dv.keepFrom] at h
    rcases keepFrom_mem h with h | ⟨q, hq, e⟩
    · split at h
      · rcases List.mem_or_eq_of_mem_set h with h | rfl
        · exact .inl h
        · exact .inr ⟨_, List.mem_cons_self, rfl⟩
      · exact .inl h
    · exact .inr ⟨q, by simp [hq], e⟩
theorem DvOk.crash {d : Dv} (h : DvOk d) (keep : Nat) : DvOk (d.crash keep) := by
  have hs : ∀ s ∈ Dv.keepFrom keep d.kept d.waits 0, s.size ≤ 16 := fun s hs => by
    rcases keepFrom_mem hs with h1 | ⟨p, hp, rfl⟩
    · exact h.keptS s h1
    · exact (h.waits p hp).2
  have hl : (Dv.keepFrom keep d.kept d.waits 0).length = 32 := by rw [Dv.keepFrom_len, h.kept]
  exact ⟨hl, hl, hs, hs, by simp [Dv.crash], by simp [Dv.crash], by simp [Dv.crash]⟩
theorem DvOk.nowM {d : Dv} (h : DvOk d) : ∀ s ∈ d.now, s.size ≤ maxLen := fun s hs => Nat.le_trans (h.nowS s hs) (by simp [maxLen])
theorem endAt_split (d : Dv) (i : Int) : (i < 0 ∨ (d.l.length : Int) ≤ i) ∨ ∃ (k : Nat) (r : Rq), i = (k : Int) ∧ d.l[k]? = some r := by
  by_cases h : i < 0 ∨ (d.l.length : Int) ≤ i
  · exact .inl h
  · obtain ⟨k, rfl⟩ : ∃ k : Nat, i = (k : Int) := ⟨i.toNat, by omega⟩
    exact .inr ⟨k, d.l[k]'(by omega), rfl, List.getElem?_eq_getElem (by omega)⟩
end Go.Proofs.Ytojmnfelecnenaa
namespace Go.Proofs.Ytojmnfelecnenaa
set_option linter.unusedSimpArgs false
set_option linter.unusedVariables false
open Go.RowKit

structure Drv where
  d : Dv
  tries : Int → Int
def tagOf (r : Rq) : Int := r.tags.headD 0
/-- The driver ends the request i: what it has then, the result, is it done, what is wrong. -/
def Drv.endAt (v : Drv) (i : Int) (f : Bool) : Drv × Rs × Bool × Nat :=
  let q := v.d.endAt i f
  if q.2.2 ≠ 0 then ({ v with d := q.1 }, zeroRs, false, q.2.2)
  else if q.2.1.err = 0 then (⟨q.1, upd v.tries (tagOf q.2.1.req) 0⟩, q.2.1, true, 0)
  else if v.tries (tagOf q.2.1.req) + 1 < 3 then (⟨(q.1.start q.2.1.req).1, upd v.tries (tagOf q.2.1.req) (v.tries (tagOf q.2.1.req) + 1)⟩, zeroRs, false, (q.1.start q.2.1.req).2)
  else (⟨q.1, upd v.tries (tagOf q.2.1.req) 0⟩, q.2.1, true, 0)
/-- The driver v lies at bv, its disk at bd, its counts at bt. -/
structure DrvAt (TD TP TV : TypeId) (S F : Nat → Prop) (w : World) (bv bd bt n : Nat) (v : Drv) : Prop where
  row : w.heap[bv]? = some (.cells #[.pointer (some ⟨bd, 0, none⟩), .map (some bt)] TV (0, 0))
  map : ∃ f, MapAt w bt n f ∧ ∀ k, i64 k → f k = v.tries k
  dev : DevAt TD TP S F w bd v.d
  nv : ¬ F bv
  nt : ¬ F bt
  sv : ∀ k, S k → k ≠ bv ∧ k ≠ bt
section
variable {TD TP TV : TypeId} {S F : Nat → Prop} {w w' : World} {bv bd bt n : Nat} {v : Drv}
theorem DrvAt.ne (h : DrvAt TD TP TV S F w bv bd bt n v) : bv ≠ bt := by
  rintro rfl
  obtain ⟨f, ⟨D, ⟨es, clock, hb, _⟩, _⟩, _⟩ := h.map
  rw [h.row] at hb
  cases hb
theorem DrvAt.below (h : DrvAt TD TP TV S F w bv bd bt n v) (hb : Below w.heap.size w w') : DrvAt TD TP TV S F w' bv bd bt n v := by
  obtain ⟨f, hf, hv⟩ := h.map
  exact ⟨(hb.block _ (Array.getElem?_eq_some_iff.1 h.row).1).trans h.row, ⟨f, hf.keep (hb.block _ hf.lt), hv⟩, h.dev.below hb, h.nv, h.nt, h.sv⟩
end
end Go.Proofs.Ytojmnfelecnenaa
