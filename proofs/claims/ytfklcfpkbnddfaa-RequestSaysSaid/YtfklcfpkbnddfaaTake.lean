/- queue.Take: the requests without one, and that one. -/
import Derived.Test.YtfklcfpkbnddfaaDelete
import Derived.Test.YtfklcfpkbnddfaaMem2
import Derived.Deep.RegionHeld3
namespace Go.Proofs.Ytfklcfpkbnddfaa
set_option linter.unusedSimpArgs false
set_option linter.unusedVariables false
open Go.RowKit

theorem own_keep {w w' : World} {base : Nat} {e : TypeId} {size n : Nat} {g cap k : Nat} {xs : List Value} (h : w.ownsRow base e size (.slice (some ⟨g, k, none⟩) n cap) n xs) (hk : w'.heap[g]? = w.heap[g]?) :
    w'.ownsRow base e size (.slice (some ⟨g, k, none⟩) n cap) n xs := by
  obtain ⟨h1, h2⟩ := h
  refine ⟨h1, ?_⟩
  rcases h2 with h2 | ⟨g', cap', cur, hv, hb, hh, h3⟩
  · exact .inl h2
  · cases hv
    exact .inr ⟨g, cap, cur, rfl, hb, hk.trans hh, h3⟩
theorem own_form {w : World} {base : Nat} {e : TypeId} {size n : Nat} {v : Value} {xs : List Value} (h : w.ownsRow base e size v n xs) (hn : 0 < n) :
    ∃ g cap, v = .slice (some ⟨g, 0, none⟩) n cap ∧ base ≤ g ∧ g < w.heap.size ∧ n ≤ cap ∧ cap ≤ 9223372036854775807 := by
  rcases h.2 with ⟨_, h0⟩ | ⟨g, cap, cur, hv, hb, hh, h3, h4, _⟩
  · omega
  · subst hv
    unfold maxLen at h4
    exact ⟨g, cap, rfl, hb, (h.lt g rfl).2, h3, by omega⟩
theorem flat_take (cs : List Rc) : ∀ i, (cs.flatMap Rc.cells).take (i * 6) = (cs.take i).flatMap Rc.cells := by
  induction cs with
  | nil => simp
  | cons c cs ih =>
    intro i
    cases i with
    | zero => simp
    | succ i =>
      rw [List.flatMap_cons, List.take_succ_cons, List.flatMap_cons, ← ih, List.take_append]
      have : (i + 1) * 6 - c.cells.length = i * 6 := by simp [Rc.cells]; omega
      rw [this, List.take_of_length_le (by simp [Rc.cells]; omega)]
theorem flat_drop (cs : List Rc) : ∀ i, (cs.flatMap Rc.cells).drop (i * 6) = (cs.drop i).flatMap Rc.cells := by
  induction cs with
  | nil => simp
  | cons c cs ih =>
    intro i
    cases i with
    | zero => simp
    | succ i =>
      rw [List.flatMap_cons, List.drop_succ_cons, ← ih, List.drop_append]
      have : (i + 1) * 6 - c.cells.length = i * 6 := by simp [Rc.cells]; omega
      rw [this, List.drop_eq_nil_of_le (by simp [Rc.cells]; omega)]; rfl
theorem cells_one {S : Nat → Prop} {w : World} {cs : List Rc} (h : ∀ c ∈ cs, RcOk S w c) : ∀ u ∈ cs.flatMap Rc.cells, u.oneCell' = true := by
  intro u hu
  obtain ⟨c, hc, hu⟩ := List.mem_flatMap.1 hu
  have hok := h c hc
  obtain ⟨_, _, e1, _, _⟩ := hok.data.form
  obtain ⟨_, _, e2, _, _⟩ := hok.tags.form
  simp only [Rc.cells, e1, e2, List.mem_cons, List.not_mem_nil, or_false] at hu
  rcases hu with rfl | rfl | rfl | rfl | rfl | rfl <;> rfl
theorem reqs_of_own {S : Nat → Prop} {w : World} {base : Nat} {e : TypeId} {v : Value} {cs : List Rc} (hS : ∀ b, base ≤ b → S b) (h : w.ownsRow base e 6 v cs.length (cs.flatMap Rc.cells)) (hc : ∀ c ∈ cs, RcOk S w c) : ReqsAt S w v (cs.map (·.r)) :=
  ⟨cs, rfl, Rd.of_own w hS h, hc⟩

theorem keep6 {W w1 : World} {b o : Nat} {v0 v1 v2 v3 v4 v5 : Value} {B : Nat} (hb : Below B W w1) (hlt : b < B) (h : W.cell? ⟨b, o, none⟩ = some v0 ∧ W.cell? ⟨b, o + 1, none⟩ = some v1 ∧ W.cell? ⟨b, o + 2, none⟩ = some v2 ∧ W.cell? ⟨b, o + 3, none⟩ = some v3 ∧
    W.cell? ⟨b, o + 4, none⟩ = some v4 ∧ W.cell? ⟨b, o + 5, none⟩ = some v5) : w1.cell? ⟨b, o, none⟩ = some v0 ∧ w1.cell? ⟨b, o + 1, none⟩ = some v1 ∧ w1.cell? ⟨b, o + 2, none⟩ = some v2 ∧ w1.cell? ⟨b, o + 3, none⟩ = some v3 ∧
    w1.cell? ⟨b, o + 4, none⟩ = some v4 ∧ w1.cell? ⟨b, o + 5, none⟩ = some v5 := by
  obtain ⟨h0, h1, h2, h3, h4, h5⟩ := h
  exact ⟨(hb.cell (p := ⟨b, _, none⟩) hlt).trans h0, (hb.cell (p := ⟨b, _, none⟩) hlt).trans h1, (hb.cell (p := ⟨b, _, none⟩) hlt).trans h2, (hb.cell (p := ⟨b, _, none⟩) hlt).trans h3, (hb.cell (p := ⟨b, _, none⟩) hlt).trans h4, (hb.cell (p := ⟨b, _, none⟩) hlt).trans h5⟩

theorem box6 {W : World} {B : Nat} {T : TypeId} {v0 v1 v2 v3 v4 v5 : Value} (h : W.heap[B]? = some (.cells #[v0, v1, v2, v3, v4, v5] T (0, 0))) :
    (W.cell? ⟨B, 0, none⟩ = some v0 ∧ W.frozen? ⟨B, 0, none⟩ = false) ∧ (W.cell? ⟨B, 1, none⟩ = some v1 ∧ W.frozen? ⟨B, 1, none⟩ = false) ∧ (W.cell? ⟨B, 2, none⟩ = some v2 ∧ W.frozen? ⟨B, 2, none⟩ = false) ∧
    (W.cell? ⟨B, 3, none⟩ = some v3 ∧ W.frozen? ⟨B, 3, none⟩ = false) ∧ (W.cell? ⟨B, 4, none⟩ = some v4 ∧ W.frozen? ⟨B, 4, none⟩ = false) ∧ (W.cell? ⟨B, 5, none⟩ = some v5 ∧ W.frozen? ⟨B, 5, none⟩ = false) :=
  ⟨⟨cell_of_row _ _ 0 _ _ _ h, frozen_of_row _ _ 0 _ _ h⟩, ⟨cell_of_row _ _ 1 _ _ _ h, frozen_of_row _ _ 1 _ _ h⟩, ⟨cell_of_row _ _ 2 _ _ _ h, frozen_of_row _ _ 2 _ _ h⟩, ⟨cell_of_row _ _ 3 _ _ _ h, frozen_of_row _ _ 3 _ _ h⟩,
    ⟨cell_of_row _ _ 4 _ _ _ h, frozen_of_row _ _ 4 _ _ h⟩, ⟨cell_of_row _ _ 5 _ _ _ h, frozen_of_row _ _ 5 _ _ h⟩⟩

theorem own_keep' {w w' : World} {base : Nat} {e : TypeId} {size n : Nat} {v : Value} {xs : List Value} (h : w.ownsRow base e size v n xs) (hk : ∀ g, base ≤ g → w'.heap[g]? = w.heap[g]?) : w'.ownsRow base e size v n xs := by
  obtain ⟨h1, h2⟩ := h
  refine ⟨h1, ?_⟩
  rcases h2 with h2 | ⟨g', cap', cur, hv, hb, hh, h3⟩
  · exact .inl h2
  · exact .inr ⟨g', cap', cur, hv, hb, (hk _ hb).trans hh, h3⟩

theorem own_base {w : World} {base base' : Nat} {e : TypeId} {size n : Nat} {v : Value} {xs : List Value} (h : w.ownsRow base e size v n xs) (hb : base' ≤ base) : w.ownsRow base' e size v n xs := by
  obtain ⟨h1, h2⟩ := h
  refine ⟨h1, ?_⟩
  rcases h2 with h2 | ⟨g', cap', cur, hv, hbb, hh, h3⟩
  · exact .inl h2
  · exact .inr ⟨g', cap', cur, hv, by omega, hh, h3⟩
/-- A list of requests, in a row of the call's own. -/
def ReqsOwn (S : Nat → Prop) (base : Nat) (w : World) (v : Value) (l : List Rq) : Prop := ∃ cs : List Rc, cs.map (·.r) = l ∧ w.ownsRow base 45 6 v cs.length (cs.flatMap Rc.cells) ∧ ∀ c ∈ cs, RcOk (fun b => S b ∧ b < base) w c
theorem ReqsOwn.at_ {S : Nat → Prop} {base : Nat} {w : World} {v : Value} {l : List Rq} (h : ReqsOwn S base w v l) (hS : ∀ b, base ≤ b → S b) : ReqsAt S w v l := by
  obtain ⟨cs, rfl, h1, h2⟩ := h
  exact reqs_of_own hS h1 (fun c hc => (h2 c hc).more (fun b hb => hb.1))

def RetTake (S : Nat → Prop) (l : List Rq) (r : Rq) (w : World) : Ending → World → Prop := fun E w' => ∃ v' rv, E = .returned (.tuple #[v', rv]) ∧ ReqsOwn S w.heap.size w' v' l ∧ ReqAt (fun b => S b ∧ b < w.heap.size) w' rv r ∧ Below w.heap.size w w'

set_option maxRecDepth 100000 in
set_option maxHeartbeats 2000000 in
theorem take_any (S : Nat → Prop) (l : List Rq) (v : Value) (i : Nat) (r : Rq) (w : World) (h : ReqsAt S w v l) (hS : ∀ b, w.heap.size ≤ b → S b) (hi : l[i]? = some r) (hn : l.length ≤ 65536) :
    Calls Try.prog 32 #[v, .int .i64 i] w (RetTake S (l.eraseIdx i) r w) := by
  have H := Lib.hid h
  have hS' := Lib.hid hS
  have hlt : i < l.length := by
    rcases Nat.lt_or_ge i l.length with h | h
    · exact h
    · rw [List.getElem?_eq_none h] at hi; cases hi
  obtain ⟨cs, hcs, hrd, hok⟩ := h
  have hlen : cs.length = l.length := by rw [← hcs, List.length_map]
  have h1 := Lib.hid (cells_one hok)
  have Hrd := Lib.hid hrd
  have Hok := Lib.hid hok
  obtain ⟨A, cap, rfl, _, hcap⟩ := H.out.form
  obtain ⟨b, off, rfl, _, hbl, hc⟩ := H.out.at_ (by omega)
  obtain ⟨Ad, cd, At, ct, hreq, k0, k1, k2, k3, k4, k5⟩ := hc i r hi
  have Hc := Lib.hid hreq
  have Hcs := Lib.hid hcs
  have Hi := Lib.hid hi
  unfold maxLen at hcap
  clear hc hok hrd hcs hreq hi hS
  have Hlen := Lib.hid hlen
  have hii : (i : Int) < (l.length : Int) := by omega
  have hw1 : IntKind.i64.wrap ((i : Int) + 1) = (i : Int) + 1 := IntWalk.i64_in _ (by omega)
  go_enter Try.func32, Try.ntmps32
  go_wp2_with fail
  clear hlen
  have hT := (Below.refl w.heap.size w).alloc (Nat.le_refl _) (Obj.cells #[Value.bool false, Value.int IntKind.i64 0, Value.int IntKind.i64 0, Value.slice none 0 0, Value.slice none 0 0, Value.int IntKind.i64 0] 45)
  have hbox := heap_alloc_new w (Obj.cells #[Value.bool false, Value.int IntKind.i64 0, Value.int IntKind.i64 0, Value.slice none 0 0, Value.slice none 0 0, Value.int IntKind.i64 0] 45)
  have hsz : (w.alloc (Obj.cells #[Value.bool false, Value.int IntKind.i64 0, Value.int IntKind.i64 0, Value.slice none 0 0, Value.slice none 0 0, Value.int IntKind.i64 0] 45)).heap.size = w.heap.size + 1 := by simp
  generalize w.alloc (Obj.cells #[Value.bool false, Value.int IntKind.i64 0, Value.int IntKind.i64 0, Value.slice none 0 0, Value.slice none 0 0, Value.int IntKind.i64 0] 45) = W at hT hbox hsz ⊢
  have Hbox := Lib.hid hbox
  have Hsz := Lib.hid hsz
  have hlW : b < W.heap.size := by omega
  have hTd := hT.drew
  have hTW := hT.size
  have hK := keep6 hT hbl ⟨k0, k1, k2, k3, k4, k5⟩
  have HK := Lib.hid hK
  have HK0 := Lib.hid (And.intro k0 (And.intro k1 (And.intro k2 (And.intro k3 (And.intro k4 k5)))))
  obtain ⟨q0, q1, q2, q3, q4, q5⟩ := hK
  clear k0 k1 k2 k3 k4 k5 hbox hsz
  go_region_held3 (fun w' => w'.cell? ⟨b, off + i * 6, none⟩ = some (.bool r.write) ∧ w'.cell? ⟨b, off + i * 6 + 1, none⟩ = some (.int .i64 r.lo) ∧ w'.cell? ⟨b, off + i * 6 + 2, none⟩ = some (.int .i64 r.many) ∧
      w'.cell? ⟨b, off + i * 6 + 3, none⟩ = some (.slice Ad r.data.length cd) ∧ w'.cell? ⟨b, off + i * 6 + 4, none⟩ = some (.slice At r.tags.length ct) ∧ w'.cell? ⟨b, off + i * 6 + 5, none⟩ = some (.int .i64 r.born))
    (((with_reducible refine keep6 (W := w) ?hb hbl HK0.out); case hb => repeat (first | (with_reducible exact hT2) | (with_reducible exact hT1) | (with_reducible exact hT) | ((with_reducible refine Below.setCell ?_ ?hp _); case hp => simp) | (with_reducible refine Below.drew ?_))))
    (first
      | (go_at_call 51; refine (clone_any S _ l.length (cs.flatMap Rc.cells) W.drew (Hlen.out ▸ Hrd.out.below hTd) h1.out hn).mono ?_; rintro e w1 ⟨v1, rfl, hown1, hb1'⟩; have hb1 : Below W.heap.size W.drew w1 := hb1'; have hT1 := hTd.trans (hb1.mono hTW); obtain ⟨g, cap1, rfl, hg1, hg2, _, _⟩ := own_form hown1 (by omega))
      | (go_at_call 52; refine (delete_any W.heap.size g l.length cap1 i (cs.flatMap Rc.cells) w1 hown1 h1.out hlt hn).mono ?_; rintro e w2 ⟨v2, rfl, hown2, hgr2⟩; have hb2 := hb1.grown hgr2 hb1.size (fun k hk => by cases hk; exact hg1); have hT2 := hTd.trans (hb2.mono hTW); obtain ⟨⟨c0, f0⟩, ⟨c1, f1⟩, ⟨c2, f2⟩, ⟨c3, f3⟩, ⟨c4, f4⟩, ⟨c5, f5⟩⟩ := box6 ((hb2.block _ (by have := Hsz.out; omega)).trans Hbox.out)))
  go_wp2_with fail
  have hF : Below w.heap.size w ((((((w2.setCell ⟨w.heap.size, 0, none⟩ (.bool r.write)).setCell ⟨w.heap.size, 1, none⟩ (.int .i64 r.lo)).setCell ⟨w.heap.size, 2, none⟩ (.int .i64 r.many)).setCell ⟨w.heap.size, 3, none⟩ (.slice Ad r.data.length cd)).setCell
      ⟨w.heap.size, 4, none⟩ (.slice At r.tags.length ct)).setCell ⟨w.heap.size, 5, none⟩ (.int .i64 r.born)) := by
    repeat (first | (with_reducible exact hT2) | ((with_reducible refine Below.setCell ?_ ?hp _); case hp => simp))
  have hG : ∀ k, W.heap.size ≤ k → ((((((w2.setCell ⟨w.heap.size, 0, none⟩ (.bool r.write)).setCell ⟨w.heap.size, 1, none⟩ (.int .i64 r.lo)).setCell ⟨w.heap.size, 2, none⟩ (.int .i64 r.many)).setCell ⟨w.heap.size, 3, none⟩ (.slice Ad r.data.length cd)).setCell
      ⟨w.heap.size, 4, none⟩ (.slice At r.tags.length ct)).setCell ⟨w.heap.size, 5, none⟩ (.int .i64 r.born)).heap[k]? = w2.heap[k]? := by
    intro k hk
    have hz := Hsz.out
    repeat ((with_reducible rw [heap_setCell_other _ _ _ _ ?hp]); case hp => (show k ≠ w.heap.size; omega))
  clear hT2 hT1 hb2 hb1 hb1' hgr2 hown1 hTd hT HK HK0
  refine bodyPost_ret (v := .tuple #[v2, rqV r (.slice Ad r.data.length cd) (.slice At r.tags.length ct)]) (by simp [results, Try.results32, go_sem, c0, c1, c2, c3, c4, c5, f0, f1, f2, f3, f4, f5]) rfl ⟨v2, _, rfl, ?_, Hc.out.lt.below hF, hF⟩
  have e : l.eraseIdx i = (cs.take i ++ cs.drop (i + 1)).map (·.r) := by
    rw [← Hcs.out, List.eraseIdx_eq_take_drop_succ]; simp
  refine ⟨_, e.symm, own_base (base := W.heap.size) (own_keep' ?_ hG) (by omega), fun c hc => ?_⟩
  · have e2 : (cs.take i ++ cs.drop (i + 1)).length = l.length - 1 := by have := Hlen.out; simp; omega
    rw [e2, List.flatMap_append, ← flat_take, ← flat_drop]
    exact hown2
  · have hc' : c ∈ cs := by
      rcases List.mem_append.1 hc with h | h
      · exact List.mem_of_mem_take h
      · exact List.mem_of_mem_drop h
    exact (Hok.out c hc').lt.below hF
end Go.Proofs.Ytfklcfpkbnddfaa
