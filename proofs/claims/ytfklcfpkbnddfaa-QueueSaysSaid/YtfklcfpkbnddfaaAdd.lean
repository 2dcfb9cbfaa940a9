/- queue.Add: first what it calls: does a request meet one of them? -/
import Derived.Test.YtfklcfpkbnddfaaMod4
import Derived.Test.YtfklcfpkbnddfaaLay
import Derived.Test.YtfklcfpkbnddfaaCheck2
import Derived.Test.YtfklcfpkbnddfaaTake
import Derived.Outline
namespace Go.Proofs.Ytfklcfpkbnddfaa
set_option linter.unusedSimpArgs false
set_option linter.unusedVariables false
open Go.RowKit Go.Sort

def meetsR (lo many : Int) (x : Rq) : Bool := meetB x.lo x.many lo many
set_option maxRecDepth 100000 in
theorem meets1_any (S : Nat → Prop) (x : Rq) (v : Value) (B : Nat) (T : TypeId) (lo many : Int) (w : World) (h : ReqAt S w v x) (hB : w.heap[B]? = some (.cells #[.int .i64 lo, .int .i64 many] T (0, 0))) (hx : SpanOk x.lo x.many 4) (hr : SpanOk lo many 4) :
    Calls Try.prog 61 #[v, .pointer (some ⟨B, 0, none⟩)] w (Ret (.bool (meetsR lo many x)) w) := by
  obtain ⟨Ad, cd, At, ct, rfl, _, _, _, _, _, _, _⟩ := h.opened
  obtain ⟨a1, a2, a3, a4, a5⟩ := hx
  obtain ⟨b1, b2, b3, b4, b5⟩ := hr
  have hlt : B < w.heap.size := by
    rcases Nat.lt_or_ge B w.heap.size with h | h
    · exact h
    · rw [Array.getElem?_eq_none h] at hB; cases hB
  have k : ∀ o, (w.alloc o).heap[B]? = some (.cells #[.int .i64 lo, .int .i64 many] T (0, 0)) := fun o => (Below.heap_alloc _ _ _ hlt).trans hB
  have c0 : ∀ o, (w.alloc o).cell? ⟨B, 0, none⟩ = some (.int .i64 lo) := fun o => cell_of_row _ _ 0 _ _ _ (k o)
  have c1 : ∀ o, (w.alloc o).cell? ⟨B, 1, none⟩ = some (.int .i64 many) := fun o => cell_of_row _ _ 1 _ _ _ (k o)
  clear k hB h
  go_enter Try.func61, Try.ntmps61
  go_wp2_with fail
  refine (meet_any _ _ _ _ _ a1 (by omega) (by omega) (by omega) b1 (by omega) (by omega) (by omega)).mono ?_
  rintro e w1 ⟨rfl, hb1⟩
  go_wp2
  go_ret
  exact ⟨rfl, ((Below.refl _ _).alloc (Nat.le_refl _) _).trans (hb1.mono (by simp))⟩

/-- It returns a number of which P holds, and writes nothing that was there. -/
def RetIdxB (P : Int → Prop) (w : World) : Ending → World → Prop := fun e w' => ∃ n : Int, e = .returned (.int .i64 n) ∧ P n ∧ Below w.heap.size w w'
theorem any_take_succ {α : Type} (p : α → Bool) (l : List α) (k : Nat) (x : α) (h : l[k]? = some x) : (l.take (k + 1)).any p = ((l.take k).any p || p x) := by
  rw [List.take_add_one, h]; simp
theorem any_yes {α : Type} (p : α → Bool) (l : List α) (k : Nat) (x : α) (h : l[k]? = some x) (hp : p x = true) : l.any p = true := by
  rw [List.any_eq_true]
  exact ⟨x, List.mem_of_getElem? h, hp⟩
theorem any_end {α : Type} (p : α → Bool) (l : List α) (k : Nat) (hk : l.length ≤ k) (h : (l.take k).any p = false) : l.any p = false := by
  rwa [List.take_of_length_le hk] at h

set_option maxRecDepth 100000 in
theorem index2_any (S : Nat → Prop) (l : List Rq) (v : Value) (B : Nat) (T : TypeId) (lo many : Int) (w : World) (h : ReqsAt S w v l) (hB : w.heap[B]? = some (.cells #[.int .i64 lo, .int .i64 many] T (0, 0))) (hl : ∀ x ∈ l, SpanOk x.lo x.many 4) (hr : SpanOk lo many 4) :
    Calls Try.prog 68 #[v, .func (.func 61) #[] #[.pointer (some ⟨B, 0, none⟩)]] w (RetIdxB (fun n => idxTells n (l.any (meetsR lo many))) w) := by
  obtain ⟨A, cap, rfl, h1, h2⟩ := h.form
  unfold maxLen at h2
  have Hl := Lib.hid h
  have HB := Lib.hid hB
  have Hs := Lib.hid hl
  have Hr := Lib.hid hr
  have hlt : B < w.heap.size := by
    rcases Nat.lt_or_ge B w.heap.size with h | h
    · exact h
    · rw [Array.getElem?_eq_none h] at hB; cases hB
  clear h hB hl hr
  go_enter Try.func68, Try.ntmps68
  go_wp2
  go_loopw [8] (fun i wr => ∃ k : Nat, k ≤ l.length ∧ i = .int .i64 k ∧ Below w.heap.size w wr ∧ Hid ((l.take k).any (meetsR lo many) = false)) (fun i _ => l.length - (intOf i).toNat)
  case atStart => exact ⟨0, by omega, rfl, Below.refl _ _, rfl⟩
  case round =>
    obtain ⟨k, hk, rfl, hw, hall⟩ := hrel
    by_cases hlt : k < l.length
    · obtain ⟨b, off, rfl, _, hb, hc⟩ := (Hl.out.below hw).at_ (by omega)
      have hx : l[k]? = some l[k] := List.getElem?_eq_getElem hlt
      obtain ⟨Ad, cd, At, ct, hok, k0, k1, k2, k3, k4, k5⟩ := hc k _ hx
      have Hok := Lib.hid hok
      clear hc hok
      have Hx := Lib.hid hx
      clear hx
      generalize l[k] = s at *
      have Hsx := Lib.hid (Hs.out s (List.mem_of_getElem? Hx.out))
      go_wp2_with fail
      refine (meets1_any S s _ B T lo many _ Hok.out ((hw.block _ (by assumption)).trans HB.out) Hsx.out Hr.out).mono ?_
      rintro e w1 ⟨rfl, hb1⟩
      have hw1 := hw.trans (hb1.mono hw.size)
      clear k0 k1 k2 k3 k4 k5 hb1
      cases hs : meetsR lo many s with
      | false =>
        have Hm := Lib.hid hs
        clear hs
        go_wp2_with fail
        go_roundw
        case rel => exact ⟨k + 1, by omega, by go_num, hw1, by show _ = false; rw [any_take_succ _ _ _ _ Hx.out, hall.out, Hm.out]; rfl⟩
        case measure => simp [intOf]; omega
      | true =>
        have Hm := Lib.hid hs
        clear hs
        go_wp2_with fail
        go_ret
        refine ⟨k, rfl, ?_, hw1⟩
        rw [any_yes _ _ _ _ Hx.out Hm.out]
        simp [idxTells]
    · go_wp2
      go_ret
      refine ⟨-1, rfl, ?_, hw⟩
      rw [any_end _ _ _ (by omega) hall.out]
      simp [idxTells]

theorem contains2_any (S : Nat → Prop) (l : List Rq) (v : Value) (B : Nat) (T : TypeId) (lo many : Int) (w : World) (h : ReqsAt S w v l) (hB : w.heap[B]? = some (.cells #[.int .i64 lo, .int .i64 many] T (0, 0))) (hl : ∀ x ∈ l, SpanOk x.lo x.many 4) (hr : SpanOk lo many 4) :
    Calls Try.prog 60 #[v, .func (.func 61) #[] #[.pointer (some ⟨B, 0, none⟩)]] w (Ret (.bool (l.any (meetsR lo many))) w) := by
  go_enter Try.func60, Try.ntmps60
  go_wp2_with fail
  refine (index2_any S l _ B T lo many _ h hB hl hr).mono ?_
  rintro e w1 ⟨n, rfl, hn, hb1⟩
  go_wp2_with fail
  go_ret
  refine ⟨?_, hb1⟩
  cases hb : (l.any (meetsR lo many)) with
  | true => rw [hb] at hn; have := hn.2 rfl; simp [this]
  | false => rw [hb] at hn; have : ¬ 0 ≤ n := fun h => by cases hn.1 h
             simp; omega

theorem meets_any (S : Nat → Prop) (l : List Rq) (v : Value) (lo many : Int) (w : World) (h : ReqsAt S w v l) (hl : ∀ x ∈ l, SpanOk x.lo x.many 4) (hr : SpanOk lo many 4) :
    Calls Try.prog 50 #[v, spanV lo many] w (Ret (.bool (l.any (meetsR lo many))) w) := by
  obtain ⟨A, cap, rfl, h1, h2⟩ := h.form
  have H := Lib.hid h
  have Hl := Lib.hid hl
  have Hr := Lib.hid hr
  clear h hl hr
  go_enter Try.func50, Try.ntmps50
  go_wp2_with fail
  have hb0 := (Below.refl w.heap.size w).alloc (Nat.le_refl _) (Obj.cells #[Value.int IntKind.i64 lo, Value.int IntKind.i64 many] 23)
  refine (contains2_any S l _ _ 23 lo many _ (H.out.below hb0) (heap_alloc_new w _) Hl.out Hr.out).mono ?_
  rintro e w1 ⟨rfl, hb1⟩
  have hb2 := hb0.trans (hb1.mono hb0.size)
  go_wp2
  go_ret
  exact ⟨rfl, hb2⟩
end Go.Proofs.Ytfklcfpkbnddfaa
