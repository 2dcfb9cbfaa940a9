/- queue: a request of one sector, if it may be. gen_stqueue.py prints this text. slices.Clone of sectors. -/
import Derived.Test.YtinknleckppciaaGreatDoorR27
import Derived.Test.YtinknleckppciaaGreatDoorR14
import Derived.Deep.RegionHeld3
import Derived.Test.YtinknleckppciaaGreatDoorR6
import Derived.Test.YtinknleckppciaaGreatDoorR24
import Derived.Outline
namespace Go.Proofs.YtinknleckppciaaGreatDoor
set_option linter.unusedSimpArgs false
set_option linter.unusedVariables false
open Go.RowKit Go.Sort

/-- Who asks does so by the same pointer, or no more. -/
def Avs (x y : Sv) (t : St) : Prop := ∀ j, j < 3 → y.av j = x.av j ∨ t.askAt j = none
theorem Avs.refl {x : Sv} {t : St} : Avs x x t := fun _ _ => .inl rfl
theorem Avs.wait {x : Sv} {t : St} {v : Value} : Avs x { x with wait := v } t := fun _ _ => .inl (by unfold Sv.av; split <;> rfl)
theorem Avs.bufs {x : Sv} {t : St} {v : Value} : Avs x { x with bufs := v } t := fun _ _ => .inl (by unfold Sv.av; split <;> rfl)
theorem Avs.ans {x y : Sv} {t : St} {c : Nat} {d : ByteArray} {e : Nat} (h : Avs x y t) (h3 : t.asks.length = 3) (hc : c < 3) : Avs x (y.ans c d e) (t.answer c d e) := fun j hj => by
  rw [askAt_answer h3 hc]
  by_cases hj' : j = c
  · right; rw [if_pos hj']
  · rw [if_neg hj']
    refine (h j hj).imp (fun h => ?_) id
    rw [← h]
    match c, hc, j, hj with
    | 0, _, 0, _ => exact absurd rfl hj'
    | 0, _, 1, _ => rfl
    | 0, _, 2, _ => rfl
    | 1, _, 0, _ => rfl
    | 1, _, 1, _ => exact absurd rfl hj'
    | 1, _, 2, _ => rfl
    | 2, _, 0, _ => rfl
    | 2, _, 1, _ => rfl
    | 2, _, 2, _ => exact absurd rfl hj'
theorem Avs.trans {x y z : Sv} {t u : St} (h : Avs x y t) (k : Avs y z u) (hn : ∀ j, t.askAt j = none → u.askAt j = none) : Avs x z u := fun j hj => by
  rcases k j hj with k | k
  · rcases h j hj with h | h
    · exact .inl (k.trans h)
    · exact .inr (hn j h)
  · exact .inr k
/-- It returns v; of what was there only the stack's own block was written; what it may write is what it was. -/
def Ret2 (T : Tys) (col : Nat → Nat) (w : World) (b bd N : Nat) (x : Sv) (t : St) (v : Value) : Ending → World → Prop := fun e w' => ∃ y, e = .returned v ∧ StAt T col w' b bd N y t ∧ Chg (fun k => k = b) w w' ∧ Avs x y t
def S0 (col : Nat → Nat) : Nat → Prop := fun k => col k = 0
theorem rd_1 {S : Nat → Prop} {w : World} {b : Nat} {T : TypeId} {u : Value} (hb : w.heap[b]? = some (.cells #[u] T (0, 0))) (hS : S b) : Rd S w 1 (.slice (some ⟨b, 0, none⟩) 1 1) 1 [u] :=
  ⟨_, _, rfl, by omega, by simp [maxLen], rfl, fun _ => ⟨b, 0, rfl, hS, fun j v hv => by rw [Nat.zero_add, cell_of_row _ _ _ _ _ _ hb]; simpa using hv⟩⟩
section
variable {T : Tys} {col : Nat → Nat} {w w1 w2 w' : World} {b bd N : Nat} {x : Sv} {s : St}
theorem StAt.s0 (h : StAt T col w b bd N x s) : ∀ k, w.heap.size ≤ k → S0 col k := fun k hk => by
  rcases Nat.eq_zero_or_pos (col k) with h2 | h2
  · exact h2
  · have := h.lt k (by omega); omega
theorem S0.im {v : Value} {l : List Rq} (h : ReqsAt (S0 col) w v l) : ReqsAt (Im w col) w v l := h.lt.more (fun k hk => ⟨hk.2, hk.1⟩)
/-- The list of requests that wait, and the tag, are others now. -/
theorem StAt.queued (h : StAt T col w b bd N x s) (hb : Same1 b w w') {v : Value} {l : List Rq} {t : Int} (hv : ReqsAt (S0 col) w v l) (hrow : w'.heap[b]? = some (.cells (({ x with wait := v } : Sv).row { s with wait := l, tag := t } bd) T.S (0, 0))) :
    StAt T col w' b bd N { x with wait := v } { s with wait := l, tag := t } := by
  refine h.turn1 hb hrow rfl rfl rfl rfl h.bufs (S0.im hv) h.asks (fun c hc => ?_) h.done h.errs
  have := h.ask c hc
  match c, hc with | 0, _ => exact this | 1, _ => exact this | 2, _ => exact this
end
set_option maxRecDepth 100000 in
set_option maxHeartbeats 4000000 in
theorem queue_any (col : Nat → Nat) (w : World) (b bd N : Nat) (x : Sv) (s : St) (wb : Bool) (p : Int) (d : ByteArray) (h : StAt Ts col w b bd N x s) (hi : ∀ r ∈ s.wait, ReqOk r) (h6 : s.wait.length ≤ 6) (ht : 0 ≤ s.tag ∧ s.tag ≤ 1000000000) (hn : 0 ≤ s.now ∧ s.now ≤ 1000000000) (hp : 0 ≤ p ∧ p ≤ 31) (hd : d.size ≤ 16) :
    Calls Tryz.prog 44 #[.pointer (some ⟨b, 0, none⟩), .bool wb, .int .i64 p, .string d] w (Ret2 Ts col w b bd N x (s.queue wb p d).1 (.bool (s.queue wb p d).2)) := by
  have H := Lib.hid h
  have Hi := Lib.hid hi
  have H6 := Lib.hid h6
  have c8 : w.cell? ⟨b, 8, none⟩ = some (.int .i64 s.now) := h.cell 8
  have c10 : w.cell? ⟨b, 10, none⟩ = some (.int .i64 s.tag) := h.cell 10
  have hw : IntKind.i64.wrap (s.tag + 1) = s.tag + 1 := by rw [IntKind.wrap_i64]; omega
  have hbl := h.bl
  have Hs0 := Lib.hid h.s0
  obtain ⟨rq, hrq⟩ : ∃ r, s.reqOf wb p d = r := ⟨_, rfl⟩
  have Hrq := Lib.hid hrq
  clear h hi h6 hrq
  cases wb with
  | true =>
    go_enter Tryz.func44, Tryz.ntmps44
    go_wp2_with fail
    go_region
    · have L := ((((LayF.refl (fun _ => False) w).alloc' (w.heap.size) #[.int .i64 (s.tag + 1)] 3 rfl).alloc' (w.heap.size + 1) #[.bool true, .int .i64 p, .int .i64 1, .slice none 0 0, .slice (some ⟨w.heap.size, 0, none⟩) 1 1, .int .i64 s.now] 97 (by simp)).drew)
      generalize World.drew _ = W1 at L ⊢
      have Hz1 : Hid (w.heap.size < W1.heap.size) := show _ < _ by have := L.lt (List.mem_cons_self ..); have := L.own _ (List.mem_cons_self ..); omega
      obtain ⟨n2, hn2⟩ : ∃ n, W1.heap.size = n := ⟨_, rfl⟩
      have L2 := L.alloc' n2 #[.string d] 9 hn2
      obtain ⟨q0, q1, q2, q3, q4, q5⟩ := L2.c6 1 rfl
      have hfr := L2.frozen 1 rfl 3
      go_wp2_with fail
      have L3 := L2.set 1 rfl 3 (.slice (some ⟨n2, 0, none⟩) 1 1)
      clear q0 q1 q2 q3 q4 q5 hfr hn2 L2 L
      generalize World.setCell _ _ _ = W3 at L3 ⊢
      have HL3 := Lib.hid L3
      have HB : Hid (Below w.heap.size w W3) := show Below _ _ _ from L3.chg.below (fun _ h => h.elim) (Nat.le_refl _)
      clear L3 c8 c10
      have H3 := Lib.hid (H.out.below HB.out)
      have H3d := Lib.hid (H3.out.below (Below.refl _ _).drew)
      have c3 := H3.out.cell 3
      rw [show (x.row s bd)[3]? = some x.wait from rfl] at c3
      obtain ⟨q0, q1, q2, q3, q4, q5⟩ := HL3.out.c6 1 rfl
      have hrq : ReqAt (S0 col) W3.drew (.agg #[.bool true, .int .i64 p, .int .i64 1, .slice (some ⟨n2, 0, none⟩) 1 1, .slice (some ⟨w.heap.size, 0, none⟩) 1 1, .int .i64 s.now]) rq := by
        rw [← Hrq.out]
        refine ReqAt.below (w := W3) ⟨⟨⟨true, p, 1, [d], [s.tag + 1], s.now⟩, .slice (some ⟨n2, 0, none⟩) 1 1, .slice (some ⟨w.heap.size, 0, none⟩) 1 1⟩, rfl, rfl, ?_, ⟨rd_1 (HL3.out.at_ 2 rfl) (Hs0.out _ (by omega)), fun y hy => by simp at hy; subst hy; omega⟩, by unfold i64; simp only; omega, by unfold i64; simp only; omega, by unfold i64; simp only; omega⟩ (Below.refl _ _).drew
        exact ⟨rd_1 (HL3.out.at_ 0 rfl) (Hs0.out _ (by have := HL3.out.own _ (List.mem_cons_self ..); simpa using this)), fun y hy => by simp at hy; subst hy; simp only [maxLen]; omega⟩
      have Hrqa := Lib.hid hrq
      have HWt : Hid (ReqsAt (S0 col) W3.drew x.wait s.wait) := H3d.out.wait.more (fun k hk => hk.2)
      have Hsz0 := Lib.hid H3d.out.s0
      have H6' : Hid (s.wait.length ≤ 60000) := show _ ≤ _ by have := H6.out; omega
      clear hrq
      go_wp2_with fail
      have K0 : W3.drew.cell? ⟨b, 3, none⟩ = some x.wait ∧ W3.drew.cell? ⟨w.heap.size + 1, 0, none⟩ = some (.bool true) ∧ W3.drew.cell? ⟨w.heap.size + 1, 1, none⟩ = some (.int .i64 p) ∧ W3.drew.cell? ⟨w.heap.size + 1, 2, none⟩ = some (.int .i64 1) ∧ W3.drew.cell? ⟨w.heap.size + 1, 3, none⟩ = some (.slice (some ⟨n2, 0, none⟩) 1 1) ∧ W3.drew.cell? ⟨w.heap.size + 1, 4, none⟩ = some (.slice (some ⟨w.heap.size, 0, none⟩) 1 1) ∧ W3.drew.cell? ⟨w.heap.size + 1, 5, none⟩ = some (.int .i64 s.now) := ⟨c3, q0, q1, q2, q3, q4, q5⟩
      go_region_held3 (fun u => u.cell? ⟨b, 3, none⟩ = some x.wait ∧ u.cell? ⟨w.heap.size + 1, 0, none⟩ = some (.bool true) ∧ u.cell? ⟨w.heap.size + 1, 1, none⟩ = some (.int .i64 p) ∧ u.cell? ⟨w.heap.size + 1, 2, none⟩ = some (.int .i64 1) ∧ u.cell? ⟨w.heap.size + 1, 3, none⟩ = some (.slice (some ⟨n2, 0, none⟩) 1 1) ∧ u.cell? ⟨w.heap.size + 1, 4, none⟩ = some (.slice (some ⟨w.heap.size, 0, none⟩) 1 1) ∧ u.cell? ⟨w.heap.size + 1, 5, none⟩ = some (.int .i64 s.now))
        (first | exact K1 | exact K0)
        (first
          | ((with_reducible refine (add_any (S0 col) s.wait rq _ _ _ Hsz0.out HWt.out Hrqa.out Hi.out H6'.out).mono ?_); rintro e u1 ⟨v1, rfl, hv1, hb1⟩; have HB1 := Lib.hid hb1; have Hv1 := Lib.hid hv1; have K1 : u1.cell? ⟨b, 3, none⟩ = some x.wait ∧ u1.cell? ⟨w.heap.size + 1, 0, none⟩ = some (.bool true) ∧ u1.cell? ⟨w.heap.size + 1, 1, none⟩ = some (.int .i64 p) ∧ u1.cell? ⟨w.heap.size + 1, 2, none⟩ = some (.int .i64 1) ∧ u1.cell? ⟨w.heap.size + 1, 3, none⟩ = some (.slice (some ⟨n2, 0, none⟩) 1 1) ∧ u1.cell? ⟨w.heap.size + 1, 4, none⟩ = some (.slice (some ⟨w.heap.size, 0, none⟩) 1 1) ∧ u1.cell? ⟨w.heap.size + 1, 5, none⟩ = some (.int .i64 s.now) := (by obtain ⟨a0, a1, a2, a3, a4, a5, a6⟩ := K0; exact ⟨cell_b hb1 a0, cell_b hb1 a1, cell_b hb1 a2, cell_b hb1 a3, cell_b hb1 a4, cell_b hb1 a5, cell_b hb1 a6⟩); clear hv1 hb1)
          | fail)
      have H4 := Lib.hid (H3d.out.below HB1.out)
      have c10 := H4.out.cell 10
      have c3' := H4.out.cell 3
      rw [show (x.row s bd)[10]? = some (.int .i64 s.tag) from rfl] at c10
      rw [show (x.row s bd)[3]? = some x.wait from rfl] at c3'
      have f3 := H4.out.frozen 3
      have f10 := H4.out.frozen 10
      have HC : Hid (Chg (fun k => k = b) w u1) := show Chg _ _ _ from Chg.of_below (HB.out.trans (((Below.refl _ _).drew.trans HB1.out).mono HB.out.size))
      clear K0 K1 c3 q0 q1 q2 q3 q4 q5
      have hqe : s.queue true p d = if (addM s.wait rq).2 = 0 then ({ s with wait := (addM s.wait rq).1, tag := s.tag + 1 }, true) else (s, false) := by rw [← Hrq.out]; rfl
      by_cases h0 : (addM s.wait rq).2 = 0
      · rw [if_pos h0] at hqe
        have Hqe := Lib.hid hqe
        rw [h0]
        have he0 := errV_zero
        obtain ⟨A1, cp1, e1, _, _⟩ := Hv1.out.form
        subst e1
        clear hqe h0
        go_wp2_with fail
        go_ret
        rw [Hqe.out]
        have hS := ((Same1.refl (b := b) (w := u1)).setCell 3 (.slice A1 (addM s.wait rq).1.length cp1)).setCell 10 (.int .i64 (s.tag + 1))
        exact ⟨_, rfl, H4.out.queued hS Hv1.out (heap_setCell_same _ _ 10 _ _ _ (heap_setCell_same _ _ 3 _ _ _ H4.out.row)), HC.out.trans ((hS.chg (F := fun k => k = b) rfl).mono (fun k hk => .inl hk)), .wait⟩
      · rw [if_neg h0] at hqe
        have Hqe := Lib.hid hqe
        have hb0 : ((addM s.wait rq).2 == 0) = false := by simpa using h0
        clear hqe h0
        go_wp2_with fail
        go_ret
        rw [Hqe.out]
        exact ⟨_, rfl, H4.out, HC.out, .refl⟩
    · have L := ((((LayF.refl (fun _ => False) w).alloc' (w.heap.size) #[.bool true, .int .i64 p, .int .i64 1, .slice none 0 0, .slice (some ⟨w.heap.size + 1, 0, none⟩) 1 1, .int .i64 s.now] 97 rfl).alloc' (w.heap.size + 1) #[.int .i64 (s.tag + 1)] 3 (by simp)).drew)
      generalize World.drew _ = W1 at L ⊢
      have Hz1 : Hid (w.heap.size < W1.heap.size) := show _ < _ by have := L.lt (List.mem_cons_self ..); have := L.own _ (List.mem_cons_self ..); omega
      obtain ⟨n2, hn2⟩ : ∃ n, W1.heap.size = n := ⟨_, rfl⟩
      have L2 := L.alloc' n2 #[.string d] 9 hn2
      obtain ⟨q0, q1, q2, q3, q4, q5⟩ := L2.c6 2 rfl
      have hfr := L2.frozen 2 rfl 3
      go_wp2_with fail
      have L3 := L2.set 2 rfl 3 (.slice (some ⟨n2, 0, none⟩) 1 1)
      clear q0 q1 q2 q3 q4 q5 hfr hn2 L2 L
      generalize World.setCell _ _ _ = W3 at L3 ⊢
      have HL3 := Lib.hid L3
      have HB : Hid (Below w.heap.size w W3) := show Below _ _ _ from L3.chg.below (fun _ h => h.elim) (Nat.le_refl _)
      clear L3 c8 c10
      have H3 := Lib.hid (H.out.below HB.out)
      have H3d := Lib.hid (H3.out.below (Below.refl _ _).drew)
      have c3 := H3.out.cell 3
      rw [show (x.row s bd)[3]? = some x.wait from rfl] at c3
      obtain ⟨q0, q1, q2, q3, q4, q5⟩ := HL3.out.c6 2 rfl
      have hrq : ReqAt (S0 col) W3.drew (.agg #[.bool true, .int .i64 p, .int .i64 1, .slice (some ⟨n2, 0, none⟩) 1 1, .slice (some ⟨w.heap.size + 1, 0, none⟩) 1 1, .int .i64 s.now]) rq := by
        rw [← Hrq.out]
        refine ReqAt.below (w := W3) ⟨⟨⟨true, p, 1, [d], [s.tag + 1], s.now⟩, .slice (some ⟨n2, 0, none⟩) 1 1, .slice (some ⟨w.heap.size + 1, 0, none⟩) 1 1⟩, rfl, rfl, ?_, ⟨rd_1 (HL3.out.at_ 1 rfl) (Hs0.out _ (by omega)), fun y hy => by simp at hy; subst hy; omega⟩, by unfold i64; simp only; omega, by unfold i64; simp only; omega, by unfold i64; simp only; omega⟩ (Below.refl _ _).drew
        exact ⟨rd_1 (HL3.out.at_ 0 rfl) (Hs0.out _ (by have := HL3.out.own _ (List.mem_cons_self ..); simpa using this)), fun y hy => by simp at hy; subst hy; simp only [maxLen]; omega⟩
      have Hrqa := Lib.hid hrq
      have HWt : Hid (ReqsAt (S0 col) W3.drew x.wait s.wait) := H3d.out.wait.more (fun k hk => hk.2)
      have Hsz0 := Lib.hid H3d.out.s0
      have H6' : Hid (s.wait.length ≤ 60000) := show _ ≤ _ by have := H6.out; omega
      clear hrq
      go_wp2_with fail
      have K0 : W3.drew.cell? ⟨b, 3, none⟩ = some x.wait ∧ W3.drew.cell? ⟨w.heap.size, 0, none⟩ = some (.bool true) ∧ W3.drew.cell? ⟨w.heap.size, 1, none⟩ = some (.int .i64 p) ∧ W3.drew.cell? ⟨w.heap.size, 2, none⟩ = some (.int .i64 1) ∧ W3.drew.cell? ⟨w.heap.size, 3, none⟩ = some (.slice (some ⟨n2, 0, none⟩) 1 1) ∧ W3.drew.cell? ⟨w.heap.size, 4, none⟩ = some (.slice (some ⟨w.heap.size + 1, 0, none⟩) 1 1) ∧ W3.drew.cell? ⟨w.heap.size, 5, none⟩ = some (.int .i64 s.now) := ⟨c3, q0, q1, q2, q3, q4, q5⟩
      go_region_held3 (fun u => u.cell? ⟨b, 3, none⟩ = some x.wait ∧ u.cell? ⟨w.heap.size, 0, none⟩ = some (.bool true) ∧ u.cell? ⟨w.heap.size, 1, none⟩ = some (.int .i64 p) ∧ u.cell? ⟨w.heap.size, 2, none⟩ = some (.int .i64 1) ∧ u.cell? ⟨w.heap.size, 3, none⟩ = some (.slice (some ⟨n2, 0, none⟩) 1 1) ∧ u.cell? ⟨w.heap.size, 4, none⟩ = some (.slice (some ⟨w.heap.size + 1, 0, none⟩) 1 1) ∧ u.cell? ⟨w.heap.size, 5, none⟩ = some (.int .i64 s.now))
        (first | exact K1 | exact K0)
        (first
          | ((with_reducible refine (add_any (S0 col) s.wait rq _ _ _ Hsz0.out HWt.out Hrqa.out Hi.out H6'.out).mono ?_); rintro e u1 ⟨v1, rfl, hv1, hb1⟩; have HB1 := Lib.hid hb1; have Hv1 := Lib.hid hv1; have K1 : u1.cell? ⟨b, 3, none⟩ = some x.wait ∧ u1.cell? ⟨w.heap.size, 0, none⟩ = some (.bool true) ∧ u1.cell? ⟨w.heap.size, 1, none⟩ = some (.int .i64 p) ∧ u1.cell? ⟨w.heap.size, 2, none⟩ = some (.int .i64 1) ∧ u1.cell? ⟨w.heap.size, 3, none⟩ = some (.slice (some ⟨n2, 0, none⟩) 1 1) ∧ u1.cell? ⟨w.heap.size, 4, none⟩ = some (.slice (some ⟨w.heap.size + 1, 0, none⟩) 1 1) ∧ u1.cell? ⟨w.heap.size, 5, none⟩ = some (.int .i64 s.now) := (by obtain ⟨a0, a1, a2, a3, a4, a5, a6⟩ := K0; exact ⟨cell_b hb1 a0, cell_b hb1 a1, cell_b hb1 a2, cell_b hb1 a3, cell_b hb1 a4, cell_b hb1 a5, cell_b hb1 a6⟩); clear hv1 hb1)
          | fail)
      have H4 := Lib.hid (H3d.out.below HB1.out)
      have c10 := H4.out.cell 10
      have c3' := H4.out.cell 3
      rw [show (x.row s bd)[10]? = some (.int .i64 s.tag) from rfl] at c10
      rw [show (x.row s bd)[3]? = some x.wait from rfl] at c3'
      have f3 := H4.out.frozen 3
      have f10 := H4.out.frozen 10
      have HC : Hid (Chg (fun k => k = b) w u1) := show Chg _ _ _ from Chg.of_below (HB.out.trans (((Below.refl _ _).drew.trans HB1.out).mono HB.out.size))
      clear K0 K1 c3 q0 q1 q2 q3 q4 q5
      have hqe : s.queue true p d = if (addM s.wait rq).2 = 0 then ({ s with wait := (addM s.wait rq).1, tag := s.tag + 1 }, true) else (s, false) := by rw [← Hrq.out]; rfl
      by_cases h0 : (addM s.wait rq).2 = 0
      · rw [if_pos h0] at hqe
        have Hqe := Lib.hid hqe
        rw [h0]
        have he0 := errV_zero
        obtain ⟨A1, cp1, e1, _, _⟩ := Hv1.out.form
        subst e1
        clear hqe h0
        go_wp2_with fail
        go_ret
        rw [Hqe.out]
        have hS := ((Same1.refl (b := b) (w := u1)).setCell 3 (.slice A1 (addM s.wait rq).1.length cp1)).setCell 10 (.int .i64 (s.tag + 1))
        exact ⟨_, rfl, H4.out.queued hS Hv1.out (heap_setCell_same _ _ 10 _ _ _ (heap_setCell_same _ _ 3 _ _ _ H4.out.row)), HC.out.trans ((hS.chg (F := fun k => k = b) rfl).mono (fun k hk => .inl hk)), .wait⟩
      · rw [if_neg h0] at hqe
        have Hqe := Lib.hid hqe
        have hb0 : ((addM s.wait rq).2 == 0) = false := by simpa using h0
        clear hqe h0
        go_wp2_with fail
        go_ret
        rw [Hqe.out]
        exact ⟨_, rfl, H4.out, HC.out, .refl⟩
  | false =>
    go_enter Tryz.func44, Tryz.ntmps44
    go_wp2_with fail
    go_region
    · have L := ((((LayF.refl (fun _ => False) w).alloc' (w.heap.size) #[.int .i64 (s.tag + 1)] 3 rfl).alloc' (w.heap.size + 1) #[.bool false, .int .i64 p, .int .i64 1, .slice none 0 0, .slice (some ⟨w.heap.size, 0, none⟩) 1 1, .int .i64 s.now] 97 (by simp)).drew)
      generalize World.drew _ = W1 at L ⊢
      have Hz1 : Hid (w.heap.size < W1.heap.size) := show _ < _ by have := L.lt (List.mem_cons_self ..); have := L.own _ (List.mem_cons_self ..); omega
      have L3 := L
      clear L
      obtain ⟨W3, hW3⟩ : ∃ W3, W1 = W3 := ⟨_, rfl⟩
      rw [hW3] at L3 ⊢
      clear hW3
      have HL3 := Lib.hid L3
      have HB : Hid (Below w.heap.size w W3) := show Below _ _ _ from L3.chg.below (fun _ h => h.elim) (Nat.le_refl _)
      clear L3 c8 c10
      have H3 := Lib.hid (H.out.below HB.out)
      have H3d := Lib.hid (H3.out.below (Below.refl _ _).drew)
      have c3 := H3.out.cell 3
      rw [show (x.row s bd)[3]? = some x.wait from rfl] at c3
      obtain ⟨q0, q1, q2, q3, q4, q5⟩ := HL3.out.c6 0 rfl
      have hrq : ReqAt (S0 col) W3.drew (.agg #[.bool false, .int .i64 p, .int .i64 1, .slice none 0 0, .slice (some ⟨w.heap.size, 0, none⟩) 1 1, .int .i64 s.now]) rq := by
        rw [← Hrq.out]
        refine ReqAt.below (w := W3) ⟨⟨⟨false, p, 1, [], [s.tag + 1], s.now⟩, .slice none 0 0, .slice (some ⟨w.heap.size, 0, none⟩) 1 1⟩, rfl, rfl, ?_, ⟨rd_1 (HL3.out.at_ 1 rfl) (Hs0.out _ (by omega)), fun y hy => by simp at hy; subst hy; omega⟩, by unfold i64; simp only; omega, by unfold i64; simp only; omega, by unfold i64; simp only; omega⟩ (Below.refl _ _).drew
        exact ⟨Rd.nil, by simp⟩
      have Hrqa := Lib.hid hrq
      have HWt : Hid (ReqsAt (S0 col) W3.drew x.wait s.wait) := H3d.out.wait.more (fun k hk => hk.2)
      have Hsz0 := Lib.hid H3d.out.s0
      have H6' : Hid (s.wait.length ≤ 60000) := show _ ≤ _ by have := H6.out; omega
      clear hrq
      go_wp2_with fail
      have K0 : W3.drew.cell? ⟨b, 3, none⟩ = some x.wait ∧ W3.drew.cell? ⟨w.heap.size + 1, 0, none⟩ = some (.bool false) ∧ W3.drew.cell? ⟨w.heap.size + 1, 1, none⟩ = some (.int .i64 p) ∧ W3.drew.cell? ⟨w.heap.size + 1, 2, none⟩ = some (.int .i64 1) ∧ W3.drew.cell? ⟨w.heap.size + 1, 3, none⟩ = some (.slice none 0 0) ∧ W3.drew.cell? ⟨w.heap.size + 1, 4, none⟩ = some (.slice (some ⟨w.heap.size, 0, none⟩) 1 1) ∧ W3.drew.cell? ⟨w.heap.size + 1, 5, none⟩ = some (.int .i64 s.now) := ⟨c3, q0, q1, q2, q3, q4, q5⟩
      go_region_held3 (fun u => u.cell? ⟨b, 3, none⟩ = some x.wait ∧ u.cell? ⟨w.heap.size + 1, 0, none⟩ = some (.bool false) ∧ u.cell? ⟨w.heap.size + 1, 1, none⟩ = some (.int .i64 p) ∧ u.cell? ⟨w.heap.size + 1, 2, none⟩ = some (.int .i64 1) ∧ u.cell? ⟨w.heap.size + 1, 3, none⟩ = some (.slice none 0 0) ∧ u.cell? ⟨w.heap.size + 1, 4, none⟩ = some (.slice (some ⟨w.heap.size, 0, none⟩) 1 1) ∧ u.cell? ⟨w.heap.size + 1, 5, none⟩ = some (.int .i64 s.now))
        (first | exact K1 | exact K0)
        (first
          | ((with_reducible refine (add_any (S0 col) s.wait rq _ _ _ Hsz0.out HWt.out Hrqa.out Hi.out H6'.out).mono ?_); rintro e u1 ⟨v1, rfl, hv1, hb1⟩; have HB1 := Lib.hid hb1; have Hv1 := Lib.hid hv1; have K1 : u1.cell? ⟨b, 3, none⟩ = some x.wait ∧ u1.cell? ⟨w.heap.size + 1, 0, none⟩ = some (.bool false) ∧ u1.cell? ⟨w.heap.size + 1, 1, none⟩ = some (.int .i64 p) ∧ u1.cell? ⟨w.heap.size + 1, 2, none⟩ = some (.int .i64 1) ∧ u1.cell? ⟨w.heap.size + 1, 3, none⟩ = some (.slice none 0 0) ∧ u1.cell? ⟨w.heap.size + 1, 4, none⟩ = some (.slice (some ⟨w.heap.size, 0, none⟩) 1 1) ∧ u1.cell? ⟨w.heap.size + 1, 5, none⟩ = some (.int .i64 s.now) := (by obtain ⟨a0, a1, a2, a3, a4, a5, a6⟩ := K0; exact ⟨cell_b hb1 a0, cell_b hb1 a1, cell_b hb1 a2, cell_b hb1 a3, cell_b hb1 a4, cell_b hb1 a5, cell_b hb1 a6⟩); clear hv1 hb1)
          | fail)
      have H4 := Lib.hid (H3d.out.below HB1.out)
      have c10 := H4.out.cell 10
      have c3' := H4.out.cell 3
      rw [show (x.row s bd)[10]? = some (.int .i64 s.tag) from rfl] at c10
      rw [show (x.row s bd)[3]? = some x.wait from rfl] at c3'
      have f3 := H4.out.frozen 3
      have f10 := H4.out.frozen 10
      have HC : Hid (Chg (fun k => k = b) w u1) := show Chg _ _ _ from Chg.of_below (HB.out.trans (((Below.refl _ _).drew.trans HB1.out).mono HB.out.size))
      clear K0 K1 c3 q0 q1 q2 q3 q4 q5
      have hqe : s.queue false p d = if (addM s.wait rq).2 = 0 then ({ s with wait := (addM s.wait rq).1, tag := s.tag + 1 }, true) else (s, false) := by rw [← Hrq.out]; rfl
      by_cases h0 : (addM s.wait rq).2 = 0
      · rw [if_pos h0] at hqe
        have Hqe := Lib.hid hqe
        rw [h0]
        have he0 := errV_zero
        obtain ⟨A1, cp1, e1, _, _⟩ := Hv1.out.form
        subst e1
        clear hqe h0
        go_wp2_with fail
        go_ret
        rw [Hqe.out]
        have hS := ((Same1.refl (b := b) (w := u1)).setCell 3 (.slice A1 (addM s.wait rq).1.length cp1)).setCell 10 (.int .i64 (s.tag + 1))
        exact ⟨_, rfl, H4.out.queued hS Hv1.out (heap_setCell_same _ _ 10 _ _ _ (heap_setCell_same _ _ 3 _ _ _ H4.out.row)), HC.out.trans ((hS.chg (F := fun k => k = b) rfl).mono (fun k hk => .inl hk)), .wait⟩
      · rw [if_neg h0] at hqe
        have Hqe := Lib.hid hqe
        have hb0 : ((addM s.wait rq).2 == 0) = false := by simpa using h0
        clear hqe h0
        go_wp2_with fail
        go_ret
        rw [Hqe.out]
        exact ⟨_, rfl, H4.out, HC.out, .refl⟩
    · have L := ((((LayF.refl (fun _ => False) w).alloc' (w.heap.size) #[.bool false, .int .i64 p, .int .i64 1, .slice none 0 0, .slice (some ⟨w.heap.size + 1, 0, none⟩) 1 1, .int .i64 s.now] 97 rfl).alloc' (w.heap.size + 1) #[.int .i64 (s.tag + 1)] 3 (by simp)).drew)
      generalize World.drew _ = W1 at L ⊢
      have Hz1 : Hid (w.heap.size < W1.heap.size) := show _ < _ by have := L.lt (List.mem_cons_self ..); have := L.own _ (List.mem_cons_self ..); omega
      have L3 := L
      clear L
      obtain ⟨W3, hW3⟩ : ∃ W3, W1 = W3 := ⟨_, rfl⟩
      rw [hW3] at L3 ⊢
      clear hW3
      have HL3 := Lib.hid L3
      have HB : Hid (Below w.heap.size w W3) := show Below _ _ _ from L3.chg.below (fun _ h => h.elim) (Nat.le_refl _)
      clear L3 c8 c10
      have H3 := Lib.hid (H.out.below HB.out)
      have H3d := Lib.hid (H3.out.below (Below.refl _ _).drew)
      have c3 := H3.out.cell 3
      rw [show (x.row s bd)[3]? = some x.wait from rfl] at c3
      obtain ⟨q0, q1, q2, q3, q4, q5⟩ := HL3.out.c6 1 rfl
      have hrq : ReqAt (S0 col) W3.drew (.agg #[.bool false, .int .i64 p, .int .i64 1, .slice none 0 0, .slice (some ⟨w.heap.size + 1, 0, none⟩) 1 1, .int .i64 s.now]) rq := by
        rw [← Hrq.out]
        refine ReqAt.below (w := W3) ⟨⟨⟨false, p, 1, [], [s.tag + 1], s.now⟩, .slice none 0 0, .slice (some ⟨w.heap.size + 1, 0, none⟩) 1 1⟩, rfl, rfl, ?_, ⟨rd_1 (HL3.out.at_ 0 rfl) (Hs0.out _ (by omega)), fun y hy => by simp at hy; subst hy; omega⟩, by unfold i64; simp only; omega, by unfold i64; simp only; omega, by unfold i64; simp only; omega⟩ (Below.refl _ _).drew
        exact ⟨Rd.nil, by simp⟩
      have Hrqa := Lib.hid hrq
      have HWt : Hid (ReqsAt (S0 col) W3.drew x.wait s.wait) := H3d.out.wait.more (fun k hk => hk.2)
      have Hsz0 := Lib.hid H3d.out.s0
      have H6' : Hid (s.wait.length ≤ 60000) := show _ ≤ _ by have := H6.out; omega
      clear hrq
      go_wp2_with fail
      have K0 : W3.drew.cell? ⟨b, 3, none⟩ = some x.wait ∧ W3.drew.cell? ⟨w.heap.size, 0, none⟩ = some (.bool false) ∧ W3.drew.cell? ⟨w.heap.size, 1, none⟩ = some (.int .i64 p) ∧ W3.drew.cell? ⟨w.heap.size, 2, none⟩ = some (.int .i64 1) ∧ W3.drew.cell? ⟨w.heap.size, 3, none⟩ = some (.slice none 0 0) ∧ W3.drew.cell? ⟨w.heap.size, 4, none⟩ = some (.slice (some ⟨w.heap.size + 1, 0, none⟩) 1 1) ∧ W3.drew.cell? ⟨w.heap.size, 5, none⟩ = some (.int .i64 s.now) := ⟨c3, q0, q1, q2, q3, q4, q5⟩
      go_region_held3 (fun u => u.cell? ⟨b, 3, none⟩ = some x.wait ∧ u.cell? ⟨w.heap.size, 0, none⟩ = some (.bool false) ∧ u.cell? ⟨w.heap.size, 1, none⟩ = some (.int .i64 p) ∧ u.cell? ⟨w.heap.size, 2, none⟩ = some (.int .i64 1) ∧ u.cell? ⟨w.heap.size, 3, none⟩ = some (.slice none 0 0) ∧ u.cell? ⟨w.heap.size, 4, none⟩ = some (.slice (some ⟨w.heap.size + 1, 0, none⟩) 1 1) ∧ u.cell? ⟨w.heap.size, 5, none⟩ = some (.int .i64 s.now))
        (first | exact K1 | exact K0)
        (first
          | ((with_reducible refine (add_any (S0 col) s.wait rq _ _ _ Hsz0.out HWt.out Hrqa.out Hi.out H6'.out).mono ?_); rintro e u1 ⟨v1, rfl, hv1, hb1⟩; have HB1 := Lib.hid hb1; have Hv1 := Lib.hid hv1; have K1 : u1.cell? ⟨b, 3, none⟩ = some x.wait ∧ u1.cell? ⟨w.heap.size, 0, none⟩ = some (.bool false) ∧ u1.cell? ⟨w.heap.size, 1, none⟩ = some (.int .i64 p) ∧ u1.cell? ⟨w.heap.size, 2, none⟩ = some (.int .i64 1) ∧ u1.cell? ⟨w.heap.size, 3, none⟩ = some (.slice none 0 0) ∧ u1.cell? ⟨w.heap.size, 4, none⟩ = some (.slice (some ⟨w.heap.size + 1, 0, none⟩) 1 1) ∧ u1.cell? ⟨w.heap.size, 5, none⟩ = some (.int .i64 s.now) := (by obtain ⟨a0, a1, a2, a3, a4, a5, a6⟩ := K0; exact ⟨cell_b hb1 a0, cell_b hb1 a1, cell_b hb1 a2, cell_b hb1 a3, cell_b hb1 a4, cell_b hb1 a5, cell_b hb1 a6⟩); clear hv1 hb1)
          | fail)
      have H4 := Lib.hid (H3d.out.below HB1.out)
      have c10 := H4.out.cell 10
      have c3' := H4.out.cell 3
      rw [show (x.row s bd)[10]? = some (.int .i64 s.tag) from rfl] at c10
      rw [show (x.row s bd)[3]? = some x.wait from rfl] at c3'
      have f3 := H4.out.frozen 3
      have f10 := H4.out.frozen 10
      have HC : Hid (Chg (fun k => k = b) w u1) := show Chg _ _ _ from Chg.of_below (HB.out.trans (((Below.refl _ _).drew.trans HB1.out).mono HB.out.size))
      clear K0 K1 c3 q0 q1 q2 q3 q4 q5
      have hqe : s.queue false p d = if (addM s.wait rq).2 = 0 then ({ s with wait := (addM s.wait rq).1, tag := s.tag + 1 }, true) else (s, false) := by rw [← Hrq.out]; rfl
      by_cases h0 : (addM s.wait rq).2 = 0
      · rw [if_pos h0] at hqe
        have Hqe := Lib.hid hqe
        rw [h0]
        have he0 := errV_zero
        obtain ⟨A1, cp1, e1, _, _⟩ := Hv1.out.form
        subst e1
        clear hqe h0
        go_wp2_with fail
        go_ret
        rw [Hqe.out]
        have hS := ((Same1.refl (b := b) (w := u1)).setCell 3 (.slice A1 (addM s.wait rq).1.length cp1)).setCell 10 (.int .i64 (s.tag + 1))
        exact ⟨_, rfl, H4.out.queued hS Hv1.out (heap_setCell_same _ _ 10 _ _ _ (heap_setCell_same _ _ 3 _ _ _ H4.out.row)), HC.out.trans ((hS.chg (F := fun k => k = b) rfl).mono (fun k hk => .inl hk)), .wait⟩
      · rw [if_neg h0] at hqe
        have Hqe := Lib.hid hqe
        have hb0 : ((addM s.wait rq).2 == 0) = false := by simpa using h0
        clear hqe h0
        go_wp2_with fail
        go_ret
        rw [Hqe.out]
        exact ⟨_, rfl, H4.out, HC.out, .refl⟩
end Go.Proofs.YtinknleckppciaaGreatDoor
namespace Go.Proofs.YtinknleckppciaaGreatDoor
open Go.RowKit

theorem bufInfo : (Tryz.prog.info? 83).map (fun i => (i.zero, i.size, i.bytes)) = some (some (.agg #[.int .i64 0, .string ⟨#[]⟩, .bool false, .int .i64 0]), 4, 40) := by kernel_rfl
theorem nil_bufs (a : Option Addr) (n c : Nat) (w : World) : (binOp .eql 66 (.slice a n c) (.slice none 0 0)).run Tryz.prog w = .ok (.bool a.isNone) w := Lib.run_eql_slice_nil w _ _ a n c 0 0 Tryz.underlying66

set_option maxRecDepth 100000 in
theorem bclone_any (S : Nat → Prop) (v : Value) (n : Nat) (xs : List Value) (w : World) (h : Rd S w 4 v n xs) (h1 : ∀ u ∈ xs, u.oneCell' = true) (hn : n ≤ 65536) :
    Calls Tryz.prog 80 #[v] w (RetOwn 83 4 n xs w) := by
  obtain ⟨i0, hi0, hz0, hz1, hz2⟩ := info_parts bufInfo
  have H := Lib.hid h
  obtain ⟨A, c, rfl, hm, hc⟩ := h.form
  clear h
  have hnil := nil_bufs A n c w
  cases A with
  | none =>
    have hn0 : n = 0 := by
      obtain ⟨A', c', e, _, _, _, h4⟩ := H.out
      cases e
      rcases Nat.eq_zero_or_pos n with h | h
      · exact h
      · obtain ⟨_, _, h, _⟩ := h4 h; cases h
    subst hn0
    have hx : xs = [] := List.eq_nil_of_length_eq_zero (by obtain ⟨_, _, _, _, _, h, _⟩ := H.out; simpa using h)
    subst hx
    go_enter Tryz.func80, Tryz.ntmps80
    go_wp2_with fail
    go_ret
    exact ⟨_, rfl, World.ownsRow_nil _ _ _ _, Below.refl _ _⟩
  | some ad =>
    go_enter Tryz.func80, Tryz.ntmps80
    go_wp2_with (at_builtin; refine wpList_append_rd (S := S) _ rfl (.tmp 5) (.tmp 6) _ rfl w.heap.size 83 i0 _ 4 40 Tryz.underlying66 hi0 hz0 hz1 hz2 rfl (by omega) (.slice (some ⟨w.heap.size, 0, none⟩) 0 0) 0 [] rfl (World.ownsRow_lit w #[] 0 (Nat.le_refl _) (by simp [maxLen]) (by simp)) (.slice (some ad) n c) n xs rfl (H.out.below ((Below.refl _ _).alloc (Nat.le_refl _) _)) h1 (by simp only [maxLen]; omega) (by omega) (by simp) ?_; intro v1 w1 hown1 hg1 hat1)
    go_ret
    refine ⟨v1, rfl, by simpa using hown1, ((Below.refl _ _).alloc (Nat.le_refl _) _).grown hg1 (by simp) (fun k hk => ?_)⟩
    simp [Value.ownBlock] at hk
    omega
end Go.Proofs.YtinknleckppciaaGreatDoor
