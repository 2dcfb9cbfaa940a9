
/- The disk starts a request: (*Device).Start, both. -/
import Derived.Test.YtdhiepcglnbkbaaDevMem
import Derived.Deep.RegionLaw
namespace Go.Proofs.Ytdhiepcglnbkbaa
set_option linter.unusedSimpArgs false
set_option linter.unusedVariables false
open Go.RowKit

/-- It returns v; the disk has become d'. -/
def RetDev (TD TP : TypeId) (S F : Nat → Prop) (w : World) (b : Nat) (d' : Dv) (v : Value) : Ending → World → Prop :=
  fun e w' => e = .returned v ∧ DevAt TD TP S (Grow F w w') w' b d' ∧ Chg F w w'

abbrev TDp : TypeId := 105
abbrev TPp : TypeId := 111

theorem rd_req6 (S : Nat → Prop) (w : World) (b : Nat) (T : TypeId) (r : Rq) (dv tv : Value) (hb : w.heap[b]? = some (.cells #[.bool r.write, .int .i64 r.lo, .int .i64 r.many, dv, tv, .int .i64 r.born] T (0, 0))) (hS : S b) :
    Rd S w 6 (.slice (some ⟨b, 0, none⟩) 1 1) 1 (Rc.cells ⟨r, dv, tv⟩) := by
  refine ⟨_, 1, rfl, Nat.le_refl _, by simp [maxLen], rfl, fun _ => ⟨b, 0, rfl, hS, fun j u hu => ?_⟩⟩
  rw [cell_of_row _ _ _ _ _ _ hb]
  simpa [Rc.cells] using hu
theorem rc_one (S : Nat → Prop) {w : World} {c : Rc} (h : RcOk S w c) : ∀ u ∈ c.cells, u.oneCell' = true := by
  obtain ⟨Ad, cd, e1, _, _⟩ := h.data.form
  obtain ⟨At, ct, e2, _, _⟩ := h.tags.form
  intro u hu
  simp only [Rc.cells, e1, e2] at hu
  simp at hu
  rcases hu with rfl | rfl | rfl | rfl | rfl | rfl <;> rfl

set_option maxRecDepth 100000 in
set_option maxHeartbeats 1000000 in
theorem devstart_any (S F : Nat → Prop) (w : World) (b : Nat) (d : Dv) (r : Rq) (rv : Value) (h : DevAt TDp TPp S F w b d) (hr : ReqAt S w rv r) (hF : ∀ k, F k → k < w.heap.size) (hSF : ∀ k, S k → ¬ F k) (h2 : d.l.length ≤ 2) :
    Calls Try.prog 18 #[.pointer (some ⟨b, 0, none⟩), rv] w (RetDev TDp TPp S F w b (d.start r).1 (errV (d.start r).2)) := by
  obtain ⟨Ad, cd, At, ct, rfl, _, _, _, _, _, _, _⟩ := hr.opened
  obtain ⟨i0, hi0, hz0, hz1, hz2⟩ := info_parts reqInfo
  obtain ⟨hb, hk, hn, wv, lv, cs, hrow, hw, hl, hcs, hok⟩ := h
  have hlen : cs.length = d.l.length := by rw [← hcs, List.length_map]
  obtain ⟨A, cap, rfl, hc1, hc2⟩ := hl.form
  unfold maxLen at hc2
  rw [hlen] at hl hrow hc1
  have Hlen := Lib.hid hlen
  clear hlen
  have c65 : w.cell? ⟨b, 65, none⟩ = some (.slice A d.l.length cap) := by rw [cell_of_row _ _ _ _ _ _ hrow]; simpa using devCells_at_l d wv _ hk hn
  have f65 : w.frozen? ⟨b, 65, none⟩ = false := frozen_of_row _ _ _ _ _ hrow
  have hbl : b < w.heap.size := (Array.getElem?_eq_some_iff.1 hrow).1
  have Hr := Lib.hid hr
  have Hrow := Lib.hid hrow
  have Hw := Lib.hid hw
  have Hl := Lib.hid hl
  have Hcs := Lib.hid hcs
  have Hok := Lib.hid hok
  have HF := Lib.hid hF
  have HS := Lib.hid hSF
  have Hb := Lib.hid hb
  clear hr hrow hw hl hcs hok hF hSF hb
  by_cases h3 : d.l.length = 2
  · have h3' : ((d.l.length : Int) == 2) = true := by simp; omega
    go_enter Try.func18, Try.ntmps18
    go_wp2_with fail
    go_ret
    have hd : d.start r = (d, 7) := if_pos h3
    rw [hd]
    have hb1 := (Below.refl w.heap.size w).alloc (Nat.le_refl _) (Obj.cells #[Value.bool r.write, Value.int IntKind.i64 r.lo, Value.int IntKind.i64 r.many, Value.slice Ad r.data.length cd, Value.slice At r.tags.length ct, Value.int IntKind.i64 r.born] 38)
    refine ⟨rfl, ?_, Chg.of_below hb1⟩
    exact DevAt.mono (DevAt.below ⟨Hb.out, hk, hn, wv, _, cs, Hrow.out, Hw.out, by rw [Hlen.out]; exact Hl.out, Hcs.out, Hok.out⟩ hb1) (fun k hk => .inl hk)
  · have h3' : ((d.l.length : Int) == 2) = false := by simp; omega
    go_enter Try.func18, Try.ntmps18
    go_wp2_with fail
    have L := (Lay.refl w).alloc' w.heap.size #[Value.bool r.write, Value.int IntKind.i64 r.lo, Value.int IntKind.i64 r.many, Value.slice Ad r.data.length cd, Value.slice At r.tags.length ct, Value.int IntKind.i64 r.born] 38 rfl
    have hb1 := (Below.refl w.heap.size w).alloc (Nat.le_refl _) (Obj.cells #[Value.bool r.write, Value.int IntKind.i64 r.lo, Value.int IntKind.i64 r.many, Value.slice Ad r.data.length cd, Value.slice At r.tags.length ct, Value.int IntKind.i64 r.born] 38)
    generalize hW1 : World.alloc _ _ = W1 at L hb1 ⊢
    have hrow1 : W1.heap[b]? = some (.cells (devCells d wv (.slice A d.l.length cap)).toArray TDp (0, 0)) := (hb1.block _ hbl).trans Hrow.out
    have c65' : W1.cell? ⟨b, 65, none⟩ = some (.slice A d.l.length cap) := by rw [cell_of_row _ _ _ _ _ _ hrow1]; simpa using devCells_at_l d wv _ hk hn
    have f65' : W1.frozen? ⟨b, 65, none⟩ = false := frozen_of_row _ _ _ _ _ hrow1
    obtain ⟨k0, k1, k2, k3, k4, k5⟩ := L.c6 0 rfl
    have hl1 := (Hl.out.keep (fun k _ hk => hb1.block k hk)).1
    have Hown := Lib.hid (hl1.drew)
    have Hreq := Lib.hid (rc_one S (c := ⟨r, .slice Ad r.data.length cd, .slice At r.tags.length ct⟩) Hr.out.rcOf)
    have Hne : Hid (∀ k, k = b → some k ≠ (Value.slice A d.l.length cap).ownBlock) := fun k hkb e => own_ne hl1 hrow1 (by decide) k e.symm hkb
    have hbl1 : b < W1.drew.heap.size := Nat.lt_of_lt_of_le hbl hb1.size
    have hbl2 : b < W1.heap.size := hbl1
    clear c65 f65 hW1 hrow1
    go_region_law (first
      | (refine step_append_rd (S := fun _ => True) _ rfl (.tmp 16) (.tmp 18) _ rfl 0 38 i0 _ 6 80 Try.underlying30 hi0 hz0 hz1 hz2 rfl (by omega) (.slice A d.l.length cap) d.l.length (cs.flatMap Rc.cells) (by simp [Act.eval, Act.put]) (Hown.out.alloc _) (.slice (some ⟨W1.heap.size, 0, none⟩) 1 1) 1 (Rc.cells ⟨r, .slice Ad r.data.length cd, .slice At r.tags.length ct⟩) (by simp [Act.eval, Act.put]) (rd_req6 _ _ _ 38 r _ _ (heap_alloc_new _ _) trivial) Hreq.out (by simp only [maxLen]; omega) (by omega) (by omega) ?_; intro v1 w1 hown1 hg1 hat1; obtain ⟨A1, c1, rfl⟩ := own_sl hown1
         have q1 : w1.cell? ⟨b, 65, none⟩ = some (.slice A d.l.length cap) := hg1.cell ((World.cell?_alloc_lt _ _ _ hbl1).trans c65') (Hne.out b rfl)
         have q2 : w1.frozen? ⟨b, 65, none⟩ = false := (World.frozen?_of_block (hg1.block b (by simp; omega) (Hne.out b rfl))).trans ((World.frozen?_alloc_past _ _ _ hbl1).trans f65')))
    all_goals
      have hg0 : w.heap.size ≤ W1.heap.size := hb1.size
      have hbA := (Below.refl W1.heap.size W1).alloc (Nat.le_refl _) (Obj.cells #[Value.bool r.write, Value.int IntKind.i64 r.lo, Value.int IntKind.i64 r.many, Value.slice Ad r.data.length cd, Value.slice At r.tags.length ct, Value.int IntKind.i64 r.born] 38)
      have hc0 : Chg F w w1 := (((Chg.of_below hb1).step hbA).drew).grown hg1 (fun k hk => .inl (Hl.out.2 k hk))
      have hkS : ∀ k, S k → k < w.heap.size → w1.heap[k]? = w.heap[k]? := hc0.keep HS.out
      have hb2 : (World.drew (W1.alloc (Obj.cells #[Value.bool r.write, Value.int IntKind.i64 r.lo, Value.int IntKind.i64 r.many, Value.slice Ad r.data.length cd, Value.slice At r.tags.length ct, Value.int IntKind.i64 r.born] 38))).heap.size = W1.heap.size + 1 := by simp
      have hkW : ∀ k, k < w.heap.size → some k ≠ (Value.slice A d.l.length cap).ownBlock → w1.heap[k]? = w.heap[k]? := fun k hk hne => by
        rw [hg1.block k (by rw [hb2]; omega) hne]
        exact (hbA.drew.block k (by omega)).trans (hb1.block k hk)
      have hfin := DevAt.setL (TD := TDp) (TP := TPp) (S := S) (lv := .slice A d.l.length cap) (lv' := .slice A1 (d.l.length + 1) c1) (cs' := cs ++ [⟨r, .slice Ad r.data.length cd, .slice At r.tags.length ct⟩]) hc0 HF.out Hb.out hk hn ((hkW b hbl (Hne.out b rfl)).trans Hrow.out)
        ⟨own_keep Hw.out.1 (fun k hv => hkW k (Hw.out.1.lt k hv).2 (fun e => own_two Hw.out.1 Hl.out.1 (by decide) k hv e.symm)), fun k hv => .inl (Hw.out.2 k hv)⟩
        (by rw [List.length_append, Hlen.out, List.flatMap_append]; simpa using hown1)
        (fun k hv => by
          rcases hat1 with h | h
          · exact .inl (Hl.out.2 k (h ▸ hv))
          · rw [hv] at h; injection h with h; rw [hb2] at h; exact .inr (by omega))
        rfl
        (fun c hm => by
          rcases List.mem_append.1 hm with hm | hm
          · exact (Hok.out c hm).keep hkS
          · simp at hm; subst hm; exact Hr.out.rcOf.keep hkS)
        HS.out (by decide) (by decide)
      go_wp2_with fail
      go_ret
      have hd : d.start r = ({ d with l := d.l ++ [r] }, 0) := if_neg h3
      rw [hd]
      refine ⟨rfl, ?_, hfin.2⟩
      have := hfin.1
      rwa [List.map_append, Hcs.out] at this
end Go.Proofs.Ytdhiepcglnbkbaa
