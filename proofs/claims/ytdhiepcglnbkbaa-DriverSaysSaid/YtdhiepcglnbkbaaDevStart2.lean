
/- The disk starts a request: the reference's Start. -/
import Derived.Test.YtdhiepcglnbkbaaDevStart
namespace Go.Proofs.Ytdhiepcglnbkbaa
set_option linter.unusedSimpArgs false
set_option linter.unusedVariables false
open Go.RowKit

abbrev TDr : TypeId := 32
abbrev TPr : TypeId := 114
set_option maxRecDepth 100000 in
set_option maxHeartbeats 1000000 in
theorem rdevstart_any (S F : Nat → Prop) (w : World) (b : Nat) (d : Dv) (r : Rq) (rv : Value) (h : DevAt TDr TPr S F w b d) (hr : ReqAt S w rv r) (hF : ∀ k, F k → k < w.heap.size) (hSF : ∀ k, S k → ¬ F k) (h2 : d.l.length ≤ 2) :
    Calls Try.prog 19 #[.pointer (some ⟨b, 0, none⟩), rv] w (RetDev TDr TPr S F w b (d.start r).1 (.int .i64 (d.start r).2)) := by
  obtain ⟨Ad, cd, At, ct, rfl, _, _, _, _, _, _, _⟩ := hr.opened
  obtain ⟨i0, hi0, hz0, hz1, hz2⟩ := info_parts reqInfo
  obtain ⟨hb, hk, hn, wv, lv, cs, hrow, hw, hl, hcs, hok⟩ := h
  have hlen : cs.length = d.l.length := by rw [← hcs, List.length_map]
  obtain ⟨A, cap, rfl, hc1, hc2⟩ := hl.form
  unfold maxLen at hc2
  rw [hlen] at hl hrow hc1
  have Hlen := Lib.hid hlen
  clear hlen
  have c65 : w.cell? ⟨b, 65, none⟩ = some (.slice A d.l.length cap) := by rw [cell_of_row _ _ _ _ _ _ hrow]; simpa using devCells_at_l d wv _ hk hn
  have f65 : w.frozen? ⟨b, 65, none⟩ = false := frozen_of_row _ _ _ _ _ hrow
  have hbl : b < w.heap.size := (Array.getElem?_eq_some_iff.1 hrow).1
  have Hr := Lib.hid hr
  have Hrow := Lib.hid hrow
  have Hw := Lib.hid hw
  have Hl := Lib.hid hl
  have Hcs := Lib.hid hcs
  have Hok := Lib.hid hok
  have HF := Lib.hid hF
  have HS := Lib.hid hSF
  have Hb := Lib.hid hb
  clear hr hrow hw hl hcs hok hF hSF hb
  by_cases h3 : d.l.length = 2
  · have h3' : ((d.l.length : Int) == 2) = true := by simp; omega
    go_enter Try.func19, Try.ntmps19
    go_wp2_with fail
    go_ret
    have hd : d.start r = (d, 7) := if_pos h3
    rw [hd]
    have hb1 := (Below.refl w.heap.size w).alloc (Nat.le_refl _) (Obj.cells #[Value.bool r.write, Value.int IntKind.i64 r.lo, Value.int IntKind.i64 r.many, Value.slice Ad r.data.length cd, Value.slice At r.tags.length ct, Value.int IntKind.i64 r.born] 38)
    refine ⟨rfl, ?_, Chg.of_below hb1⟩
    exact DevAt.mono (DevAt.below ⟨Hb.out, hk, hn, wv, _, cs, Hrow.out, Hw.out, by rw [Hlen.out]; exact Hl.out, Hcs.out, Hok.out⟩ hb1) (fun k hk => .inl hk)
  · have h3' : ((d.l.length : Int) == 2) = false := by simp; omega
    go_enter Try.func19, Try.ntmps19
    go_wp2_with fail
    have L := (Lay.refl w).alloc' w.heap.size #[Value.bool r.write, Value.int IntKind.i64 r.lo, Value.int IntKind.i64 r.many, Value.slice Ad r.data.length cd, Value.slice At r.tags.length ct, Value.int IntKind.i64 r.born] 38 rfl
    have hb1 := (Below.refl w.heap.size w).alloc (Nat.le_refl _) (Obj.cells #[Value.bool r.write, Value.int IntKind.i64 r.lo, Value.int IntKind.i64 r.many, Value.slice Ad r.data.length cd, Value.slice At r.tags.length ct, Value.int IntKind.i64 r.born] 38)
    generalize hW1 : World.alloc _ _ = W1 at L hb1 ⊢
    have hrow1 : W1.heap[b]? = some (.cells (devCells d wv (.slice A d.l.length cap)).toArray TDr (0, 0)) := (hb1.block _ hbl).trans Hrow.out
    have c65' : W1.cell? ⟨b, 65, none⟩ = some (.slice A d.l.length cap) := by rw [cell_of_row _ _ _ _ _ _ hrow1]; simpa using devCells_at_l d wv _ hk hn
    have f65' : W1.frozen? ⟨b, 65, none⟩ = false := frozen_of_row _ _ _ _ _ hrow1
    obtain ⟨k0, k1, k2, k3, k4, k5⟩ := L.c6 0 rfl
    have hl1 := (Hl.out.keep (fun k _ hk => hb1.block k hk)).1
    have Hown := Lib.hid (hl1.drew)
    have Hreq := Lib.hid (rc_one S (c := ⟨r, .slice Ad r.data.length cd, .slice At r.tags.length ct⟩) Hr.out.rcOf)
    have Hne : Hid (∀ k, k = b → some k ≠ (Value.slice A d.l.length cap).ownBlock) := fun k hkb e => own_ne hl1 hrow1 (by decide) k e.symm hkb
    have hbl1 : b < W1.drew.heap.size := Nat.lt_of_lt_of_le hbl hb1.size
    have hbl2 : b < W1.heap.size := hbl1
    clear c65 f65 hW1 hrow1
    have HT := Lib.hid (Rd.of_own (S := fun _ => True) _ (fun _ _ => trivial) hl1)
    have Hones : Hid (∀ u ∈ cs.flatMap Rc.cells, u.oneCell' = true) := fun u hu => by obtain ⟨c, hc, hu⟩ := List.mem_flatMap.1 hu; exact rc_one S (Hok.out c hc) u hu
    have hbA : ∀ u : World, Below u.heap.size u (u.alloc (Obj.cells #[Value.bool r.write, Value.int IntKind.i64 r.lo, Value.int IntKind.i64 r.many, Value.slice Ad r.data.length cd, Value.slice At r.tags.length ct, Value.int IntKind.i64 r.born] 38)) := fun u => (Below.refl u.heap.size u).alloc (Nat.le_refl _) _
    have hTD : ∀ (u : World) v n xs, u.ownsRow W1.heap.size 38 6 v n xs → ∀ k, v.ownBlock = some k → W1.heap.size ≤ k := fun u v n xs h k hk => (h.lt k hk).1
    have HA := Lib.hid hbA
    have HD := Lib.hid hTD
    clear hbA hTD
    go_region_law (first
      | (refine step_append_rd (S := fun _ => True) _ rfl (.const (.slice none 0 0)) (.tmp 15) _ rfl W1.heap.size 38 i0 _ 6 80 Try.underlying30 hi0 hz0 hz1 hz2 rfl (by omega) (.slice none 0 0) 0 [] (by simp [Act.eval, Act.put]) (World.ownsRow_nil _ _ _ _) (.slice A d.l.length cap) d.l.length (cs.flatMap Rc.cells) (by simp [Act.eval, Act.put]) (HT.out.below ((Below.refl W1.heap.size W1).drew)) (fun u hu => Hones.out u hu) (by simp only [maxLen]; omega) (by omega) (by simp) ?_
         intro v1 w1 hown1 hg1 hat1
         clear hat1
         have hy1 : Below W1.heap.size W1 w1 := ((Below.refl W1.heap.size W1).drew).grown hg1 (by simp) (fun k hk => by simp [Value.ownBlock] at hk)
         obtain ⟨A1, c1, rfl⟩ := own_sl (own_lo hown1 (Nat.zero_le _))
         have q0 := cell_b hy1 k0
         have q1 := cell_b hy1 k1
         have q2 := cell_b hy1 k2
         have q3 := cell_b hy1 k3
         have q4 := cell_b hy1 k4
         have q5 := cell_b hy1 k5
         have hq := hy1.size)
      | (refine step_append_rd (S := fun _ => True) _ rfl (.const (.slice none 0 0)) (.tmp 15) _ rfl W1.heap.size 38 i0 _ 6 80 Try.underlying30 hi0 hz0 hz1 hz2 rfl (by omega) (.slice none 0 0) 0 [] (by simp [Act.eval, Act.put]) (World.ownsRow_nil _ _ _ _) (.slice A d.l.length cap) d.l.length (cs.flatMap Rc.cells) (by simp [Act.eval, Act.put]) (HT.out.below (HA.out W1).drew) (fun u hu => Hones.out u hu) (by simp only [maxLen]; omega) (by omega) (by simp; try omega) ?_
         intro v1 w1 hown1 hg1 hat1
         clear hat1
         have hy1 : Below W1.heap.size W1 w1 := ((HA.out W1).drew).grown hg1 (by simp) (fun k hk => by simp [Value.ownBlock] at hk)
         have hrq := (hg1.block W1.heap.size (by simp) (by simp [Value.ownBlock])).trans (heap_alloc_new W1 (Obj.cells #[Value.bool r.write, Value.int IntKind.i64 r.lo, Value.int IntKind.i64 r.many, Value.slice Ad r.data.length cd, Value.slice At r.tags.length ct, Value.int IntKind.i64 r.born] 38))
         obtain ⟨A1, c1, rfl⟩ := own_sl (own_lo hown1 (Nat.zero_le _))
         have hq := hy1.size)
      | (refine step_append_rd (S := fun _ => True) _ rfl (.tmp 16) (.tmp 18) _ rfl W1.heap.size 38 i0 _ 6 80 Try.underlying30 hi0 hz0 hz1 hz2 rfl (by omega) (.slice A1 (0 + d.l.length) c1) (0 + d.l.length) ([] ++ cs.flatMap Rc.cells) (by simp [Act.eval, Act.put]) hown1 (.slice (some ⟨W1.heap.size, 0, none⟩) 1 1) 1 (Rc.cells ⟨r, .slice Ad r.data.length cd, .slice At r.tags.length ct⟩) (by simp [Act.eval, Act.put]) (rd_req6 _ _ _ 38 r _ _ hrq trivial) Hreq.out (by simp only [maxLen]; omega) (by omega) (by omega) ?_
         intro v2 w2 hown2 hg2 hat2
         clear hat2
         have hy2 : Below W1.heap.size W1 w2 := hy1.grown hg2 hq (HD.out _ _ _ _ hown1)
         obtain ⟨A2, c2, rfl⟩ := own_sl (own_lo hown2 (Nat.zero_le _))
         have p1 := cell_b hy2 c65'
         have p2 := (hy2.frozen (p := ⟨b, 65, none⟩) hbl2).trans f65')
      | (refine step_append_rd (S := fun _ => True) _ rfl (.tmp 16) (.tmp 18) _ rfl W1.heap.size 38 i0 _ 6 80 Try.underlying30 hi0 hz0 hz1 hz2 rfl (by omega) (.slice A1 (0 + d.l.length) c1) (0 + d.l.length) ([] ++ cs.flatMap Rc.cells) (by simp [Act.eval, Act.put]) (hown1.alloc _) (.slice (some ⟨w1.heap.size, 0, none⟩) 1 1) 1 (Rc.cells ⟨r, .slice Ad r.data.length cd, .slice At r.tags.length ct⟩) (by simp [Act.eval, Act.put]) (rd_req6 _ _ _ 38 r _ _ (heap_alloc_new _ _) trivial) Hreq.out (by simp only [maxLen]; omega) (by omega) (by simp; omega) ?_
         intro v2 w2 hown2 hg2 hat2
         clear hat2
         have hy2 : Below W1.heap.size W1 w2 := (hy1.trans ((HA.out w1).mono hq)).grown hg2 (by simp; omega) (HD.out _ _ _ _ hown1)
         obtain ⟨A2, c2, rfl⟩ := own_sl (own_lo hown2 (Nat.zero_le _))
         have p1 := cell_b hy2 c65'
         have p2 := (hy2.frozen (p := ⟨b, 65, none⟩) hbl2).trans f65'))
    all_goals
      have hg0 : w.heap.size ≤ W1.heap.size := hb1.size
      have hB2 : Below w.heap.size w w2 := hb1.trans (hy2.mono hg0)
      have hc0 : Chg F w w2 := Chg.of_below hB2
      simp only [Nat.zero_add, List.nil_append] at hown2
      have hfin := DevAt.setL (TD := TDr) (TP := TPr) (S := S) (lv := .slice A d.l.length cap) (cs' := cs ++ [⟨r, .slice Ad r.data.length cd, .slice At r.tags.length ct⟩]) hc0 HF.out Hb.out hk hn ((hB2.block b hbl).trans Hrow.out)
        ((Hw.out.keep (fun k _ hk => hB2.block k hk)).mono (fun k hk => .inl hk))
        (by rw [List.length_append, Hlen.out, List.flatMap_append]; simpa using own_lo hown2 (Nat.zero_le _))
        (fun k hv => .inr (by have := (hown2.lt k hv).1; omega))
        rfl
        (fun c hm => by
          rcases List.mem_append.1 hm with hm | hm
          · exact (Hok.out c hm).below hB2
          · simp at hm; subst hm; exact Hr.out.rcOf.below hB2)
        HS.out (by decide) (by decide)
      go_wp2_with fail
      go_ret
      have hd : d.start r = ({ d with l := d.l ++ [r] }, 0) := if_neg h3
      rw [hd]
      refine ⟨rfl, ?_, hfin.2⟩
      have := hfin.1
      rwa [List.map_append, Hcs.out] at this
end Go.Proofs.Ytdhiepcglnbkbaa
