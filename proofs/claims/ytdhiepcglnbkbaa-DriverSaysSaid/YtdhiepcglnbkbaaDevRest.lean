
/- The disk: New, Peek, Busy, Flush, both programs. -/
import Derived.Test.YtdhiepcglnbkbaaDevStart2
import Derived.Test.YtdhiepcglnbkbaaLayF
namespace Go.Proofs.Ytdhiepcglnbkbaa
set_option linter.unusedSimpArgs false
set_option linter.unusedVariables false
open Go.RowKit

section
variable {F S : Nat → Prop} {w : World} {TD TP : TypeId} {b : Nat} {d : Dv}
theorem devCells_flush (d : Dv) (wv lv : Value) (h1 : d.kept.length = 32) (h2 : d.now.length = 32) : setMany (devCells d wv lv).toArray 0 (d.now.map .string) = (devCells { d with kept := d.now } wv lv).toArray := by
  have := setMany_mid (d.now.map .string) [] (d.kept.map .string) (d.now.map .string ++ [wv, lv]) (by simp [h1, h2])
  simpa [devCells] using this
theorem devCells_back (d : Dv) (wv lv : Value) (h1 : d.kept.length = 32) (h2 : d.now.length = 32) : setMany (devCells d wv lv).toArray 32 (d.kept.map .string) = (devCells { d with now := d.kept } wv lv).toArray := by
  have := setMany_mid (d.kept.map .string) (d.kept.map .string) (d.now.map .string) [wv, lv] (by simp [h1, h2])
  simpa [devCells, h1] using this
theorem DevAt.row (h : DevAt TD TP S F w b d) : ∃ wv lv, w.heap[b]? = some (.cells (devCells d wv lv).toArray TD (0, 0)) := by
  obtain ⟨_, _, _, wv, lv, _, h, _⟩ := h; exact ⟨wv, lv, h⟩
theorem range_now (h1 : d.kept.length = 32) {wv lv : Value} (hrow : w.heap[b]? = some (.cells (devCells d wv lv).toArray TD (0, 0))) : w.rangeAt b 32 (d.now.map .string) := fun j v hv => by
  rw [cell_of_row _ _ _ _ _ _ hrow]
  rw [List.getElem?_map] at hv
  obtain ⟨s, hs, rfl⟩ := Option.map_eq_some_iff.1 hv
  simpa using devCells_at_now d wv lv h1 j s hs
theorem range_kept {wv lv : Value} (hrow : w.heap[b]? = some (.cells (devCells d wv lv).toArray TD (0, 0))) : w.rangeAt b 0 (d.kept.map .string) := fun j v hv => by
  rw [cell_of_row _ _ _ _ _ _ hrow]
  have hlt : j < d.kept.length := by simpa using (List.getElem?_eq_some_iff.1 hv).1
  simp only [List.getElem?_toArray, Nat.zero_add]
  unfold devCells
  rw [List.getElem?_append_left (by simpa using hlt)]
  exact hv
theorem there_of_row {cs : Array Value} (hrow : w.heap[b]? = some (.cells cs TD (0, 0))) (o n : Nat) (h : o + n ≤ cs.size) : w.there b o n := fun j hj => by
  rw [cell_of_row _ _ _ _ _ _ hrow, frozen_of_row _ _ _ _ _ hrow, Array.getElem?_eq_getElem (by omega)]
  exact ⟨rfl, rfl⟩
end

set_option maxRecDepth 100000 in
theorem devpeek_any (S F : Nat → Prop) (w : World) (b : Nat) (d : Dv) (i : Nat) (hi : i < 32) (h : DevAt TDp TPp S F w b d) :
    Calls Try.prog 29 #[.pointer (some ⟨b, 0, none⟩), .int .i64 (i : Int)] w (RetSame (.string (d.peek i)) w) := by
  obtain ⟨wv, lv, hrow⟩ := h.row
  have hil : i < d.now.length := by rw [h.now]; exact hi
  have hx : d.now[i]? = some d.now[i] := List.getElem?_eq_getElem hil
  have hc : w.cell? ⟨b, 32 + i, none⟩ = some (.string d.now[i]) := by rw [cell_of_row _ _ _ _ _ _ hrow]; simpa using devCells_at_now d wv lv h.kept i _ hx
  have he : d.peek i = d.now[i] := by unfold Dv.peek; rw [List.getD_eq_getElem?_getD, hx]; rfl
  rw [he]
  clear he
  generalize d.now[i] = s at *
  have hi2 : (i : Int) < 32 := by omega
  clear hx hrow h hil
  go_enter Try.func29, Try.ntmps29
  go_wp2
  go_ret
  exact ⟨rfl, rfl⟩

set_option maxRecDepth 100000 in
theorem devbusy_any (S F : Nat → Prop) (w : World) (b : Nat) (d : Dv) (h : DevAt TDp TPp S F w b d) (h2 : d.l.length ≤ 2) :
    Calls Try.prog 28 #[.pointer (some ⟨b, 0, none⟩)] w (fun e w' => ∃ v, e = .returned v ∧ ReqsAt (fun b => S b ∨ w.heap.size ≤ b) w' v d.l ∧ Below w.heap.size w w') := by
  obtain ⟨hb, hk, hn, wv, lv, cs, hrow, hw, hl, hcs, hok⟩ := h
  have hlen : cs.length = d.l.length := by rw [← hcs, List.length_map]
  obtain ⟨A, cap, rfl, hc1, hc2⟩ := hl.form
  have c65 : w.cell? ⟨b, 65, none⟩ = some (.slice A cs.length cap) := by rw [cell_of_row _ _ _ _ _ _ hrow]; simpa using devCells_at_l d wv _ hk hn
  have Hl := Lib.hid hl.rd
  have Hone : Hid (∀ u ∈ cs.flatMap Rc.cells, u.oneCell' = true) := fun u hu => by obtain ⟨c, hc, hu⟩ := List.mem_flatMap.1 hu; exact rc_one S (hok c hc) u hu
  have Hok := Lib.hid hok
  have Hcs := Lib.hid hcs
  have Hlen := Lib.hid hlen
  clear hrow hw hl hcs hok hlen
  go_enter Try.func28, Try.ntmps28
  go_wp2_with fail
  refine (clone_any F _ _ _ _ Hl.out Hone.out (by rw [Hlen.out]; omega)).mono ?_
  rintro e w1 ⟨v, rfl, hown, hb1⟩
  obtain ⟨A1, c1, rfl⟩ := own_sl (own_lo hown (Nat.zero_le _))
  have Hown := Lib.hid hown
  clear hown
  go_wp2_with fail
  go_ret
  refine ⟨_, rfl, ⟨cs, Hcs.out, Rd.of_own _ (fun b hb => .inr hb) Hown.out, fun c hc => ((Hok.out c hc).below hb1).more (fun b hb => .inl hb)⟩, hb1⟩

set_option maxRecDepth 100000 in
theorem devflush_any (S F : Nat → Prop) (w : World) (b : Nat) (d : Dv) (h : DevAt TDp TPp S F w b d) (hSF : ∀ k, S k → ¬ F k) :
    Calls Try.prog 23 #[.pointer (some ⟨b, 0, none⟩)] w (fun e w' => e = .returned (.tuple #[]) ∧ DevAt TDp TPp S F w' b d.flush ∧ Chg F w w' ∧ w'.heap.size = w.heap.size) := by
  obtain ⟨hb, hk, hn, wv, lv, cs, hrow, hw, hl, hcs, hok⟩ := h
  have HR : Hid (w.rangeAt b 32 (d.now.map .string)) := range_now hk hrow
  have HT : Hid (w.there b 0 (d.now.map Value.string).toArray.size) := there_of_row hrow 0 _ (by rw [List.size_toArray, List.size_toArray, List.length_map, devCells_len _ _ _ hk hn]; omega)
  have Hs : Hid ((Try.prog.info? 28).map (·.size) = some (d.now.map Value.string).length) := show _ = _ by rw [List.length_map, hn]; kernel_rfl
  have H1 : Hid ((d.now.map Value.string).toArray.all (·.oneCell') = true) := all_oneCell_toArray (fun v hv => by obtain ⟨s, _, rfl⟩ := List.mem_map.1 hv; rfl)
  have hrow1 := heap_setCells_row b _ (d.now.map .string) 0 w _ hrow
  rw [devCells_flush d wv lv hk hn] at hrow1
  obtain ⟨W1, hW1⟩ : ∃ u, w.setCells b 0 (d.now.map .string) = u := ⟨_, rfl⟩
  rw [hW1] at hrow1
  have c64 : W1.cell? ⟨b, 64, none⟩ = some wv := by rw [cell_of_row _ _ _ _ _ _ hrow1]; simpa using devCells_at_w { d with kept := d.now } wv lv hn hn
  have f64 : W1.frozen? ⟨b, 64, none⟩ = false := frozen_of_row _ _ _ _ _ hrow1
  have Hchg : Hid (Chg F w W1) := hW1 ▸ Chg.refl.setCells (.inl hb) _ _
  have Hsz : Hid (W1.heap.size = w.heap.size) := by rw [← hW1]; exact (setCells_rest b _ 0 w).2.2.2
  have Hother : Hid (∀ k, k ≠ b → W1.heap[k]? = w.heap[k]?) := fun k hk => by rw [← hW1]; exact heap_setCells_other b k hk _ _ _
  have Hrow1 := Lib.hid hrow1
  have Hrow := Lib.hid hrow
  have Hl := Lib.hid hl
  have Hcs := Lib.hid hcs
  have Hok := Lib.hid hok
  have HS := Lib.hid hSF
  have Hb := Lib.hid hb
  have Hk := Lib.hid hk
  have Hn := Lib.hid hn
  have HW := Lib.hid hW1
  clear hrow1 hrow hl hcs hok hSF hb hk hn hw hW1
  go_enter Try.func23, Try.ntmps23
  go_wp2_with (first
    | (refine wpList_load_mid rfl 28 (.tmp 6) rfl b 32 rfl (d.now.map .string) _ HR.out Try.underlying28 rfl Hs.out ?_)
    | (refine wpList_store_mid rfl 28 (.tmp 9) (.tmp 7) rfl b 0 (d.now.map Value.string).toArray rfl rfl HT.out (by rw [List.size_toArray]; exact Hs.out) H1.out ?_
       rw [show w.setCells b 0 (d.now.map Value.string).toArray.toList = W1 from HW.out]))
  go_end0
  have hsz : (W1.setCell ⟨b, 64, none⟩ (.slice none 0 0)).heap.size = W1.heap.size := by simp [World.setCell]
  have hother : ∀ k, k ≠ b → (W1.setCell ⟨b, 64, none⟩ (.slice none 0 0)).heap[k]? = w.heap[k]? := fun k hk => (Below.heap_setCell _ _ _ _ hk).trans (Hother.out k hk)
  refine ⟨rfl, ⟨Hb.out, Hn.out, Hn.out, .slice none 0 0, lv, cs, ?_, Ow.nil, ?_, Hcs.out, fun c hm => (Hok.out c hm).keep (fun k hs _ => hother k (fun e => HS.out k hs (e ▸ Hb.out)))⟩, Hchg.out.setCell (.inl Hb.out) _, hsz.trans Hsz.out⟩
  · rw [heap_setCell_same _ _ _ _ _ _ Hrow1.out, devCells_set_w { d with kept := d.now } _ _ _ Hn.out Hn.out]; rfl
  · exact ⟨own_keep Hl.out.1 (fun k hv => hother k (own_ne Hl.out.1 Hrow.out (by decide) k hv)), Hl.out.2⟩

set_option maxRecDepth 100000 in
theorem rdevflush_any (S F : Nat → Prop) (w : World) (b : Nat) (d : Dv) (h : DevAt TDr TPr S F w b d) (hSF : ∀ k, S k → ¬ F k) :
    Calls Try.prog 24 #[.pointer (some ⟨b, 0, none⟩)] w (fun e w' => e = .returned (.tuple #[]) ∧ DevAt TDr TPr S F w' b d.flush ∧ Chg F w w' ∧ w'.heap.size = w.heap.size) := by
  obtain ⟨hb, hk, hn, wv, lv, cs, hrow, hw, hl, hcs, hok⟩ := h
  have HR : Hid (w.rangeAt b 32 (d.now.map .string)) := range_now hk hrow
  have HT : Hid (w.there b 0 (d.now.map Value.string).toArray.size) := there_of_row hrow 0 _ (by rw [List.size_toArray, List.size_toArray, List.length_map, devCells_len _ _ _ hk hn]; omega)
  have Hs : Hid ((Try.prog.info? 28).map (·.size) = some (d.now.map Value.string).length) := show _ = _ by rw [List.length_map, hn]; kernel_rfl
  have H1 : Hid ((d.now.map Value.string).toArray.all (·.oneCell') = true) := all_oneCell_toArray (fun v hv => by obtain ⟨s, _, rfl⟩ := List.mem_map.1 hv; rfl)
  have hrow1 := heap_setCells_row b _ (d.now.map .string) 0 w _ hrow
  rw [devCells_flush d wv lv hk hn] at hrow1
  obtain ⟨W1, hW1⟩ : ∃ u, w.setCells b 0 (d.now.map .string) = u := ⟨_, rfl⟩
  rw [hW1] at hrow1
  have c64 : W1.cell? ⟨b, 64, none⟩ = some wv := by rw [cell_of_row _ _ _ _ _ _ hrow1]; simpa using devCells_at_w { d with kept := d.now } wv lv hn hn
  have f64 : W1.frozen? ⟨b, 64, none⟩ = false := frozen_of_row _ _ _ _ _ hrow1
  have Hchg : Hid (Chg F w W1) := hW1 ▸ Chg.refl.setCells (.inl hb) _ _
  have Hsz : Hid (W1.heap.size = w.heap.size) := by rw [← hW1]; exact (setCells_rest b _ 0 w).2.2.2
  have Hother : Hid (∀ k, k ≠ b → W1.heap[k]? = w.heap[k]?) := fun k hk => by rw [← hW1]; exact heap_setCells_other b k hk _ _ _
  have Hrow1 := Lib.hid hrow1
  have Hrow := Lib.hid hrow
  have Hl := Lib.hid hl
  have Hcs := Lib.hid hcs
  have Hok := Lib.hid hok
  have HS := Lib.hid hSF
  have Hb := Lib.hid hb
  have Hk := Lib.hid hk
  have Hn := Lib.hid hn
  have HW := Lib.hid hW1
  clear hrow1 hrow hl hcs hok hSF hb hk hn hw hW1
  go_enter Try.func24, Try.ntmps24
  go_wp2_with (first
    | (refine wpList_load_mid rfl 28 (.tmp 5) rfl b 32 rfl (d.now.map .string) _ HR.out Try.underlying28 rfl Hs.out ?_)
    | (refine wpList_store_mid rfl 28 (.tmp 8) (.tmp 6) rfl b 0 (d.now.map Value.string).toArray rfl rfl HT.out (by rw [List.size_toArray]; exact Hs.out) H1.out ?_
       rw [show w.setCells b 0 (d.now.map Value.string).toArray.toList = W1 from HW.out]))
  go_end0
  have hsz : (W1.setCell ⟨b, 64, none⟩ (.slice none 0 0)).heap.size = W1.heap.size := by simp [World.setCell]
  have hother : ∀ k, k ≠ b → (W1.setCell ⟨b, 64, none⟩ (.slice none 0 0)).heap[k]? = w.heap[k]? := fun k hk => (Below.heap_setCell _ _ _ _ hk).trans (Hother.out k hk)
  refine ⟨rfl, ⟨Hb.out, Hn.out, Hn.out, .slice none 0 0, lv, cs, ?_, Ow.nil, ?_, Hcs.out, fun c hm => (Hok.out c hm).keep (fun k hs _ => hother k (fun e => HS.out k hs (e ▸ Hb.out)))⟩, Hchg.out.setCell (.inl Hb.out) _, hsz.trans Hsz.out⟩
  · rw [heap_setCell_same _ _ _ _ _ _ Hrow1.out, devCells_set_w { d with kept := d.now } _ _ _ Hn.out Hn.out]; rfl
  · exact ⟨own_keep Hl.out.1 (fun k hv => hother k (own_ne Hl.out.1 Hrow.out (by decide) k hv)), Hl.out.2⟩

theorem new_cells : devCells Dv.new (.slice none 0 0) (.slice none 0 0) = List.replicate 64 (.string ⟨#[]⟩) ++ [.slice none 0 0, .slice none 0 0] := rfl
theorem dev_new (TD TP : TypeId) (S F : Nat → Prop) {w : World} {b : Nat} (h : w.heap[b]? = some (.cells (devCells Dv.new (.slice none 0 0) (.slice none 0 0)).toArray TD (0, 0))) (hb : F b) : DevAt TD TP S F w b Dv.new :=
  ⟨hb, rfl, rfl, _, _, [], h, Ow.nil, Ow.nil, rfl, by simp⟩
set_option maxRecDepth 100000 in
theorem devnew_any (w : World) :
    Calls Try.prog 15 #[] w (fun e w' => e = .returned (.pointer (some ⟨w.heap.size, 0, none⟩)) ∧ (∀ S, DevAt TDp TPp S (fun k => k = w.heap.size) w' w.heap.size Dv.new) ∧ Below w.heap.size w w' ∧ w'.heap.size = w.heap.size + 1) := by
  go_enter Try.func15, Try.ntmps15
  go_wp2_with fail
  go_ret
  exact ⟨rfl, fun S => dev_new _ _ _ _ (heap_alloc_new _ _) rfl, (Below.refl _ _).alloc (Nat.le_refl _) _, by simp⟩
end Go.Proofs.Ytdhiepcglnbkbaa
