/- slices.Insert of one sector into a row of the call's own. Put: with it in its place; another one may have to go. write: a sector is put to what is at hand. gen_stwrite.py prints this text. sync: what is still dirty is waited for. slices.IndexFunc over what a sync waits for. slices.DeleteFunc over what a sync waits for. -/
import Derived.Test.YtojmnfelecnenaaQ8
import Derived.Lib.AppendZerosOnto
import Derived.Lib.Overlaps
import Derived.Laws.CopyRow
import Derived.Laws.Externs
import Derived.Test.YtojmnfelecnenaaQ7
import Derived.Test.YtojmnfelecnenaaQ4
import Derived.Test.YtojmnfelecnenaaQ1
namespace Go.Proofs.Ytojmnfelecnenaa
set_option linter.unusedSimpArgs false
set_option linter.unusedVariables false
open Go.RowKit

section
variable {P : Program}
/-- copy into a row, whatever the size of its elements. -/
theorem run_copy_wide (w : World) (dT sT ty elem : TypeId) (size g o dLen dCap : Nat) (a : Addr) (sLen sCap : Nat) (cur : Array Value) (t : TypeId) (cs : List Value)
    (hu : P.underlying dT = some (.slice elem)) (hs : (P.info? elem).map (·.size) = some size) (hg : w.heap[g]? = some (.cells cur t (0, 0))) (hn : cs.length = Nat.min sLen dLen * size)
    (hsrc : ∀ j v, cs[j]? = some v → w.cell? (a.add j) = some v) (hfit : o + cs.length ≤ cur.size) (h1 : ∀ v ∈ cs, v.oneCell' = true) :
    (Builtin.copy_ #[dT, sT] ty #[.slice (some ⟨g, o, none⟩) dLen dCap, .slice (some a) sLen sCap]).run P w =
      .ok (goInt (Nat.min sLen dLen)) (w.setRow g (cur.toList.take o ++ cs ++ cur.toList.drop (o + cs.length)).toArray) := by
  have hl := run_loadCells_list (P := P) w a cs hsrc
  have hst := run_storeCells_at P g o t cs 0 cur w hg (by simpa using hfit) h1
  cases hq : P.info? elem with
  | none => simp [hq] at hs
  | some i =>
    have hi : i.size = size := by simpa [hq] using hs
    simp [Builtin.copy_, run_underlying hu, Builtin.lenOf, Builtin.firstCells, sizeOf, typeInfo, hq, hi, ← hn, hl, hst]
/-- copy, where its run is known. -/
theorem wpList_copy_known (w : World) {ops : Array Oper} {rest : List Oper} {o : Oper} {a : Act} {Q : Exit → Act → World → Prop} (hgd : o.guard = none) (d s : Operand) (t t' : TypeId)
    (ho : o.op = .call { callee := .builtin .copy, args := #[d, s], argTypes := #[t, t'] }) (v u : Value) (hd : a.eval d = v) (hs : a.eval s = u) {v' : Value} {w' : World}
    (hr : (Builtin.copy_ #[t, t'] o.type #[v, u]).run P w = .ok v' w') (h : wpList P ops Q rest (a.put o.dst v') w') : wpList P ops Q (o :: rest) a w :=
  wpList_plain hgd fun K hK => by
    unfold Oper.wp execOp
    simp only [ho, resolve, invoke, builtin, Sem.run_bind, Sem.run_pure, Result.andThen_ok, List.map_toArray, List.map_cons, List.map_nil, hd, hs, hr]
    exact hK _ _ h
theorem step_copy_known {ops : Array Oper} {o : Oper} {a : Act} {w : World} {K : Act → World → Prop} {Q : Exit → Act → World → Prop} {E : Prop} (hg : o.guard = none) (d x : Operand) (dT sT : TypeId)
    (hop : o.op = Op.call { callee := Callee.builtin Builtin.copy, args := #[d, x], argTypes := #[dT, sT] }) (v u : Value) (hd : a.eval d = v) (hx : a.eval x = u) {v' : Value} {w' : World}
    (hr : (Builtin.copy_ #[dT, sT] o.type #[v, u]).run P w = .ok v' w') (hK : K (a.put o.dst v') w') : if Region.wanted o (yielded ops a.tmps) = true then Oper.wp P o a w K Q else E := by
  have hw : Region.wanted o (yielded ops a.tmps) = true := by simp [Region.wanted, hg]
  rw [if_pos hw]
  unfold Oper.wp execOp
  simp only [hop, resolve, invoke, builtin, Sem.run_bind, Sem.run_pure, Result.andThen_ok, List.map_toArray, List.map_cons, List.map_nil, hd, hx, hr]
  exact hK
end
theorem grown_setRow {w0 w : World} {g : Nat} {cs : Array Value} {r : Option Nat} (h : w0.grownBy w r) (hg : some g = r ∨ w0.heap.size ≤ g) : w0.grownBy (w.setRow g cs) r :=
  ⟨h.os, h.tape, h.output, by simpa [World.setRow] using h.size, fun k hk hr => by
    rw [setRow_other _ _ _ _ (fun e => by
      subst e
      rcases hg with hg | hg
      · exact hr hg
      · omega)]
    exact h.block k hk hr⟩
theorem grown_drew {w0 w : World} {r : Option Nat} (h : w0.grownBy w r) : w0.grownBy w.drew r := ⟨h.os, h.tape, h.output, h.size, h.block⟩
theorem grown_alloc {w0 w : World} {r : Option Nat} (h : w0.grownBy w r) (o : Obj) : w0.grownBy (w.alloc o) r :=
  ⟨h.os, h.tape, h.output, Nat.le_trans h.size (by simp), fun k hk hr => by
    rw [Below.heap_alloc _ _ _ (Nat.lt_of_lt_of_le hk h.size)]; exact h.block k hk hr⟩

set_option maxRecDepth 100000 in
set_option maxHeartbeats 4000000 in
theorem binsert_any (base : Nat) (v : Value) (n i vb : Nat) (xs ys : List Value) (w : World) (hown : w.ownsRow base 92 4 v n xs) (h1 : ∀ u ∈ xs, u.oneCell' = true)
    (hy : w.heap[vb]? = some (.cells ys.toArray 92 (0, 0))) (hyl : ys.length = 4) (hy1 : ∀ u ∈ ys, u.oneCell' = true) (hvb : v.ownBlock ≠ some vb) (hi : i ≤ n) (hn : n ≤ 65536) (hbase : base ≤ w.heap.size) :
    Calls Try.prog 85 #[v, .int .i64 i, .slice (some ⟨vb, 0, none⟩) 1 1] w fun E w' =>
      ∃ v', E = .returned v' ∧ w'.ownsRow base 92 4 v' (n + 1) (xs.take (i * 4) ++ ys ++ xs.drop (i * 4)) ∧ w.grownBy w' v.ownBlock := by
  obtain ⟨i0, hi0, hz0, hz1, hz2⟩ := info_parts bufInfo
  obtain ⟨R, hR⟩ : ∃ x, xs.take (i * 4) ++ ys ++ xs.drop (i * 4) = x := ⟨_, rfl⟩
  rw [hR]
  have HR := Lib.hid hR
  clear hR
  obtain ⟨r, hr⟩ : ∃ x, v.ownBlock = x := ⟨_, rfl⟩
  rw [hr]
  have hr0 := Lib.hid hr
  clear hr
  have hlen := hown.1
  have hvbl : vb < w.heap.size := by
    rcases Nat.lt_or_ge vb w.heap.size with h | h
    · exact h
    · rw [Array.getElem?_eq_none h] at hy; cases hy
  have hyc : ∀ (w' : World), w'.heap[vb]? = w.heap[vb]? → ∀ j u, ys[j]? = some u → w'.cell? ⟨vb, j, none⟩ = some u := fun w' hw j u hu => by
    rw [cell_of_row _ _ _ _ _ _ (hw.trans hy)]; simpa using hu
  have hyr : Rd (fun _ => True) w 4 (.slice (some ⟨vb, 0, none⟩) 1 1) 1 ys := ⟨_, _, rfl, by omega, by simp [maxLen], by omega, fun _ => ⟨vb, 0, rfl, trivial, fun j u hu => by simpa using hyc w rfl j u hu⟩⟩
  by_cases hin : i = n
  · subst hin
    have hv : ∃ A cap, v = .slice A i cap ∧ i ≤ cap ∧ cap ≤ 9223372036854775807 := by
      rcases hown.2 with ⟨h, h0⟩ | ⟨g, cap, cur, h, _, _, h3, h4, _⟩
      · exact ⟨none, 0, by rw [h, h0], by omega, by omega⟩
      · unfold maxLen at h4; exact ⟨_, cap, h, h3, by omega⟩
    obtain ⟨A, cap, rfl, hc1, hc2⟩ := hv
    have Hown := Lib.hid hown
    have Hyr := Lib.hid hyr
    have Hxs : Hid (R = xs ++ ys) := show _ = _ by rw [← HR.out, List.take_of_length_le (by omega), List.drop_eq_nil_of_le (by omega), List.append_nil]
    clear hown hyr hyc hlen
    go_enter Try.func85, Try.ntmps85
    go_wp2_with (at_builtin; refine wpList_append_rd (S := fun _ => True) _ rfl (.tmp 23) (.tmp 24) _ rfl base 92 i0 _ 4 40 Try.underlying72 hi0 hz0 hz1 hz2 rfl (by omega) (.slice A i cap) i xs rfl Hown.out (.slice (some ⟨vb, 0, none⟩) 1 1) 1 ys rfl Hyr.out hy1 (by simp only [maxLen]; omega) (by omega) hbase ?_; intro v1 w1 hown1 hg1 hat1; rw [hr0.out] at hg1; clear hat1)
    all_goals
      go_ret
      exact ⟨v1, rfl, by rw [Hxs.out]; exact hown1, hg1⟩
  · have hlt : i < n := by omega
    obtain ⟨g, cap, rfl, hbg, hgl, hnc, hcm⟩ := own_pos hown (by omega)
    obtain ⟨cur, hrow, _, _, _, hcs, htk⟩ := ownB_row hown (by omega)
    have hgv : g ≠ vb := fun e => hvb (by rw [e]; rfl)
    have hcel : ∀ (w' : World), w'.heap[g]? = w.heap[g]? → ∀ j u, xs[j]? = some u → w'.cell? ⟨g, j, none⟩ = some u := fun w' hw j u hu => by
      have hj : j < n * 4 := by have := (List.getElem?_eq_some_iff.1 hu).1; omega
      rw [cell_of_row _ _ _ _ _ _ (hw.trans hrow), ← Array.getElem?_toList, ← hu, ← htk, List.getElem?_take, if_pos hj]
    have hw1 : (i : Int) ≤ (n : Int) := by omega
    have hz3 : ((i : Int) == (n : Int)) = false := by simp; omega
    by_cases hroom : n + 1 ≤ cap
    · have hov : ∀ lb cb, (callFunc 98 #[.slice (some ⟨vb, 0, none⟩) 1 1, .slice (some ⟨g, (i + 1) * 4, none⟩) lb cb]).run Try.prog w = .ok (.value (.bool false)) w := fun lb cb => by
        rw [run_callFunc_extern Try.func98 (by kernel_rfl) (by kernel_rfl) (by kernel_rfl) (e := Extern.SlicesOverlaps.overlaps #[72, 72] #[4]) (by kernel_rfl),
          Lib.run_overlaps_apart w 72 4 92 Try.underlying72 4 Try.sizeOf92 ⟨vb, 0, none⟩ ⟨g, (i + 1) * 4, none⟩ 1 1 lb cb (fun e => hgv e.symm) 92 92 ys.toArray.size cur.size (by simp [World.shape?, hy]) (by simp [World.shape?, hrow]) (by omega) (frozen_of_row _ _ _ _ _ hy) (frozen_of_row _ _ _ _ _ hy)]
        rfl
      obtain ⟨w1, hcp1, hrow1, hg1⟩ : ∃ w1, (∀ ty dc sc, (Builtin.copy_ #[72, 72] ty #[.slice (some ⟨g, (i + 1) * 4, none⟩) (n - i) dc, .slice (some ⟨g, i * 4, none⟩) (n + 1 - i) sc]).run Try.prog w.drew = .ok (goInt ((n - i : Nat) : Int)) w1) ∧
          w1.heap[g]? = some (.cells (cur.toList.take ((i + 1) * 4) ++ xs.drop (i * 4) ++ cur.toList.drop ((i + 1) * 4 + (xs.drop (i * 4)).length)).toArray 92 (0, 0)) ∧ w.grownBy w1 (some g) := by
        have hdl : (xs.drop (i * 4)).length = (n - i) * 4 := by rw [List.length_drop, hlen]; omega
        have hmin : Nat.min (n + 1 - i) (n - i) = n - i := by simp only [Nat.min_def]; split <;> omega
        refine ⟨w.drew.setRow g _, fun ty dc sc => ?_, setRow_heap w.drew g cur _ _ _ hrow, grown_setRow (grown_drew (World.grownBy.refl w _)) (.inl rfl)⟩
        have := run_copy_wide (P := Try.prog) w.drew 72 72 ty 92 4 g ((i + 1) * 4) (n - i) dc ⟨g, i * 4, none⟩ (n + 1 - i) sc cur _ (xs.drop (i * 4)) Try.underlying72 (by rw [hi0]; simp [hz1]) hrow
          (by rw [hdl, hmin]) (fun j u hu => by rw [Go.WideShapes.add_plain]; exact hcel w.drew rfl _ u (by rwa [List.getElem?_drop] at hu)) (by rw [hdl, hcs]; omega) (fun u hu => h1 u (List.mem_of_mem_drop hu))
        rw [hmin] at this
        exact this
      obtain ⟨w2, hcp2, hrow2, hg2⟩ : ∃ w2, (∀ ty dc, (Builtin.copy_ #[72, 72] ty #[.slice (some ⟨g, i * 4, none⟩) (n + 1 - i) dc, .slice (some ⟨vb, 0, none⟩) 1 1]).run Try.prog w1 = .ok (goInt 1) w2) ∧
          w2.heap[g]? = some (.cells (xs.take (i * 4) ++ ys ++ xs.drop (i * 4) ++ cur.toList.drop ((n + 1) * 4)).toArray 92 (0, 0)) ∧ w.grownBy w2 (some g) := by
        have hmin : Nat.min 1 (n + 1 - i) = 1 := by simp only [Nat.min_def]; split <;> omega
        have hdl : (xs.drop (i * 4)).length = (n - i) * 4 := by rw [List.length_drop, hlen]; omega
        have hyw : w1.heap[vb]? = w.heap[vb]? := hg1.block vb hvbl (by simp; exact fun e => hgv e.symm)
        have hcurl : cur.toList.length = cap * 4 := by rw [Array.length_toList, hcs]
        have eArr : ((cur.toList.take ((i + 1) * 4) ++ xs.drop (i * 4) ++ cur.toList.drop ((i + 1) * 4 + (xs.drop (i * 4)).length)).toArray.toList.take (i * 4) ++ ys ++ (cur.toList.take ((i + 1) * 4) ++ xs.drop (i * 4) ++ cur.toList.drop ((i + 1) * 4 + (xs.drop (i * 4)).length)).toArray.toList.drop (i * 4 + ys.length)).toArray =
            (xs.take (i * 4) ++ ys ++ xs.drop (i * 4) ++ cur.toList.drop ((n + 1) * 4)).toArray := by
          rw [List.toList_toArray, hyl, hdl]
          have ht : cur.toList.take (i * 4) = xs.take (i * 4) := by rw [← htk, List.take_take]; congr 1; omega
          rw [List.append_assoc (cur.toList.take ((i + 1) * 4)), List.take_append_of_le_length (by rw [List.length_take, hcurl]; omega), List.take_take, Nat.min_eq_left (by omega), ht,
            List.drop_append, List.length_take, hcurl, Nat.min_eq_left (by omega), List.drop_eq_nil_of_le (by rw [List.length_take, hcurl]; omega), show i * 4 + 4 - (i + 1) * 4 = 0 by omega, List.drop_zero, List.nil_append,
            show (i + 1) * 4 + (n - i) * 4 = (n + 1) * 4 by omega]
          simp only [List.append_assoc]
        refine ⟨w1.setRow g _, fun ty dc => ?_, setRow_heap w1 g _ _ _ _ hrow1, grown_setRow hg1 (.inl rfl)⟩
        have h3 := run_copy_wide (P := Try.prog) w1 72 72 ty 92 4 g (i * 4) (n + 1 - i) dc ⟨vb, 0, none⟩ 1 1 _ _ ys Try.underlying72 (by rw [hi0]; simp [hz1]) hrow1
          (by rw [hmin, hyl]) (fun j u hu => by rw [Go.WideShapes.add_plain]; simpa using hyc w1 hyw j u hu) (by
            rw [List.size_toArray]; simp only [List.length_append, List.length_take, List.length_drop, hcurl, hyl]; omega) hy1
        rw [hmin, eArr] at h3
        exact h3
      have Hfin : Hid (w2.ownsRow base 92 4 (.slice (some ⟨g, 0, none⟩) (n + 1) cap) (n + 1) R) := by
        rw [← HR.out]
        refine ⟨by simp only [List.length_append, List.length_take, List.length_drop, hlen, hyl]; omega, .inr ⟨g, cap, _, rfl, hbg, hrow2, hroom, by simp only [maxLen]; omega, ?_, ?_⟩⟩
        · rw [List.size_toArray]; simp only [List.length_append, List.length_take, List.length_drop, hlen, hyl, Array.length_toList, hcs]; omega
        · simp only []
          rw [List.take_append_of_le_length (by simp only [List.length_append, List.length_take, List.length_drop, hlen, hyl]; omega), List.take_of_length_le (by simp only [List.length_append, List.length_take, List.length_drop, hlen, hyl]; omega)]
      have Hg2 : Hid (w.grownBy w2 r) := by rw [← hr0.out]; exact hg2
      have Hcp1 := Lib.hid hcp1
      have Hcp2 := Lib.hid hcp2
      clear hcel hyc hyr hown hrow hrow1 hrow2 hg1 hg2 htk hcs hlen h1 hy hy1 hyl hcp1 hcp2
      have hw2 : IntKind.i64.wrap ((i : Int) + 1) = (i : Int) + 1 := by rw [IntKind.wrap_i64]; omega
      have hb1 : (0 : Int) ≤ (i : Int) + 1 := by omega
      have hb2 : ¬ (cap = i + 1) := by omega
      have hb3 : (i : Int) ≤ (n : Int) + 1 := by omega
      have hb4 : ¬ (cap = i) := by omega
      have htn : ((i : Int) + 1).toNat = i + 1 := by omega
      have hz5 : decide ((cap : Int) < (n : Int) + 1) = false := by simp; omega
      go_enter Try.func85, Try.ntmps85
      go_wp2_with (simp only [hov])
      have hcp1 := Hcp1.out
      have hcp2 := Hcp2.out
      go_region
      go_wp2
      go_ret
      exact ⟨_, rfl, Hfin.out, Hg2.out⟩
    · obtain rfl : cap = n := by omega
      obtain ⟨N, hN⟩ : ∃ x, w.heap.size = x := ⟨_, rfl⟩
      have hcurl : cur.toList.length = cap * 4 := by rw [Array.length_toList, hcs]
      obtain ⟨w1, G, row, hap, hrow1, hG1, hG2, hrs, hrt, hg1, hsz1⟩ : ∃ w1 G, ∃ row : Array Value, (∀ ty, (Builtin.append_ #[72, 3] ty #[.slice (some ⟨g, 0, none⟩) i cap, .int .i64 ((cap : Int) + 1 - (i : Int))]).run Try.prog w = .ok (.slice (some ⟨N, 0, none⟩) (cap + 1) G) w1) ∧
          w1.heap[N]? = some (.cells row 92 (0, 0)) ∧ cap + 1 ≤ G ∧ G ≤ 9223372036854775807 ∧ row.size = G * 4 ∧ row.toList.take (i * 4) = xs.take (i * 4) ∧ w.grownBy w1 none ∧ w1.heap.size = N + 1 := by
        have hold : (Builtin.firstCells i0.size i (.slice (some ⟨g, 0, none⟩) i cap)).run Try.prog w.drew = .ok (xs.take (i * 4)).toArray w.drew := by
          rw [hz1]
          exact run_firstCells_some w.drew 4 i ⟨g, 0, none⟩ i cap (xs.take (i * 4)) (by rw [List.length_take, hlen]; omega) (fun j u hj => by
            rw [Go.WideShapes.add_plain]
            rw [List.getElem?_take] at hj
            split at hj
            · simpa using hcel w.drew rfl j u hj
            · cases hj)
        have hG := grownCap_ge w (i + (cap + 1 - i)) cap 92
        have hG' := grownCap_le_maxLen w (i + (cap + 1 - i)) cap 92 (by unfold maxLen; omega)
        have e1 : i + (cap + 1 - i) = cap + 1 := by omega
        have h := fun ty => Lib.run_append_grow_zeros (P := Try.prog) w 72 3 ty 92 i0 _ .i64 .i64 Try.underlying72 Try.underlying3 hi0 hz0 (some ⟨g, 0, none⟩) i cap (xs.take (i * 4)) hold (cap + 1 - i) (by omega) (by rw [hz1]; omega) (by omega) (by omega) (by rw [hz2]; omega) (by rw [hz2, e1]; exact growslice_fits (by omega) (by omega))
        have e2 : (((cap + 1 - i : Nat)) : Int) = (cap : Int) + 1 - (i : Int) := by omega
        rw [e2] at h
        have hs : ((xs.take (i * 4)).toArray ++ Builtin.zeroCells (Value.agg #[.int .i64 0, .string ⟨#[]⟩, .bool false, .int .i64 0]).cells (cap + 1 - i) ++ Builtin.zeroCells (Value.agg #[.int .i64 0, .string ⟨#[]⟩, .bool false, .int .i64 0]).cells (grownCap w (i + (cap + 1 - i)) cap 92 - (i + (cap + 1 - i)))).size = grownCap w (i + (cap + 1 - i)) cap 92 * 4 := by
          simp only [Array.size_append, size_zeroCells, List.size_toArray, List.length_take, hlen, Value.cells, List.length_cons, List.length_nil]
          omega
        have ht : ((xs.take (i * 4)).toArray ++ Builtin.zeroCells (Value.agg #[.int .i64 0, .string ⟨#[]⟩, .bool false, .int .i64 0]).cells (cap + 1 - i) ++ Builtin.zeroCells (Value.agg #[.int .i64 0, .string ⟨#[]⟩, .bool false, .int .i64 0]).cells (grownCap w (i + (cap + 1 - i)) cap 92 - (i + (cap + 1 - i)))).toList.take (i * 4) = xs.take (i * 4) := by
          rw [Array.toList_append, Array.toList_append, List.toList_toArray, List.append_assoc, List.take_append_of_le_length (by rw [List.length_take, hlen]; omega), List.take_take, Nat.min_self]
        generalize (xs.take (i * 4)).toArray ++ Builtin.zeroCells (Value.agg #[.int .i64 0, .string ⟨#[]⟩, .bool false, .int .i64 0]).cells (cap + 1 - i) ++ Builtin.zeroCells (Value.agg #[.int .i64 0, .string ⟨#[]⟩, .bool false, .int .i64 0]).cells (grownCap w (i + (cap + 1 - i)) cap 92 - (i + (cap + 1 - i))) = ROW at h hs ht
        refine ⟨w.drew.alloc (.cells ROW 92), grownCap w (i + (cap + 1 - i)) cap 92, ROW, fun ty => ?_, ?_, by omega, by unfold maxLen at hG'; omega, hs, ht, grown_alloc (grown_drew (World.grownBy.refl w _)) _, by simp [hN]⟩
        · rw [h ty, hN, e1]
        · rw [← hN]; exact heap_alloc_new w.drew _
      have hgN : g ≠ N := by omega
      have hvN : vb ≠ N := by omega
      obtain ⟨w2, hcp1, hrow2, hg2⟩ : ∃ w2, (∀ ty dc, (Builtin.copy_ #[72, 72] ty #[.slice (some ⟨N, i * 4, none⟩) (cap + 1 - i) dc, .slice (some ⟨vb, 0, none⟩) 1 1]).run Try.prog w1 = .ok (goInt 1) w2) ∧
          w2.heap[N]? = some (.cells (xs.take (i * 4) ++ ys ++ row.toList.drop (i * 4 + 4)).toArray 92 (0, 0)) ∧ w.grownBy w2 none := by
        have hmin : Nat.min 1 (cap + 1 - i) = 1 := by simp only [Nat.min_def]; split <;> omega
        have hyw : w1.heap[vb]? = w.heap[vb]? := hg1.block vb hvbl (by simp)
        refine ⟨w1.setRow N _, fun ty dc => ?_, setRow_heap w1 N _ _ _ _ hrow1, grown_setRow hg1 (.inr (by omega))⟩
        have h3 := run_copy_wide (P := Try.prog) w1 72 72 ty 92 4 N (i * 4) (cap + 1 - i) dc ⟨vb, 0, none⟩ 1 1 row _ ys Try.underlying72 (by rw [hi0]; simp [hz1]) hrow1
          (by rw [hmin, hyl]) (fun j u hu => by rw [Go.WideShapes.add_plain]; simpa using hyc w1 hyw j u hu) (by rw [hrs, hyl]; omega) hy1
        rw [hmin, hrt, hyl] at h3
        exact h3
      obtain ⟨w3, hcp2, hrow3, hg3⟩ : ∃ w3, (∀ ty dc sc, (Builtin.copy_ #[72, 72] ty #[.slice (some ⟨N, (i + 1) * 4, none⟩) (cap - i) dc, .slice (some ⟨g, i * 4, none⟩) (cap - i) sc]).run Try.prog w2.drew = .ok (goInt ((cap - i : Nat) : Int)) w3) ∧
          w3.heap[N]? = some (.cells (xs.take (i * 4) ++ ys ++ xs.drop (i * 4) ++ row.toList.drop ((cap + 1) * 4)).toArray 92 (0, 0)) ∧ w.grownBy w3 none := by
        have hdl : (xs.drop (i * 4)).length = (cap - i) * 4 := by rw [List.length_drop, hlen]; omega
        have hgw : w2.drew.heap[g]? = w.heap[g]? := hg2.block g hgl (by simp)
        have eArr : ((xs.take (i * 4) ++ ys ++ row.toList.drop (i * 4 + 4)).toArray.toList.take ((i + 1) * 4) ++ xs.drop (i * 4) ++ (xs.take (i * 4) ++ ys ++ row.toList.drop (i * 4 + 4)).toArray.toList.drop ((i + 1) * 4 + (xs.drop (i * 4)).length)).toArray =
            (xs.take (i * 4) ++ ys ++ xs.drop (i * 4) ++ row.toList.drop ((cap + 1) * 4)).toArray := by
          have hhl : (xs.take (i * 4) ++ ys).length = (i + 1) * 4 := by rw [List.length_append, List.length_take, hlen, hyl]; omega
          rw [List.toList_toArray, hdl, List.take_append_of_le_length (by omega), List.take_of_length_le (by omega), List.drop_append, hhl, (List.drop_eq_nil_of_le (by omega) : (xs.take (i * 4) ++ ys).drop ((i + 1) * 4 + (cap - i) * 4) = []), List.nil_append, List.drop_drop]
          congr 3; omega
        refine ⟨w2.drew.setRow N _, fun ty dc sc => ?_, setRow_heap w2.drew N _ _ _ _ hrow2, grown_setRow (grown_drew hg2) (.inr (by omega))⟩
        have h3 := run_copy_wide (P := Try.prog) w2.drew 72 72 ty 92 4 N ((i + 1) * 4) (cap - i) dc ⟨g, i * 4, none⟩ (cap - i) sc _ _ (xs.drop (i * 4)) Try.underlying72 (by rw [hi0]; simp [hz1]) hrow2
          (by rw [hdl]; congr 1; simp only [Nat.min_def]; split <;> omega) (fun j u hu => by rw [Go.WideShapes.add_plain]; exact hcel w2.drew hgw _ u (by rwa [List.getElem?_drop] at hu)) (by
            rw [List.size_toArray]; simp only [List.length_append, List.length_take, List.length_drop, Array.length_toList, hrs, hyl, hlen]; omega) (fun u hu => h1 u (List.mem_of_mem_drop hu))
        rw [eArr, show Nat.min (cap - i) (cap - i) = cap - i from Nat.min_self _] at h3
        exact h3
      have Hfin : Hid (w3.ownsRow base 92 4 (.slice (some ⟨N, 0, none⟩) (cap + 1) G) (cap + 1) R) := by
        rw [← HR.out]
        refine ⟨by simp only [List.length_append, List.length_take, List.length_drop, hlen, hyl]; omega, .inr ⟨N, G, _, rfl, by omega, hrow3, hG1, by simp only [maxLen]; omega, ?_, ?_⟩⟩
        · rw [List.size_toArray]; simp only [List.length_append, List.length_take, List.length_drop, hlen, hyl, Array.length_toList, hrs]; omega
        · simp only []
          rw [List.take_append_of_le_length (by simp only [List.length_append, List.length_take, List.length_drop, hlen, hyl]; omega), List.take_of_length_le (by simp only [List.length_append, List.length_take, List.length_drop, hlen, hyl]; omega)]
      have Hg3 : Hid (w.grownBy w3 r) := ⟨hg3.os, hg3.tape, hg3.output, hg3.size, fun k hk _ => hg3.block k hk (by simp)⟩
      clear hcel hyc hyr hown hrow hrow1 hrow2 hrow3 hg1 hg2 hg3 htk hcs hlen h1 hy hy1 hyl hrs hrt hcurl
      have hw2 : IntKind.i64.wrap ((i : Int) + 1) = (i : Int) + 1 := by rw [IntKind.wrap_i64]; omega
      have hw3 : IntKind.i64.wrap ((cap : Int) + 1 - (i : Int)) = (cap : Int) + 1 - (i : Int) := by rw [IntKind.wrap_i64]; omega
      have hb1 : (0 : Int) ≤ (i : Int) + 1 := by omega
      have hb2 : ¬ (cap = i) := by omega
      have hb3 : (i : Int) ≤ (cap : Int) + 1 := by omega
      have hb4 : ¬ (G = i) := by omega
      have hb5 : ¬ (G = i + 1) := by omega
      have htn : ((i : Int) + 1).toNat = i + 1 := by omega
      have hz5 : (cap : Int) < (cap : Int) + 1 := by omega
      go_enter Try.func85, Try.ntmps85
      go_wp2_with (at_builtin; refine Lib.wpList_append_run _ rfl _ _ _ _ rfl _ _ rfl rfl _ _ (hap _) ?_)
      go_region
      go_wp2
      go_ret
      exact ⟨_, rfl, Hfin.out, Hg3.out⟩
end Go.Proofs.Ytojmnfelecnenaa
namespace Go.Proofs.Ytojmnfelecnenaa
set_option linter.unusedSimpArgs false
set_option linter.unusedVariables false
open Go.RowKit

/-- It returns a row of the call's own that holds the sectors, and no error. -/
def RetPut (m : List Bf) (w : World) : Ending → World → Prop := fun e w' => ∃ v, e = .returned (.tuple #[v, .nilIface]) ∧ w'.ownsRow w.heap.size 92 4 v m.length (flatB m) ∧ Below w.heap.size w w'
theorem flatB_ins (l : List Bf) (b : Bf) : (flatB l).take (posB l b.pos * 4) ++ b.cells ++ (flatB l).drop (posB l b.pos * 4) = flatB (insB l b) := by
  rw [flatB_take, flatB_drop]; unfold insB; rw [flatB_app, flatB_cons]; simp [List.append_assoc]
theorem insB_len (l : List Bf) (b : Bf) : (insB l b).length = l.length + 1 := by
  have := posB_le l b.pos
  unfold insB; simp; omega
theorem flatB_erase (l : List Bf) (i : Nat) : (flatB l).take (i * 4) ++ (flatB l).drop ((i + 1) * 4) = flatB (l.eraseIdx i) := by
  rw [flatB_take, flatB_drop, ← flatB_app, List.eraseIdx_eq_take_drop_succ]
theorem cellsB_one (b : Bf) : ∀ u ∈ b.cells, u.oneCell' = true := by
  intro u hu
  simp only [Bf.cells, List.mem_cons, List.not_mem_nil, or_false] at hu
  rcases hu with rfl | rfl | rfl | rfl <;> rfl
theorem mapPut_at {l : List Bf} (h : Rises l) {b x : Bf} {i : Nat} (hx : l[i]? = some x) (hp : x.pos = b.pos) : (l.map fun y => if y.pos = b.pos then b else y) = l.set i b := by
  have := map_one h hx hp (fun y => if y.pos = b.pos then b else y) (fun y hy => if_neg hy)
  rw [if_pos hp] at this; exact this

set_option maxRecDepth 100000 in
set_option maxHeartbeats 1000000 in
/-- It is at hand already. -/
theorem put_there (S : Nat → Prop) (l : List Bf) (v : Value) (b : Bf) (F : Value) (w : World) (h : BufsAt S w v l) (hr : Rises l) (hi : isB l b.pos = true) (hn : l.length ≤ 65536) :
    Calls Try.prog 60 #[v, bfV b, F] w (RetPut (l.map fun y => if y.pos = b.pos then b else y) w) := by
  obtain ⟨A, cap, rfl, h1, h2⟩ := h.form
  unfold maxLen at h2
  have H := Lib.hid h
  have HR := Lib.hid hr
  have Hi := Lib.hid hi
  clear h hr hi
  go_enter Try.func60, Try.ntmps60
  go_wp2_with fail
  have L := (Lay.refl w).alloc' w.heap.size #[.int .i64 b.pos, .string b.data, .bool b.dirty, .int .i64 b.used] 92 rfl
  have hz : (w.alloc (.cells #[.int .i64 b.pos, .string b.data, .bool b.dirty, .int .i64 b.used] 92)).heap.size = w.heap.size + 1 := by simp
  generalize World.alloc _ _ = W at L hz ⊢
  have Hz := Lib.hid hz
  clear hz
  refine (bclone_any S _ l.length (flatB l) _ (H.out.below L.below).1 (flatB_one l) hn).mono ?_
  rintro e w1 ⟨v1, rfl, hown, hb1⟩
  have Hown := Lib.hid hown
  have L1 := L.step hb1
  obtain ⟨A1, cp1, rfl, hc1, hc2⟩ := ownB_slice hown
  clear hown L
  obtain ⟨q0, q1, q2, q3⟩ := L1.c4 0 rfl
  clear hb1
  go_wp2_with fail
  refine (find_any (fun _ => True) l _ b.pos _ (bufs_of_own (fun _ _ => trivial) Hown.out H.out.2) HR.out hn).mono ?_
  rintro e w2 ⟨rfl, hb2⟩
  have Ho2 := Lib.hid (own_below Hown.out hb2)
  have L2 := L1.step hb2
  clear hb2 L1 q0 q1 q2 q3
  obtain ⟨q0, q1, q2, q3⟩ := L2.c4 0 rfl
  rw [Hi.out]
  obtain ⟨x, hx, hp⟩ := isB_at HR.out Hi.out
  have hlt := (List.getElem?_eq_some_iff.1 hx).1
  have hi1 : ((posB l b.pos : Nat) : Int) < (l.length : Int) := by omega
  obtain ⟨g, cp, e, hbg, hgl, _, _⟩ := own_pos Ho2.out (by omega)
  cases e
  have hfr := own_frozen Ho2.out (by omega)
  obtain ⟨k0, k1, k2, k3⟩ := own_cells4 Ho2.out hx
  have HL := Lib.hid L2
  have Hx := Lib.hid hx
  have Hp := Lib.hid hp
  clear hx hp L2
  go_wp2_with fail
  go_ret2
  have hlen : (l.map fun y => if y.pos = b.pos then b else y).length = l.length := by simp
  have hbw : w.heap.size ≤ g := by have := Hz.out; omega
  refine ⟨_, rfl, ?_, (((HL.out.below.setCell hbw _).setCell hbw _).setCell hbw _).setCell hbw _⟩
  rw [hlen, mapPut_at HR.out Hx.out Hp.out, ← flatB_set hlt b]
  have hj : posB l b.pos * 4 + 4 ≤ l.length * 4 := by omega
  exact own_lo (ownB_setCell (ownB_setCell (ownB_setCell (ownB_setCell Ho2.out (by omega)) (by omega)) (by omega)) (by omega)) (by have := Hz.out; omega)

set_option maxRecDepth 100000 in
set_option maxHeartbeats 1000000 in
/-- There is room. -/
theorem put_room (S : Nat → Prop) (l : List Bf) (v : Value) (b : Bf) (F : Value) (w : World) (h : BufsAt S w v l) (hr : Rises l) (hi : isB l b.pos = false) (hn : l.length < 8) :
    Calls Try.prog 60 #[v, bfV b, F] w (RetPut (insB l b) w) := by
  obtain ⟨A, cap, rfl, h1, h2⟩ := h.form
  unfold maxLen at h2
  have H := Lib.hid h
  have HR := Lib.hid hr
  have Hi := Lib.hid hi
  clear h hr hi
  go_enter Try.func60, Try.ntmps60
  go_wp2_with fail
  have L := (Lay.refl w).alloc' w.heap.size #[.int .i64 b.pos, .string b.data, .bool b.dirty, .int .i64 b.used] 92 rfl
  have hz : (w.alloc (.cells #[.int .i64 b.pos, .string b.data, .bool b.dirty, .int .i64 b.used] 92)).heap.size = w.heap.size + 1 := by simp
  generalize World.alloc _ _ = W at L hz ⊢
  have Hz := Lib.hid hz
  clear hz
  refine (bclone_any S _ l.length (flatB l) _ (H.out.below L.below).1 (flatB_one l) (by omega)).mono ?_
  rintro e w1 ⟨v1, rfl, hown, hb1⟩
  have Hown := Lib.hid hown
  have L1 := L.step hb1
  obtain ⟨A1, cp1, rfl, hc1, hc2⟩ := ownB_slice hown
  clear hown L
  obtain ⟨q0, q1, q2, q3⟩ := L1.c4 0 rfl
  clear hb1
  go_wp2_with fail
  refine (find_any (fun _ => True) l _ b.pos _ (bufs_of_own (fun _ _ => trivial) Hown.out H.out.2) HR.out (by omega)).mono ?_
  rintro e w2 ⟨rfl, hb2⟩
  have Ho2 := Lib.hid (own_below Hown.out hb2)
  have L2 := L1.step hb2
  clear hb2 L1 q0 q1 q2 q3
  obtain ⟨q0, q1, q2, q3⟩ := L2.c4 0 rfl
  rw [Hi.out]
  have hl8 : decide ((8 : Int) ≤ (l.length : Int)) = false := by simp; omega
  have Hl8 : Hid (l.length < 8) := hn
  have HzW : Hid (W.heap.size = w.heap.size + 1) := Hz
  have hb3 := (Below.refl w2.heap.size w2).alloc (Nat.le_refl _) (.cells #[.int .i64 b.pos, .string b.data, .bool b.dirty, .int .i64 b.used] 92)
  have hv3 : (w2.alloc (.cells #[.int .i64 b.pos, .string b.data, .bool b.dirty, .int .i64 b.used] 92)).heap[w2.heap.size]? = some (.cells b.cells.toArray 92 (0, 0)) := heap_alloc_new w2 _
  have hz3 : (w2.alloc (.cells #[.int .i64 b.pos, .string b.data, .bool b.dirty, .int .i64 b.used] 92)).heap.size = w2.heap.size + 1 := by simp
  go_wp2_with fail
  generalize World.alloc _ _ = W3 at hb3 hv3 hz3 ⊢
  have Hb3 := Lib.hid hb3
  have Hz3 := Lib.hid hz3
  clear hz3
  refine (binsert_any W.heap.size _ l.length (posB l b.pos) w2.heap.size (flatB l) b.cells _ (own_below Ho2.out hb3) (flatB_one _) hv3 rfl (cellsB_one b) (fun e => by have := (Ho2.out.lt _ e).2; omega) (posB_le _ _) (by have := Hl8.out; omega) (by have := Hz3.out; have := L2.size; have := HzW.out; omega)).mono ?_
  clear hb3 hv3
  rintro e w4 ⟨v4, rfl, hown4, hg4⟩
  rw [flatB_ins, ← insB_len l b] at hown4
  have Hown4 := Lib.hid hown4
  have Hg4 := Lib.hid hg4
  clear hown4 hg4
  go_wp2_with fail
  go_ret2
  refine ⟨v4, rfl, own_lo Hown4.out (by have := HzW.out; omega), Below.grown (L2.below.trans (Hb3.out.mono L2.size)) Hg4.out (by have := Hz3.out; have := L2.size; omega) (fun k hk => ?_)⟩
  have := (Ho2.out.lt k hk).1
  have := HzW.out
  omega

set_option maxRecDepth 100000 in
set_option maxHeartbeats 1000000 in
/-- There is no room, and none that may go. -/
theorem put_no (S : Nat → Prop) (l : List Bf) (v : Value) (b : Bf) (f : FuncId) (first caps : Array Value) (held : Int → Bool) (w : World) (h : BufsAt S w v l) (hr : Rises l) (hin : InB l) (hh : HeldBy w f first caps held) (hi : isB l b.pos = false) (hn : 8 ≤ l.length) (hm : l.length ≤ 65536) (hv : leastB l false held < 0) :
    Calls Try.prog 60 #[v, bfV b, .func (.func f) first caps] w (Ret (.tuple #[.slice none 0 0, errV 7]) w) := by
  have HI := Lib.hid hin
  have HH := Lib.hid hh
  clear hin hh
  obtain ⟨A, cap, rfl, h1, h2⟩ := h.form
  unfold maxLen at h2
  have H := Lib.hid h
  have HR := Lib.hid hr
  have Hi := Lib.hid hi
  clear h hr hi
  go_enter Try.func60, Try.ntmps60
  go_wp2_with fail
  have L := (Lay.refl w).alloc' w.heap.size #[.int .i64 b.pos, .string b.data, .bool b.dirty, .int .i64 b.used] 92 rfl
  have hz : (w.alloc (.cells #[.int .i64 b.pos, .string b.data, .bool b.dirty, .int .i64 b.used] 92)).heap.size = w.heap.size + 1 := by simp
  generalize World.alloc _ _ = W at L hz ⊢
  have Hz := Lib.hid hz
  clear hz
  refine (bclone_any S _ l.length (flatB l) _ (H.out.below L.below).1 (flatB_one l) (by omega)).mono ?_
  rintro e w1 ⟨v1, rfl, hown, hb1⟩
  have Hown := Lib.hid hown
  have L1 := L.step hb1
  obtain ⟨A1, cp1, rfl, hc1, hc2⟩ := ownB_slice hown
  clear hown L
  obtain ⟨q0, q1, q2, q3⟩ := L1.c4 0 rfl
  clear hb1
  go_wp2_with fail
  refine (find_any (fun _ => True) l _ b.pos _ (bufs_of_own (fun _ _ => trivial) Hown.out H.out.2) HR.out (by omega)).mono ?_
  rintro e w2 ⟨rfl, hb2⟩
  have Ho2 := Lib.hid (own_below Hown.out hb2)
  have L2 := L1.step hb2
  clear hb2 L1 q0 q1 q2 q3
  obtain ⟨q0, q1, q2, q3⟩ := L2.c4 0 rfl
  rw [Hi.out]
  have hl8 : (8 : Int) ≤ (l.length : Int) := by omega
  go_wp2_with fail
  refine (victim_any (fun _ => True) l _ f first caps held _ (bufs_of_own (fun _ _ => trivial) Ho2.out H.out.2) HI.out (HH.out.step L2.below) hm).mono ?_
  rintro e w3 ⟨rfl, hb3⟩
  have Ho3 := Lib.hid (own_below Ho2.out hb3)
  have L3 := L2.step hb3
  clear hb3 q0 q1 q2 q3
  have hm1 : leastB l false held = -1 := by have := bestB_range (okB false held) l l.length; rw [leastB_eq] at hv ⊢; omega
  rw [hm1]
  clear hm1 hv L2
  go_wp2_with fail
  go_ret2
  exact ⟨rfl, L3.below⟩

set_option maxRecDepth 100000 in
set_option maxHeartbeats 1000000 in
/-- There is no room: one goes. -/
theorem put_goes (S : Nat → Prop) (l : List Bf) (v : Value) (b : Bf) (f : FuncId) (first caps : Array Value) (held : Int → Bool) (w : World) (h : BufsAt S w v l) (hr : Rises l) (hin : InB l) (hh : HeldBy w f first caps held) (hi : isB l b.pos = false) (hn : 8 ≤ l.length) (hm : l.length ≤ 65536) (hv : ¬ leastB l false held < 0) :
    Calls Try.prog 60 #[v, bfV b, .func (.func f) first caps] w (RetPut (insB (l.eraseIdx (leastB l false held).toNat) b) w) := by
  obtain ⟨j, hj, hjl⟩ : ∃ j : Nat, leastB l false held = (j : Int) ∧ j < l.length := by
    have := bestB_range (okB false held) l l.length
    rw [leastB_eq] at hv ⊢
    exact ⟨(bestB (okB false held) l l.length).toNat, by omega, by omega⟩
  rw [hj, Int.toNat_natCast]
  have Hj := Lib.hid hj
  clear hj hv
  have HI := Lib.hid hin
  have HH := Lib.hid hh
  clear hin hh
  obtain ⟨A, cap, rfl, h1, h2⟩ := h.form
  unfold maxLen at h2
  have H := Lib.hid h
  have HR := Lib.hid hr
  have Hi := Lib.hid hi
  clear h hr hi
  go_enter Try.func60, Try.ntmps60
  go_wp2_with fail
  have L := (Lay.refl w).alloc' w.heap.size #[.int .i64 b.pos, .string b.data, .bool b.dirty, .int .i64 b.used] 92 rfl
  have hz : (w.alloc (.cells #[.int .i64 b.pos, .string b.data, .bool b.dirty, .int .i64 b.used] 92)).heap.size = w.heap.size + 1 := by simp
  generalize World.alloc _ _ = W at L hz ⊢
  have Hz := Lib.hid hz
  clear hz
  refine (bclone_any S _ l.length (flatB l) _ (H.out.below L.below).1 (flatB_one l) (by omega)).mono ?_
  rintro e w1 ⟨v1, rfl, hown, hb1⟩
  have Hown := Lib.hid hown
  have L1 := L.step hb1
  obtain ⟨A1, cp1, rfl, hc1, hc2⟩ := ownB_slice hown
  clear hown L
  obtain ⟨q0, q1, q2, q3⟩ := L1.c4 0 rfl
  clear hb1
  go_wp2_with fail
  refine (find_any (fun _ => True) l _ b.pos _ (bufs_of_own (fun _ _ => trivial) Hown.out H.out.2) HR.out (by omega)).mono ?_
  rintro e w2 ⟨rfl, hb2⟩
  have Ho2 := Lib.hid (own_below Hown.out hb2)
  have L2 := L1.step hb2
  clear hb2 L1 q0 q1 q2 q3
  obtain ⟨q0, q1, q2, q3⟩ := L2.c4 0 rfl
  rw [Hi.out]
  have hl8 : (8 : Int) ≤ (l.length : Int) := by omega
  go_wp2_with fail
  refine (victim_any (fun _ => True) l _ f first caps held _ (bufs_of_own (fun _ _ => trivial) Ho2.out H.out.2) HI.out (HH.out.step L2.below) hm).mono ?_
  rintro e w3 ⟨rfl, hb3⟩
  have Ho3 := Lib.hid (own_below Ho2.out hb3)
  have L3 := L2.step hb3
  clear hb3 q0 q1 q2 q3
  rw [Hj.out]
  obtain ⟨g, cp, e, hbg, hgl, hnc, _⟩ := own_pos Ho3.out (by omega)
  cases e
  have hj0 : decide ((j : Int) < 0) = false := by simp
  have hj1 : IntKind.i64.wrap ((j : Int) + 1) = (j : Int) + 1 := by rw [IntKind.wrap_i64]; omega
  have Hl' : (l.eraseIdx j).length = l.length - 1 := List.length_eraseIdx_of_lt hjl
  clear L2
  obtain ⟨q0, q1, q2, q3⟩ := L3.c4 0 rfl
  go_wp2_with fail
  refine (bdelete_any W.heap.size g l.length cp1 j (flatB l) _ Ho3.out (flatB_one l) hjl hm).mono ?_
  rintro e w4 ⟨v4, rfl, hown4, hg4⟩
  rw [flatB_erase, ← Hl'] at hown4
  have Hown4 := Lib.hid hown4
  have HgW : Hid (w.heap.size < g) := show _ < _ by have := Hz.out; omega
  have L4 : Lay w w4 [(w.heap.size, 92, #[.int .i64 b.pos, .string b.data, .bool b.dirty, .int .i64 b.used])] :=
    L3.chg (F := fun k => k = g) ((Chg.refl).grown hg4 (fun k hk => by cases hk; exact .inl rfl)) (fun k hk => by subst hk; have := HgW.out; omega) (fun x hx => by simp at hx; subst hx; exact fun h => by have := HgW.out; simp only at h; omega)
  have Hl'' := Lib.hid Hl'
  clear hown4 hg4 q0 q1 q2 q3 Hl'
  obtain ⟨q0, q1, q2, q3⟩ := L4.c4 0 rfl
  obtain ⟨l', hl'⟩ : ∃ l', l.eraseIdx j = l' := ⟨_, rfl⟩
  have HR' := Lib.hid (erase_rises HR.out j)
  have Hok' : Hid (∀ x ∈ l.eraseIdx j, BfOk x) := fun x hx => H.out.2 x (List.mem_of_mem_eraseIdx hx)
  have Hi' := Lib.hid (erase_no Hi.out j)
  rw [hl'] at Hown4 HR' Hok' Hi' Hl'' ⊢
  have Hl0 := Lib.hid hl'
  clear hl'
  obtain ⟨A4, cp4, rfl, hc41, hc42⟩ := ownB_slice Hown4.out
  go_wp2_with fail
  refine (find_any (fun _ => True) l' _ b.pos _ (bufs_of_own (fun _ _ => trivial) Hown4.out Hok'.out) HR'.out (by have := Hl''.out; omega)).mono ?_
  rintro e w5 ⟨rfl, hb5⟩
  have Ho5 := Lib.hid (own_below Hown4.out hb5)
  have L5 := L4.step hb5
  clear hb5 L4 q0 q1 q2 q3
  obtain ⟨q0, q1, q2, q3⟩ := L5.c4 0 rfl
  have Hl8 : Hid (l'.length ≤ 65536) := show _ ≤ _ by have := Hl''.out; omega
  have HzW : Hid (W.heap.size = w.heap.size + 1) := Hz
  have hb3 := (Below.refl w5.heap.size w5).alloc (Nat.le_refl _) (.cells #[.int .i64 b.pos, .string b.data, .bool b.dirty, .int .i64 b.used] 92)
  have hv3 : (w5.alloc (.cells #[.int .i64 b.pos, .string b.data, .bool b.dirty, .int .i64 b.used] 92)).heap[w5.heap.size]? = some (.cells b.cells.toArray 92 (0, 0)) := heap_alloc_new w5 _
  have hz3 : (w5.alloc (.cells #[.int .i64 b.pos, .string b.data, .bool b.dirty, .int .i64 b.used] 92)).heap.size = w5.heap.size + 1 := by simp
  go_wp2_with fail
  generalize World.alloc _ _ = W3 at hb3 hv3 hz3 ⊢
  have Hb3 := Lib.hid hb3
  have Hz3 := Lib.hid hz3
  clear hz3
  refine (binsert_any W.heap.size _ l'.length (posB l' b.pos) w5.heap.size (flatB l') b.cells _ (own_below Ho5.out hb3) (flatB_one _) hv3 rfl (cellsB_one b) (fun e => by have := (Ho5.out.lt _ e).2; omega) (posB_le _ _) (by have := Hl8.out; omega) (by have := Hz3.out; have := L5.size; have := HzW.out; omega)).mono ?_
  clear hb3 hv3
  rintro e w6 ⟨v6, rfl, hown6, hg6⟩
  rw [flatB_ins, ← insB_len l' b] at hown6
  have Hown6 := Lib.hid hown6
  have Hg6 := Lib.hid hg6
  clear hown6 hg6
  go_wp2_with fail
  go_ret2
  refine ⟨v6, rfl, (by rw [Hl0.out]; exact own_lo (B := W.heap.size) Hown6.out (by have := HzW.out; omega)), Below.grown (L5.below.trans (Hb3.out.mono L5.size)) Hg6.out (by have := Hz3.out; have := L5.size; omega) (fun k hk => ?_)⟩
  have := (Ho5.out.lt k hk).1
  have := HzW.out
  omega
/-- Put, whatever there is. -/
theorem put_some (S : Nat → Prop) (l m : List Bf) (v : Value) (b : Bf) (f : FuncId) (first caps : Array Value) (held : Int → Bool) (w : World) (h : BufsAt S w v l) (hr : Rises l) (hin : InB l) (hh : HeldBy w f first caps held) (hn : l.length ≤ 65536) (hp : putB l b held = some m) :
    Calls Try.prog 60 #[v, bfV b, .func (.func f) first caps] w (RetPut m w) := by
  unfold putB at hp
  cases hi : isB l b.pos with
  | true =>
    rw [hi, if_pos rfl] at hp
    cases hp
    exact put_there S l v b _ w h hr hi hn
  | false =>
    rw [hi, if_neg (by simp)] at hp
    by_cases h8 : 8 ≤ l.length
    · rw [if_pos h8] at hp
      by_cases hv : leastB l false held < 0
      · rw [if_pos hv] at hp; cases hp
      · rw [if_neg hv] at hp
        cases hp
        exact put_goes S l v b f first caps held w h hr hin hh hi h8 hn hv
    · rw [if_neg h8] at hp
      cases hp
      exact put_room S l v b _ w h hr hi (by omega)
theorem put_none (S : Nat → Prop) (l : List Bf) (v : Value) (b : Bf) (f : FuncId) (first caps : Array Value) (held : Int → Bool) (w : World) (h : BufsAt S w v l) (hr : Rises l) (hin : InB l) (hh : HeldBy w f first caps held) (hn : l.length ≤ 65536) (hp : putB l b held = none) :
    Calls Try.prog 60 #[v, bfV b, .func (.func f) first caps] w (Ret (.tuple #[.slice none 0 0, errV 7]) w) := by
  unfold putB at hp
  cases hi : isB l b.pos with
  | true => rw [hi, if_pos rfl] at hp; cases hp
  | false =>
    rw [hi, if_neg (by simp)] at hp
    by_cases h8 : 8 ≤ l.length
    · rw [if_pos h8] at hp
      by_cases hv : leastB l false held < 0
      · exact put_no S l v b f first caps held w h hr hin hh hi h8 hn hv
      · rw [if_neg hv] at hp; cases hp
    · rw [if_neg h8] at hp; cases hp
end Go.Proofs.Ytojmnfelecnenaa
namespace Go.Proofs.Ytojmnfelecnenaa
set_option linter.unusedSimpArgs false
set_option linter.unusedVariables false
open Go.RowKit Go.Sort

theorem write_some {s : St} {c : Nat} {a : Ak} {m : List Bf} (hd : s.dead = false) (hf : (!St.still s.bufs a.pos && decide (6 ≤ dirtyB s.bufs)) = false) (hp : putB s.bufs ⟨a.pos, a.data, true, s.use + 1⟩ s.heldP = some m) :
    s.write c a = ({ s with use := s.use + 1, bufs := m } : St).answer c noB 0 := by
  unfold St.write
  rw [if_neg (by rw [hd]; decide), if_neg (by rw [hf]; decide), hp]
theorem write_none {s : St} {c : Nat} {a : Ak} (hd : s.dead = false) (hf : (!St.still s.bufs a.pos && decide (6 ≤ dirtyB s.bufs)) = false) (hp : putB s.bufs ⟨a.pos, a.data, true, s.use + 1⟩ s.heldP = none) :
    s.write c a = { s with use := s.use + 1 } := by
  unfold St.write
  rw [if_neg (by rw [hd]; decide), if_neg (by rw [hf]; decide), hp]
theorem write_full {s : St} {c : Nat} {a : Ak} (hd : s.dead = false) (hf : (!St.still s.bufs a.pos && decide (6 ≤ dirtyB s.bufs)) = true) : s.write c a = s := by
  unfold St.write
  rw [if_neg (by rw [hd]; decide), if_pos hf]
set_option maxRecDepth 100000 in
set_option maxHeartbeats 8000000 in
theorem write_any (col : Nat → Nat) (w : World) (b bd N c : Nat) (x : Sv) (s : St) (a : Ak) (ba : Nat) (h : StAt Ts col w b bd N x s) (hI : Inv s) (hu : s.use ≤ 900000000 ∧ s.tag ≤ 900000000) (hc : c < 3) (ha : s.askAt c = some a) (hv : x.av c = .pointer (some ⟨ba, 0, none⟩)) :
    Calls Try.prog 64 #[.pointer (some ⟨b, 0, none⟩), .int .i64 (c : Int), .pointer (some ⟨ba, 0, none⟩)] w (Ret2 Ts col w b bd N x (s.write c a) (.tuple #[])) := by
  obtain ⟨lv, hrow, hfa, _⟩ := h.askc hc ha hv
  have Hne := Lib.hid (h.ask_ne hfa)
  have Hbl := Lib.hid h.bl
  have Hs0 := Lib.hid h.s0
  clear hfa
  have H := Lib.hid h
  have HI := Lib.hid hI
  have Ha := Lib.hid (hI.ask c a ha)
  have c20 : w.cell? ⟨b, 20, none⟩ = some (.bool s.dead) := h.cell 20
  have c2 : w.cell? ⟨b, 2, none⟩ = some x.bufs := h.cell 2
  have p1 : w.cell? ⟨ba, 1, none⟩ = some (.int .i64 a.pos) := cell_of_row _ _ 1 _ _ _ hrow
  have Hrow := Lib.hid hrow
  have Hub := Lib.hid hu
  clear h hI ha hrow hv hu
  have hz := zero_buf
  go_enter Try.func64, Try.ntmps64
  cases hdd : s.dead with
  | true =>
    have Hsr : Hid (s.write c a = s.answer c noB 9) := show _ = _ by unfold St.write; rw [hdd, if_pos rfl]
    rw [hdd] at c20
    clear hdd
    go_wp2_with fail
    refine (answer_any col w b bd N _ _ c noB 9 H.out hc).mono ?_
    rintro e w4 ⟨rfl, hS4, hst4⟩
    have HS4 := Lib.hid hS4
    have Hst4 := Lib.hid hst4
    clear hS4 hst4
    go_wp2_with fail
    go_end0
    rw [Hsr.out]
    exact ⟨_, rfl, Hst4.out, HS4.out.chg (F := fun k => k = b) rfl, Avs.ans .refl H.out.asks hc⟩
  | false =>
    rw [hdd] at c20
    have Hdd := Lib.hid hdd
    clear hdd
    go_wp2_with fail
    obtain ⟨FB, hFB⟩ : ∃ F : Array Value, F = #[.int .i64 (getB s.bufs a.pos).1.pos, .string (getB s.bufs a.pos).1.data, .bool (getB s.bufs a.pos).1.dirty, .int .i64 (getB s.bufs a.pos).1.used] := ⟨_, rfl⟩
    refine wp_region_ev mixed [(18, fun v _ => v = (.pointer (some ⟨b, 0, none⟩))), (19, fun v _ => v = (.pointer (some ⟨b, 0, none⟩))), (20, fun v _ => v = (.pointer (some ⟨b, 2, none⟩))), (21, fun v _ => v = x.bufs), (22, fun v _ => v = (.pointer (some ⟨ba, 0, none⟩))), (23, fun v _ => v = (.pointer (some ⟨ba, 0, none⟩))), (24, fun v _ => v = (.pointer (some ⟨ba, 1, none⟩))), (25, fun v _ => v = (.int .i64 a.pos)), (26, fun v _ => v = (.tuple #[.agg #[.int .i64 (getB s.bufs a.pos).1.pos, .string (getB s.bufs a.pos).1.data, .bool (getB s.bufs a.pos).1.dirty, .int .i64 (getB s.bufs a.pos).1.used], .bool (getB s.bufs a.pos).2])), (17, fun v _ => v = (.tuple #[.agg #[.int .i64 (getB s.bufs a.pos).1.pos, .string (getB s.bufs a.pos).1.data, .bool (getB s.bufs a.pos).1.dirty, .int .i64 (getB s.bufs a.pos).1.used], .bool (getB s.bufs a.pos).2])), (27, fun v _ => v = (.agg #[.int .i64 (getB s.bufs a.pos).1.pos, .string (getB s.bufs a.pos).1.data, .bool (getB s.bufs a.pos).1.dirty, .int .i64 (getB s.bufs a.pos).1.used])), (28, fun v _ => v = (.bool (getB s.bufs a.pos).2)), (6, BxF 92 FB w.heap.size), (7, fun v _ => v = (.bool (getB s.bufs a.pos).2))] (fun u => Below w.heap.size w u) (BR 92 FB w.heap.size) (BxE 92 FB 13) (by kernel_rfl) rfl (by decide) (Below.refl _ _).drew ?st (fun k vs u u' h hr => h.step hr) ?steps ?fin
    case st => exact ⟨fun v u u' h _ => h, fun v u u' h _ => h, fun v u u' h _ => h, fun v u u' h _ => h, fun v u u' h _ => h, fun v u u' h _ => h, fun v u u' h _ => h, fun v u u' h _ => h, fun v u u' h _ => h, fun v u u' h _ => h, fun v u u' h _ => h, fun v u u' h _ => h, fun v u u' h hr => h.step hr, fun v u u' h _ => h, trivial⟩
    case steps =>
      refine ⟨?_, ?_, ?_, ?_, ?_, ?_, ?_, ?_, ?_, ?_, ?_, ?_, ?_, ?_, ?_, trivial⟩
      · intro ρ u hp hJ hr
        have r1 : ρ (.tmp 0) = (.pointer (some ⟨b, 0, none⟩)) := hr.1
        clear hr
        refine gives_value (v := (.pointer (some ⟨b, 0, none⟩))) (w' := u) ?_ ⟨rfl, hJ, BR.refl _, fun h => absurd h (by decide)⟩
        go_simp
      · intro ρ u hp hJ hr
        have r1 : ρ (.tmp 18) = (.pointer (some ⟨b, 0, none⟩)) := hr.1
        clear hr
        refine gives_value (v := (.pointer (some ⟨b, 0, none⟩))) (w' := u) ?_ ⟨rfl, hJ, BR.refl _, fun h => absurd h (by decide)⟩
        go_simp
      · intro ρ u hp hJ hr
        have r1 : ρ (.tmp 19) = (.pointer (some ⟨b, 0, none⟩)) := hr.1
        clear hr
        refine gives_value (v := (.pointer (some ⟨b, 2, none⟩))) (w' := u) ?_ ⟨rfl, hJ, BR.refl _, fun h => absurd h (by decide)⟩
        go_simp
      · intro ρ u hp hJ hr
        have r1 : ρ (.tmp 20) = (.pointer (some ⟨b, 2, none⟩)) := hr.1
        clear hr
        have c2 := cell_b hJ c2
        refine gives_value (v := x.bufs) (w' := u) ?_ ⟨rfl, hJ, BR.refl _, fun h => absurd h (by decide)⟩
        go_simp
      · intro ρ u hp hJ hr
        have r1 : ρ (.tmp 2) = (.pointer (some ⟨ba, 0, none⟩)) := hr.1
        clear hr
        refine gives_value (v := (.pointer (some ⟨ba, 0, none⟩))) (w' := u) ?_ ⟨rfl, hJ, BR.refl _, fun h => absurd h (by decide)⟩
        go_simp
      · intro ρ u hp hJ hr
        have r1 : ρ (.tmp 22) = (.pointer (some ⟨ba, 0, none⟩)) := hr.1
        clear hr
        refine gives_value (v := (.pointer (some ⟨ba, 0, none⟩))) (w' := u) ?_ ⟨rfl, hJ, BR.refl _, fun h => absurd h (by decide)⟩
        go_simp
      · intro ρ u hp hJ hr
        have r1 : ρ (.tmp 23) = (.pointer (some ⟨ba, 0, none⟩)) := hr.1
        clear hr
        refine gives_value (v := (.pointer (some ⟨ba, 1, none⟩))) (w' := u) ?_ ⟨rfl, hJ, BR.refl _, fun h => absurd h (by decide)⟩
        go_simp
      · intro ρ u hp hJ hr
        have r1 : ρ (.tmp 24) = (.pointer (some ⟨ba, 1, none⟩)) := hr.1
        clear hr
        have p1 := cell_b hJ p1
        refine gives_value (v := (.int .i64 a.pos)) (w' := u) ?_ ⟨rfl, hJ, BR.refl _, fun h => absurd h (by decide)⟩
        go_simp
      · intro ρ u hp hJ hr
        have r1 : ρ (.tmp 21) = x.bufs := hr.1
        have r2 : ρ (.tmp 25) = (.int .i64 a.pos) := hr.2.1
        clear hr
        refine gives_enter (f := 51) (args := #[x.bufs, .int .i64 a.pos]) (w' := u) ?_ ((get_st H.out HI.out a.pos u hJ).mono ?_)
        · have hpf := hp.func 51
          go_simp
        rintro e u' ⟨rfl, hb⟩
        exact ⟨_, rfl, rfl, hJ.trans (hb.mono hJ.size), BR.below hb, fun h => absurd h (by decide)⟩
      · intro ρ u hp hJ hr
        have r1 : ρ (.tmp 26) = (.tuple #[.agg #[.int .i64 (getB s.bufs a.pos).1.pos, .string (getB s.bufs a.pos).1.data, .bool (getB s.bufs a.pos).1.dirty, .int .i64 (getB s.bufs a.pos).1.used], .bool (getB s.bufs a.pos).2]) := hr.1
        clear hr
        refine gives_value (v := (.tuple #[.agg #[.int .i64 (getB s.bufs a.pos).1.pos, .string (getB s.bufs a.pos).1.data, .bool (getB s.bufs a.pos).1.dirty, .int .i64 (getB s.bufs a.pos).1.used], .bool (getB s.bufs a.pos).2])) (w' := u) ?_ ⟨rfl, hJ, BR.refl _, fun h => absurd h (by decide)⟩
        go_simp
      · intro ρ u hp hJ hr
        have r1 : ρ (.tmp 17) = (.tuple #[.agg #[.int .i64 (getB s.bufs a.pos).1.pos, .string (getB s.bufs a.pos).1.data, .bool (getB s.bufs a.pos).1.dirty, .int .i64 (getB s.bufs a.pos).1.used], .bool (getB s.bufs a.pos).2]) := hr.1
        clear hr
        refine gives_value (v := (.agg #[.int .i64 (getB s.bufs a.pos).1.pos, .string (getB s.bufs a.pos).1.data, .bool (getB s.bufs a.pos).1.dirty, .int .i64 (getB s.bufs a.pos).1.used])) (w' := u) ?_ ⟨rfl, hJ, BR.refl _, fun h => absurd h (by decide)⟩
        go_simp
      · intro ρ u hp hJ hr
        have r1 : ρ (.tmp 17) = (.tuple #[.agg #[.int .i64 (getB s.bufs a.pos).1.pos, .string (getB s.bufs a.pos).1.data, .bool (getB s.bufs a.pos).1.dirty, .int .i64 (getB s.bufs a.pos).1.used], .bool (getB s.bufs a.pos).2]) := hr.1
        clear hr
        refine gives_value (v := (.bool (getB s.bufs a.pos).2)) (w' := u) ?_ ⟨rfl, hJ, BR.refl _, fun h => absurd h (by decide)⟩
        go_simp
      · intro ρ u hp hJ hr
        clear hr
        refine gives_value (v := .pointer (some ⟨u.heap.size, 0, none⟩)) (w' := u.alloc (.cells #[.int .i64 0, .string ⟨#[]⟩, .bool false, .int .i64 0] 92)) ?_ ⟨⟨_, rfl, hJ.size, ⟨_, by rw [hFB]; rfl, heap_alloc_new _ _⟩⟩, hJ.trans (((Below.refl _ _).alloc (Nat.le_refl _) _).mono hJ.size), BR.below ((Below.refl _ _).alloc (Nat.le_refl _) _), fun h => absurd h (by decide)⟩
        go_simp
      · intro ρ u hp hJ hr
        have r1 : BxF 92 FB w.heap.size (ρ (.tmp 6)) u := hr.1
        have r2 : ρ (.tmp 27) = (.agg #[.int .i64 (getB s.bufs a.pos).1.pos, .string (getB s.bufs a.pos).1.data, .bool (getB s.bufs a.pos).1.dirty, .int .i64 (getB s.bufs a.pos).1.used]) := hr.2.1
        clear hr
        obtain ⟨bb, e1, hbb, hbx⟩ := r1
        rw [show FB.size = 4 by rw [hFB]; rfl] at hbx
        obtain ⟨g1, g2, g3⟩ := bx_put4 (v0 := .int .i64 (getB s.bufs a.pos).1.pos) (v1 := .string (getB s.bufs a.pos).1.data) (v2 := .bool (getB s.bufs a.pos).1.dirty) (v3 := .int .i64 (getB s.bufs a.pos).1.used) hbb hbx _ rfl
        rw [← hFB] at g1 g2
        refine gives_skip (w' := _) ?_ ⟨trivial, hJ.trans g3, g1, BxE.at e1 rfl g2⟩
        obtain ⟨z0, z1, z2, z3, hz⟩ := bx4 hbx
        have z0 : u.cell? ⟨bb, 0, none⟩ = some _ := cell_of_row _ _ 0 _ _ _ hz
        have z1 : u.cell? ⟨bb, 1, none⟩ = some _ := cell_of_row _ _ 1 _ _ _ hz
        have z2 : u.cell? ⟨bb, 2, none⟩ = some _ := cell_of_row _ _ 2 _ _ _ hz
        have z3 : u.cell? ⟨bb, 3, none⟩ = some _ := cell_of_row _ _ 3 _ _ _ hz
        have f0 : ∀ j, u.frozen? ⟨bb, j, none⟩ = false := fun j => frozen_of_row _ _ j _ _ hz
        clear g1 g2 g3 hz hbx
        go_simp
      · intro ρ u hp hJ hr
        have r1 : ρ (.tmp 28) = (.bool (getB s.bufs a.pos).2) := hr.1
        clear hr
        refine gives_value (v := (.bool (getB s.bufs a.pos).2)) (w' := u) ?_ ⟨rfl, hJ, BR.refl _, fun h => absurd h (by decide)⟩
        go_simp
    intro f u hF hJ hU hE
    have f6 : BxF 92 FB w.heap.size (f 6) u := hF.2.2.2.2.2.2.2.2.2.2.2.2.1
    have f7 : f 7 = (.bool (getB s.bufs a.pos).2) := hF.2.2.2.2.2.2.2.2.2.2.2.2.2.1
    obtain ⟨bb, e6, hbb, hbz⟩ := f6
    have hbx : u.heap[bb]? = some (.cells FB 92 (0, 0)) := hE 13 _ rfl rfl bb (by rw [argsOf_store rfl, e6]; rfl)
    clear hF hU hE c2 p1
    rw [hFB] at hbx
    clear hbz hFB FB
    have HJ := Lib.hid hJ
    have Hbx := Lib.hid hbx
    have Hbb := Lib.hid hbb
    clear hJ hbx hbb
    simp only [laid]
    have H1 := Lib.hid (H.out.below HJ.out)
    have Hr1 : Hid (u.heap[ba]? = _) := show _ = _ from (HJ.out.block _ (Array.getElem?_eq_some_iff.1 Hrow.out).1).trans Hrow.out
    have Hln : Hid (s.bufs.length ≤ 65536) := show _ ≤ _ by have := HI.out.len8; omega
    have Hus : Hid (0 ≤ s.use ∧ s.use ≤ 1000000000) := show _ ∧ _ from ⟨HI.out.use0, by have := Hub.out; omega⟩
    have Hin : Hid (InB s.bufs) := HI.out.inb
    clear c20
    have z2 : u.cell? ⟨bb, 2, none⟩ = some (.bool (getB s.bufs a.pos).1.dirty) := cell_of_row _ _ 2 _ _ _ Hbx.out
    have Hz2 := Lib.hid z2
    have Hst : Hid (St.still s.bufs a.pos = ((getB s.bufs a.pos).2 && (getB s.bufs a.pos).1.dirty)) := show _ = _ from rfl
    cases hg : (getB s.bufs a.pos).2 with
    | true =>
      rw [hg] at f7
      cases hd : (getB s.bufs a.pos).1.dirty with
      | true =>
        rw [hd] at z2
        have Hst0 : Hid (St.still s.bufs a.pos = true) := show _ = _ by rw [Hst.out, hg, hd]; rfl
        have Hdl : Hid ((∃ e, atB s.bufs a.pos = some (e, true)) ∨ dirtyB s.bufs < 6) := show _ ∨ _ from .inl (HI.out.still_at.1 Hst0.out)
        have Hwr2 : Hid ((!St.still s.bufs a.pos && decide (6 ≤ dirtyB s.bufs)) = false) := show _ = _ by rw [Hst0.out]; rfl
        clear hg hd
        go_wp2_with fail
        have H5d := Lib.hid ((H1.out).below (Below.refl _ _).drew)
        have Hr5 : Hid (u.heap[ba]? = _) := show _ = _ from Hr1.out
        have HB5 : Hid (Below w.heap.size w u) := show Below _ _ _ from HJ.out
        have K0 : u.drew.cell? ⟨b, 2, none⟩ = some x.bufs ∧ u.drew.cell? ⟨ba, 1, none⟩ = some (.int .i64 a.pos) ∧ u.drew.cell? ⟨ba, 2, none⟩ = some (.string a.data) := ⟨H5d.out.cell 2, cell_of_row _ _ 1 _ _ _ Hr5.out, cell_of_row _ _ 2 _ _ _ Hr5.out⟩
        cases hp : putB s.bufs ⟨a.pos, a.data, true, s.use + 1⟩ s.heldP with
        | some m =>
          have Hwr3 := Lib.hid (write_some (c := c) Hdd.out Hwr2.out hp)
          have Hp := Lib.hid hp
          clear hp
          go_region_held3 (fun q => q.cell? ⟨b, 2, none⟩ = some x.bufs ∧ q.cell? ⟨ba, 1, none⟩ = some (.int .i64 a.pos) ∧ q.cell? ⟨ba, 2, none⟩ = some (.string a.data))
            (first | exact K2 | exact K1 | exact K0)
            (first
              | ((with_reducible refine (used_any col u.drew b bd N x s H5d.out Hus.out).mono ?_); rintro e u1 ⟨rfl, hS1, hst1⟩; have K1 : u1.cell? ⟨b, 2, none⟩ = some x.bufs ∧ u1.cell? ⟨ba, 1, none⟩ = some (.int .i64 a.pos) ∧ u1.cell? ⟨ba, 2, none⟩ = some (.string a.data) := ⟨hst1.cell 2, cell_of_row _ _ 1 _ _ _ ((hS1.block ba Hne.out).trans Hr5.out), cell_of_row _ _ 2 _ _ _ ((hS1.block ba Hne.out).trans Hr5.out)⟩; have HS1 := Lib.hid hS1; have Hst1 := Lib.hid hst1; have Hbu : Hid (BufsAt (Im u1 col) u1 x.bufs s.bufs) := hst1.bufs; have Hby : Hid (HeldBy u1 50 #[.pointer (some ⟨b, 0, none⟩)] #[] s.heldP) := (held_by col u1 b bd N x { s with use := s.use + 1 } hst1 (good_oks HI.out.good) HI.out.dv.two); clear hS1 hst1)
              | ((with_reducible refine (put_some (Im u1 col) s.bufs m x.bufs ⟨a.pos, a.data, true, s.use + 1⟩ 50 #[.pointer (some ⟨b, 0, none⟩)] #[] s.heldP u1 Hbu.out HI.out.rises Hin.out Hby.out Hln.out Hp.out).mono ?_); rintro e u2 ⟨v2, rfl, ho2, hb2⟩; have K2 : u2.cell? ⟨b, 2, none⟩ = some x.bufs ∧ u2.cell? ⟨ba, 1, none⟩ = some (.int .i64 a.pos) ∧ u2.cell? ⟨ba, 2, none⟩ = some (.string a.data) := ⟨cell_b hb2 K1.1, cell_b hb2 K1.2.1, cell_b hb2 K1.2.2⟩; obtain ⟨A2, n2, m2, e2, en⟩ := own_slice' ho2; subst e2; subst en; have Ho2 := Lib.hid ho2; have HB2 := Lib.hid hb2; have Hst2 := Lib.hid (Hst1.out.below hb2); have q2 := K2.1; have f2 := Hst2.out.frozen 2; clear ho2 hb2)
              | fail)
          all_goals
            clear K0 K1 K2
            try go_wp2_with fail
            have hS3 := (Same1.refl (b := b) (w := u2)).setCell 2 (.slice A2 m.length m2)
            have hI3 := HI.out.putB Hp.out ⟨Ha.out.lo, Ha.out.hi⟩ (by have := Ha.out.size; simp only; omega) (show s.use ≤ s.use + 1 by omega) (by have := HI.out.use0; simp only; omega) (fun _ => Hdl.out) (.inl rfl)
            have hv3 : BufsAt (S0 col) u2 (.slice A2 m.length m2) m := bufs_of_own (fun k hk => Hst1.out.s0 k hk) Ho2.out (hI3.bok (by show s.use + 1 ≤ _; have := Hub.out; omega))
            have Hst3 := Lib.hid (Hst2.out.bufd hS3 hv3 (heap_setCell_same _ _ 2 _ _ _ Hst2.out.row))
            have HC : Hid (Chg (fun k => k = b) w (u2.setCell ⟨b, 2, none⟩ (.slice A2 m.length m2))) := show Chg _ _ _ from
              ((Chg.of_below (HB5.out.trans (((Below.refl _ _).drew).mono HB5.out.size))).trans ((HS1.out.chg (F := fun k => k = b) rfl).mono (fun k hk => .inl hk))).trans (((Chg.of_below HB2.out).trans ((hS3.chg (F := fun k => k = b) rfl).mono (fun k hk => .inl hk))).mono (fun k hk => .inl hk))
            clear hS3 hv3 hI3 q2 f2
            generalize World.setCell _ _ _ = u3 at HC Hst3 ⊢
            refine (answer_any col u3 b bd N _ _ c noB 0 Hst3.out hc).mono ?_
            rintro e w4 ⟨rfl, hS4, hst4⟩
            have HS4 := Lib.hid hS4
            have Hst4 := Lib.hid hst4
            clear hS4 hst4
            go_wp2_with fail
            go_end0
            rw [Hwr3.out]
            exact ⟨_, rfl, Hst4.out, HC.out.trans ((HS4.out.chg (F := fun k => k = b) rfl).mono (fun k hk => .inl hk)), Avs.ans .bufs Hst3.out.asks hc⟩
        | none =>
          have Hwr3 := Lib.hid (write_none (c := c) Hdd.out Hwr2.out hp)
          have Hp := Lib.hid hp
          clear hp
          go_region_held3 (fun q => q.cell? ⟨b, 2, none⟩ = some x.bufs ∧ q.cell? ⟨ba, 1, none⟩ = some (.int .i64 a.pos) ∧ q.cell? ⟨ba, 2, none⟩ = some (.string a.data))
            (first | exact K2 | exact K1 | exact K0)
            (first
              | ((with_reducible refine (used_any col u.drew b bd N x s H5d.out Hus.out).mono ?_); rintro e u1 ⟨rfl, hS1, hst1⟩; have K1 : u1.cell? ⟨b, 2, none⟩ = some x.bufs ∧ u1.cell? ⟨ba, 1, none⟩ = some (.int .i64 a.pos) ∧ u1.cell? ⟨ba, 2, none⟩ = some (.string a.data) := ⟨hst1.cell 2, cell_of_row _ _ 1 _ _ _ ((hS1.block ba Hne.out).trans Hr5.out), cell_of_row _ _ 2 _ _ _ ((hS1.block ba Hne.out).trans Hr5.out)⟩; have HS1 := Lib.hid hS1; have Hst1 := Lib.hid hst1; have Hbu : Hid (BufsAt (Im u1 col) u1 x.bufs s.bufs) := hst1.bufs; have Hby : Hid (HeldBy u1 50 #[.pointer (some ⟨b, 0, none⟩)] #[] s.heldP) := (held_by col u1 b bd N x { s with use := s.use + 1 } hst1 (good_oks HI.out.good) HI.out.dv.two); clear hS1 hst1)
              | ((with_reducible refine (put_none (Im u1 col) s.bufs x.bufs ⟨a.pos, a.data, true, s.use + 1⟩ 50 #[.pointer (some ⟨b, 0, none⟩)] #[] s.heldP u1 Hbu.out HI.out.rises Hin.out Hby.out Hln.out Hp.out).mono ?_); rintro e u2 ⟨rfl, hb2⟩; have K2 : u2.cell? ⟨b, 2, none⟩ = some x.bufs ∧ u2.cell? ⟨ba, 1, none⟩ = some (.int .i64 a.pos) ∧ u2.cell? ⟨ba, 2, none⟩ = some (.string a.data) := ⟨cell_b hb2 K1.1, cell_b hb2 K1.2.1, cell_b hb2 K1.2.2⟩; have HB2 := Lib.hid hb2; have Hst2 := Lib.hid (Hst1.out.below hb2); clear hb2)
              | fail)
          all_goals
            clear K0 K1 K2
            try go_wp2_with fail
            go_end0
            rw [Hwr3.out]
            exact ⟨_, rfl, Hst2.out, ((Chg.of_below (HB5.out.trans (((Below.refl _ _).drew).mono HB5.out.size))).trans ((HS1.out.chg (F := fun k => k = b) rfl).mono (fun k hk => .inl hk))).trans (Chg.of_below HB2.out), .refl⟩
      | false =>
        rw [hd] at z2
        have Hst0 : Hid (St.still s.bufs a.pos = false) := show _ = _ by rw [Hst.out, hg, hd]; rfl
        clear hg hd
        go_wp2_with fail
        refine (stdirty_any col u b bd N x s H1.out HI.out.len8).mono ?_
        rintro e u' ⟨rfl, hb1⟩
        have HB1 := Lib.hid hb1
        have H2 := Lib.hid (H1.out.below hb1)
        clear hb1
        rcases Nat.lt_or_ge (dirtyB s.bufs) 6 with h6 | h6
        · have hn6 : decide ((6 : Int) ≤ (dirtyB s.bufs : Int)) = false := by rw [decide_eq_false_iff_not]; omega
          have Hdl : Hid ((∃ e, atB s.bufs a.pos = some (e, true)) ∨ dirtyB s.bufs < 6) := show _ ∨ _ from .inr h6
          have Hwr2 : Hid ((!St.still s.bufs a.pos && decide (6 ≤ dirtyB s.bufs)) = false) := show _ = _ by rw [Hst0.out, show decide (6 ≤ dirtyB s.bufs) = false by rw [decide_eq_false_iff_not]; omega]; rfl
          clear h6
          go_wp2_with fail
          have H5d := Lib.hid ((H2.out).below (Below.refl _ _).drew)
          have Hr5 : Hid (u'.heap[ba]? = _) := show _ = _ from (HB1.out.block _ (Array.getElem?_eq_some_iff.1 Hr1.out).1).trans Hr1.out
          have HB5 : Hid (Below w.heap.size w u') := show Below _ _ _ from HJ.out.trans (HB1.out.mono HJ.out.size)
          have K0 : u'.drew.cell? ⟨b, 2, none⟩ = some x.bufs ∧ u'.drew.cell? ⟨ba, 1, none⟩ = some (.int .i64 a.pos) ∧ u'.drew.cell? ⟨ba, 2, none⟩ = some (.string a.data) := ⟨H5d.out.cell 2, cell_of_row _ _ 1 _ _ _ Hr5.out, cell_of_row _ _ 2 _ _ _ Hr5.out⟩
          cases hp : putB s.bufs ⟨a.pos, a.data, true, s.use + 1⟩ s.heldP with
          | some m =>
            have Hwr3 := Lib.hid (write_some (c := c) Hdd.out Hwr2.out hp)
            have Hp := Lib.hid hp
            clear hp
            go_region_held3 (fun q => q.cell? ⟨b, 2, none⟩ = some x.bufs ∧ q.cell? ⟨ba, 1, none⟩ = some (.int .i64 a.pos) ∧ q.cell? ⟨ba, 2, none⟩ = some (.string a.data))
              (first | exact K2 | exact K1 | exact K0)
              (first
                | ((with_reducible refine (used_any col u'.drew b bd N x s H5d.out Hus.out).mono ?_); rintro e u1 ⟨rfl, hS1, hst1⟩; have K1 : u1.cell? ⟨b, 2, none⟩ = some x.bufs ∧ u1.cell? ⟨ba, 1, none⟩ = some (.int .i64 a.pos) ∧ u1.cell? ⟨ba, 2, none⟩ = some (.string a.data) := ⟨hst1.cell 2, cell_of_row _ _ 1 _ _ _ ((hS1.block ba Hne.out).trans Hr5.out), cell_of_row _ _ 2 _ _ _ ((hS1.block ba Hne.out).trans Hr5.out)⟩; have HS1 := Lib.hid hS1; have Hst1 := Lib.hid hst1; have Hbu : Hid (BufsAt (Im u1 col) u1 x.bufs s.bufs) := hst1.bufs; have Hby : Hid (HeldBy u1 50 #[.pointer (some ⟨b, 0, none⟩)] #[] s.heldP) := (held_by col u1 b bd N x { s with use := s.use + 1 } hst1 (good_oks HI.out.good) HI.out.dv.two); clear hS1 hst1)
                | ((with_reducible refine (put_some (Im u1 col) s.bufs m x.bufs ⟨a.pos, a.data, true, s.use + 1⟩ 50 #[.pointer (some ⟨b, 0, none⟩)] #[] s.heldP u1 Hbu.out HI.out.rises Hin.out Hby.out Hln.out Hp.out).mono ?_); rintro e u2 ⟨v2, rfl, ho2, hb2⟩; have K2 : u2.cell? ⟨b, 2, none⟩ = some x.bufs ∧ u2.cell? ⟨ba, 1, none⟩ = some (.int .i64 a.pos) ∧ u2.cell? ⟨ba, 2, none⟩ = some (.string a.data) := ⟨cell_b hb2 K1.1, cell_b hb2 K1.2.1, cell_b hb2 K1.2.2⟩; obtain ⟨A2, n2, m2, e2, en⟩ := own_slice' ho2; subst e2; subst en; have Ho2 := Lib.hid ho2; have HB2 := Lib.hid hb2; have Hst2 := Lib.hid (Hst1.out.below hb2); have q2 := K2.1; have f2 := Hst2.out.frozen 2; clear ho2 hb2)
                | fail)
            all_goals
              clear K0 K1 K2
              try go_wp2_with fail
              have hS3 := (Same1.refl (b := b) (w := u2)).setCell 2 (.slice A2 m.length m2)
              have hI3 := HI.out.putB Hp.out ⟨Ha.out.lo, Ha.out.hi⟩ (by have := Ha.out.size; simp only; omega) (show s.use ≤ s.use + 1 by omega) (by have := HI.out.use0; simp only; omega) (fun _ => Hdl.out) (.inl rfl)
              have hv3 : BufsAt (S0 col) u2 (.slice A2 m.length m2) m := bufs_of_own (fun k hk => Hst1.out.s0 k hk) Ho2.out (hI3.bok (by show s.use + 1 ≤ _; have := Hub.out; omega))
              have Hst3 := Lib.hid (Hst2.out.bufd hS3 hv3 (heap_setCell_same _ _ 2 _ _ _ Hst2.out.row))
              have HC : Hid (Chg (fun k => k = b) w (u2.setCell ⟨b, 2, none⟩ (.slice A2 m.length m2))) := show Chg _ _ _ from
                ((Chg.of_below (HB5.out.trans (((Below.refl _ _).drew).mono HB5.out.size))).trans ((HS1.out.chg (F := fun k => k = b) rfl).mono (fun k hk => .inl hk))).trans (((Chg.of_below HB2.out).trans ((hS3.chg (F := fun k => k = b) rfl).mono (fun k hk => .inl hk))).mono (fun k hk => .inl hk))
              clear hS3 hv3 hI3 q2 f2
              generalize World.setCell _ _ _ = u3 at HC Hst3 ⊢
              refine (answer_any col u3 b bd N _ _ c noB 0 Hst3.out hc).mono ?_
              rintro e w4 ⟨rfl, hS4, hst4⟩
              have HS4 := Lib.hid hS4
              have Hst4 := Lib.hid hst4
              clear hS4 hst4
              go_wp2_with fail
              go_end0
              rw [Hwr3.out]
              exact ⟨_, rfl, Hst4.out, HC.out.trans ((HS4.out.chg (F := fun k => k = b) rfl).mono (fun k hk => .inl hk)), Avs.ans .bufs Hst3.out.asks hc⟩
          | none =>
            have Hwr3 := Lib.hid (write_none (c := c) Hdd.out Hwr2.out hp)
            have Hp := Lib.hid hp
            clear hp
            go_region_held3 (fun q => q.cell? ⟨b, 2, none⟩ = some x.bufs ∧ q.cell? ⟨ba, 1, none⟩ = some (.int .i64 a.pos) ∧ q.cell? ⟨ba, 2, none⟩ = some (.string a.data))
              (first | exact K2 | exact K1 | exact K0)
              (first
                | ((with_reducible refine (used_any col u'.drew b bd N x s H5d.out Hus.out).mono ?_); rintro e u1 ⟨rfl, hS1, hst1⟩; have K1 : u1.cell? ⟨b, 2, none⟩ = some x.bufs ∧ u1.cell? ⟨ba, 1, none⟩ = some (.int .i64 a.pos) ∧ u1.cell? ⟨ba, 2, none⟩ = some (.string a.data) := ⟨hst1.cell 2, cell_of_row _ _ 1 _ _ _ ((hS1.block ba Hne.out).trans Hr5.out), cell_of_row _ _ 2 _ _ _ ((hS1.block ba Hne.out).trans Hr5.out)⟩; have HS1 := Lib.hid hS1; have Hst1 := Lib.hid hst1; have Hbu : Hid (BufsAt (Im u1 col) u1 x.bufs s.bufs) := hst1.bufs; have Hby : Hid (HeldBy u1 50 #[.pointer (some ⟨b, 0, none⟩)] #[] s.heldP) := (held_by col u1 b bd N x { s with use := s.use + 1 } hst1 (good_oks HI.out.good) HI.out.dv.two); clear hS1 hst1)
                | ((with_reducible refine (put_none (Im u1 col) s.bufs x.bufs ⟨a.pos, a.data, true, s.use + 1⟩ 50 #[.pointer (some ⟨b, 0, none⟩)] #[] s.heldP u1 Hbu.out HI.out.rises Hin.out Hby.out Hln.out Hp.out).mono ?_); rintro e u2 ⟨rfl, hb2⟩; have K2 : u2.cell? ⟨b, 2, none⟩ = some x.bufs ∧ u2.cell? ⟨ba, 1, none⟩ = some (.int .i64 a.pos) ∧ u2.cell? ⟨ba, 2, none⟩ = some (.string a.data) := ⟨cell_b hb2 K1.1, cell_b hb2 K1.2.1, cell_b hb2 K1.2.2⟩; have HB2 := Lib.hid hb2; have Hst2 := Lib.hid (Hst1.out.below hb2); clear hb2)
                | fail)
            all_goals
              clear K0 K1 K2
              try go_wp2_with fail
              go_end0
              rw [Hwr3.out]
              exact ⟨_, rfl, Hst2.out, ((Chg.of_below (HB5.out.trans (((Below.refl _ _).drew).mono HB5.out.size))).trans ((HS1.out.chg (F := fun k => k = b) rfl).mono (fun k hk => .inl hk))).trans (Chg.of_below HB2.out), .refl⟩
        · have hn6 : decide ((6 : Int) ≤ (dirtyB s.bufs : Int)) = true := by rw [decide_eq_true_iff]; omega
          have Hwr3 := Lib.hid (write_full (s := s) (c := c) (a := a) Hdd.out (by rw [Hst0.out, show decide (6 ≤ dirtyB s.bufs) = true by rw [decide_eq_true_iff]; omega]; rfl))
          clear h6
          go_wp2_with fail
          go_end0
          rw [Hwr3.out]
          exact ⟨_, rfl, H2.out, Chg.of_below (HJ.out.trans (HB1.out.mono HJ.out.size)), .refl⟩
    | false =>
      rw [hg] at f7
      have Hst0 : Hid (St.still s.bufs a.pos = false) := show _ = _ by rw [Hst.out, hg]; rfl
      clear hg z2
      go_wp2_with fail
      refine (stdirty_any col u b bd N x s H1.out HI.out.len8).mono ?_
      rintro e u' ⟨rfl, hb1⟩
      have HB1 := Lib.hid hb1
      have H2 := Lib.hid (H1.out.below hb1)
      clear hb1
      rcases Nat.lt_or_ge (dirtyB s.bufs) 6 with h6 | h6
      · have hn6 : decide ((6 : Int) ≤ (dirtyB s.bufs : Int)) = false := by rw [decide_eq_false_iff_not]; omega
        have Hdl : Hid ((∃ e, atB s.bufs a.pos = some (e, true)) ∨ dirtyB s.bufs < 6) := show _ ∨ _ from .inr h6
        have Hwr2 : Hid ((!St.still s.bufs a.pos && decide (6 ≤ dirtyB s.bufs)) = false) := show _ = _ by rw [Hst0.out, show decide (6 ≤ dirtyB s.bufs) = false by rw [decide_eq_false_iff_not]; omega]; rfl
        clear h6
        go_wp2_with fail
        have H5d := Lib.hid ((H2.out).below (Below.refl _ _).drew)
        have Hr5 : Hid (u'.heap[ba]? = _) := show _ = _ from (HB1.out.block _ (Array.getElem?_eq_some_iff.1 Hr1.out).1).trans Hr1.out
        have HB5 : Hid (Below w.heap.size w u') := show Below _ _ _ from HJ.out.trans (HB1.out.mono HJ.out.size)
        have K0 : u'.drew.cell? ⟨b, 2, none⟩ = some x.bufs ∧ u'.drew.cell? ⟨ba, 1, none⟩ = some (.int .i64 a.pos) ∧ u'.drew.cell? ⟨ba, 2, none⟩ = some (.string a.data) := ⟨H5d.out.cell 2, cell_of_row _ _ 1 _ _ _ Hr5.out, cell_of_row _ _ 2 _ _ _ Hr5.out⟩
        cases hp : putB s.bufs ⟨a.pos, a.data, true, s.use + 1⟩ s.heldP with
        | some m =>
          have Hwr3 := Lib.hid (write_some (c := c) Hdd.out Hwr2.out hp)
          have Hp := Lib.hid hp
          clear hp
          go_region_held3 (fun q => q.cell? ⟨b, 2, none⟩ = some x.bufs ∧ q.cell? ⟨ba, 1, none⟩ = some (.int .i64 a.pos) ∧ q.cell? ⟨ba, 2, none⟩ = some (.string a.data))
            (first | exact K2 | exact K1 | exact K0)
            (first
              | ((with_reducible refine (used_any col u'.drew b bd N x s H5d.out Hus.out).mono ?_); rintro e u1 ⟨rfl, hS1, hst1⟩; have K1 : u1.cell? ⟨b, 2, none⟩ = some x.bufs ∧ u1.cell? ⟨ba, 1, none⟩ = some (.int .i64 a.pos) ∧ u1.cell? ⟨ba, 2, none⟩ = some (.string a.data) := ⟨hst1.cell 2, cell_of_row _ _ 1 _ _ _ ((hS1.block ba Hne.out).trans Hr5.out), cell_of_row _ _ 2 _ _ _ ((hS1.block ba Hne.out).trans Hr5.out)⟩; have HS1 := Lib.hid hS1; have Hst1 := Lib.hid hst1; have Hbu : Hid (BufsAt (Im u1 col) u1 x.bufs s.bufs) := hst1.bufs; have Hby : Hid (HeldBy u1 50 #[.pointer (some ⟨b, 0, none⟩)] #[] s.heldP) := (held_by col u1 b bd N x { s with use := s.use + 1 } hst1 (good_oks HI.out.good) HI.out.dv.two); clear hS1 hst1)
              | ((with_reducible refine (put_some (Im u1 col) s.bufs m x.bufs ⟨a.pos, a.data, true, s.use + 1⟩ 50 #[.pointer (some ⟨b, 0, none⟩)] #[] s.heldP u1 Hbu.out HI.out.rises Hin.out Hby.out Hln.out Hp.out).mono ?_); rintro e u2 ⟨v2, rfl, ho2, hb2⟩; have K2 : u2.cell? ⟨b, 2, none⟩ = some x.bufs ∧ u2.cell? ⟨ba, 1, none⟩ = some (.int .i64 a.pos) ∧ u2.cell? ⟨ba, 2, none⟩ = some (.string a.data) := ⟨cell_b hb2 K1.1, cell_b hb2 K1.2.1, cell_b hb2 K1.2.2⟩; obtain ⟨A2, n2, m2, e2, en⟩ := own_slice' ho2; subst e2; subst en; have Ho2 := Lib.hid ho2; have HB2 := Lib.hid hb2; have Hst2 := Lib.hid (Hst1.out.below hb2); have q2 := K2.1; have f2 := Hst2.out.frozen 2; clear ho2 hb2)
              | fail)
          all_goals
            clear K0 K1 K2
            try go_wp2_with fail
            have hS3 := (Same1.refl (b := b) (w := u2)).setCell 2 (.slice A2 m.length m2)
            have hI3 := HI.out.putB Hp.out ⟨Ha.out.lo, Ha.out.hi⟩ (by have := Ha.out.size; simp only; omega) (show s.use ≤ s.use + 1 by omega) (by have := HI.out.use0; simp only; omega) (fun _ => Hdl.out) (.inl rfl)
            have hv3 : BufsAt (S0 col) u2 (.slice A2 m.length m2) m := bufs_of_own (fun k hk => Hst1.out.s0 k hk) Ho2.out (hI3.bok (by show s.use + 1 ≤ _; have := Hub.out; omega))
            have Hst3 := Lib.hid (Hst2.out.bufd hS3 hv3 (heap_setCell_same _ _ 2 _ _ _ Hst2.out.row))
            have HC : Hid (Chg (fun k => k = b) w (u2.setCell ⟨b, 2, none⟩ (.slice A2 m.length m2))) := show Chg _ _ _ from
              ((Chg.of_below (HB5.out.trans (((Below.refl _ _).drew).mono HB5.out.size))).trans ((HS1.out.chg (F := fun k => k = b) rfl).mono (fun k hk => .inl hk))).trans (((Chg.of_below HB2.out).trans ((hS3.chg (F := fun k => k = b) rfl).mono (fun k hk => .inl hk))).mono (fun k hk => .inl hk))
            clear hS3 hv3 hI3 q2 f2
            generalize World.setCell _ _ _ = u3 at HC Hst3 ⊢
            refine (answer_any col u3 b bd N _ _ c noB 0 Hst3.out hc).mono ?_
            rintro e w4 ⟨rfl, hS4, hst4⟩
            have HS4 := Lib.hid hS4
            have Hst4 := Lib.hid hst4
            clear hS4 hst4
            go_wp2_with fail
            go_end0
            rw [Hwr3.out]
            exact ⟨_, rfl, Hst4.out, HC.out.trans ((HS4.out.chg (F := fun k => k = b) rfl).mono (fun k hk => .inl hk)), Avs.ans .bufs Hst3.out.asks hc⟩
        | none =>
          have Hwr3 := Lib.hid (write_none (c := c) Hdd.out Hwr2.out hp)
          have Hp := Lib.hid hp
          clear hp
          go_region_held3 (fun q => q.cell? ⟨b, 2, none⟩ = some x.bufs ∧ q.cell? ⟨ba, 1, none⟩ = some (.int .i64 a.pos) ∧ q.cell? ⟨ba, 2, none⟩ = some (.string a.data))
            (first | exact K2 | exact K1 | exact K0)
            (first
              | ((with_reducible refine (used_any col u'.drew b bd N x s H5d.out Hus.out).mono ?_); rintro e u1 ⟨rfl, hS1, hst1⟩; have K1 : u1.cell? ⟨b, 2, none⟩ = some x.bufs ∧ u1.cell? ⟨ba, 1, none⟩ = some (.int .i64 a.pos) ∧ u1.cell? ⟨ba, 2, none⟩ = some (.string a.data) := ⟨hst1.cell 2, cell_of_row _ _ 1 _ _ _ ((hS1.block ba Hne.out).trans Hr5.out), cell_of_row _ _ 2 _ _ _ ((hS1.block ba Hne.out).trans Hr5.out)⟩; have HS1 := Lib.hid hS1; have Hst1 := Lib.hid hst1; have Hbu : Hid (BufsAt (Im u1 col) u1 x.bufs s.bufs) := hst1.bufs; have Hby : Hid (HeldBy u1 50 #[.pointer (some ⟨b, 0, none⟩)] #[] s.heldP) := (held_by col u1 b bd N x { s with use := s.use + 1 } hst1 (good_oks HI.out.good) HI.out.dv.two); clear hS1 hst1)
              | ((with_reducible refine (put_none (Im u1 col) s.bufs x.bufs ⟨a.pos, a.data, true, s.use + 1⟩ 50 #[.pointer (some ⟨b, 0, none⟩)] #[] s.heldP u1 Hbu.out HI.out.rises Hin.out Hby.out Hln.out Hp.out).mono ?_); rintro e u2 ⟨rfl, hb2⟩; have K2 : u2.cell? ⟨b, 2, none⟩ = some x.bufs ∧ u2.cell? ⟨ba, 1, none⟩ = some (.int .i64 a.pos) ∧ u2.cell? ⟨ba, 2, none⟩ = some (.string a.data) := ⟨cell_b hb2 K1.1, cell_b hb2 K1.2.1, cell_b hb2 K1.2.2⟩; have HB2 := Lib.hid hb2; have Hst2 := Lib.hid (Hst1.out.below hb2); clear hb2)
              | fail)
          all_goals
            clear K0 K1 K2
            try go_wp2_with fail
            go_end0
            rw [Hwr3.out]
            exact ⟨_, rfl, Hst2.out, ((Chg.of_below (HB5.out.trans (((Below.refl _ _).drew).mono HB5.out.size))).trans ((HS1.out.chg (F := fun k => k = b) rfl).mono (fun k hk => .inl hk))).trans (Chg.of_below HB2.out), .refl⟩
      · have hn6 : decide ((6 : Int) ≤ (dirtyB s.bufs : Int)) = true := by rw [decide_eq_true_iff]; omega
        have Hwr3 := Lib.hid (write_full (s := s) (c := c) (a := a) Hdd.out (by rw [Hst0.out, show decide (6 ≤ dirtyB s.bufs) = true by rw [decide_eq_true_iff]; omega]; rfl))
        clear h6
        go_wp2_with fail
        go_end0
        rw [Hwr3.out]
        exact ⟨_, rfl, H2.out, Chg.of_below (HJ.out.trans (HB1.out.mono HJ.out.size)), .refl⟩
end Go.Proofs.Ytojmnfelecnenaa
namespace Go.Proofs.Ytojmnfelecnenaa
set_option linter.unusedSimpArgs false
set_option linter.unusedVariables false
open Go.RowKit Go.Sort

set_option maxRecDepth 100000 in
set_option maxHeartbeats 2000000 in
/-- The closure: is that sector no longer dirty? -/
theorem sync1_any (S : Nat → Prop) (w : World) (b B : Nat) (T : TypeId) (vb : Value) (l : List Bf) (p : Int) (h2 : w.cell? ⟨b, 2, none⟩ = some vb) (h : BufsAt S w vb l) (hr : Rises l) (hn : l.length ≤ 65536) (hB : w.heap[B]? = some (.cells #[.pointer (some ⟨b, 0, none⟩)] T (0, 0))) :
    Calls Try.prog 88 #[.int .i64 p, .pointer (some ⟨B, 0, none⟩)] w (Ret (.bool (!St.still l p)) w) := by
  have H := Lib.hid h
  have HR := Lib.hid hr
  have HN := Lib.hid hn
  have k0 : w.cell? ⟨B, 0, none⟩ = some (.pointer (some ⟨b, 0, none⟩)) := cell_of_row _ _ 0 _ _ _ hB
  have hz := zero_buf
  have Hst : Hid (St.still l p = ((getB l p).2 && (getB l p).1.dirty)) := show _ = _ from rfl
  clear h hr hn hB
  go_enter Try.func88, Try.ntmps88
  go_wp2_with fail
  refine (get_any _ _ _ p _ H.out HR.out HN.out).mono ?_
  rintro e u1 ⟨rfl, hb1⟩
  have HB1 := Lib.hid hb1
  clear hb1 h2 k0
  cases hf : (getB l p).2 with
  | true =>
    cases hd : (getB l p).1.dirty with
    | true =>
      have Hv : Hid (St.still l p = true) := show _ = _ by rw [Hst.out, hf, hd]; rfl
      clear hf
      go_wp2_with fail
      go_ret
      rw [Hv.out]
      exact ⟨rfl, HB1.out.alloc HB1.out.size _⟩
    | false =>
      have Hv : Hid (St.still l p = false) := show _ = _ by rw [Hst.out, hf, hd]; rfl
      clear hf
      go_wp2_with fail
      go_ret
      rw [Hv.out]
      exact ⟨rfl, HB1.out.alloc HB1.out.size _⟩
  | false =>
    have Hv : Hid (St.still l p = false) := show _ = _ by rw [Hst.out, hf]; rfl
    go_wp2_with fail
    go_ret
    rw [Hv.out]
    exact ⟨rfl, HB1.out.alloc HB1.out.size _⟩
end Go.Proofs.Ytojmnfelecnenaa
namespace Go.Proofs.Ytojmnfelecnenaa
set_option linter.unusedSimpArgs false
set_option linter.unusedVariables false
open Go.RowKit Go.Sort

/-- No longer dirty. -/
def gone1 (l : List Bf) (p : Int) : Bool := !St.still l p
/-- The first of which g holds. -/
def RetFirst (g : Int → Bool) (l : List Int) (w : World) : Ending → World → Prop := fun e w' => ∃ n : Int, e = .returned (.int .i64 n) ∧ ((n = -1 ∧ l.any g = false) ∨ ∃ (k : Nat) (p : Int), n = k ∧ l[k]? = some p ∧ (l.take k).any g = false ∧ g p = true) ∧ Below w.heap.size w w'
set_option maxRecDepth 100000 in
theorem index_left (SB : Nat → Prop) (w : World) (b B : Nat) (T : TypeId) (vb : Value) (L : List Bf) (S : Nat → Prop) (l : List Int) (v : Value) (h2 : w.cell? ⟨b, 2, none⟩ = some vb) (h : BufsAt SB w vb L) (hr : Rises L) (hn : L.length ≤ 65536) (hB : w.heap[B]? = some (.cells #[.pointer (some ⟨b, 0, none⟩)] T (0, 0))) (hl : Rd S w 1 v l.length (l.map (.int .i64))) (h60 : l.length ≤ 60000) :
    Calls Try.prog 100 #[v, .func (.func 88) #[] #[.pointer (some ⟨B, 0, none⟩)]] w (RetFirst (gone1 L) l w) := by
  obtain ⟨A, cap, rfl, g1, g2⟩ := hl.form
  unfold maxLen at g2
  have Hl := Lib.hid hl
  have HB := Lib.hid hB
  have H := Lib.hid h
  have HR := Lib.hid hr
  have HN := Lib.hid hn
  have H2 := Lib.hid h2
  have hlt0 : B < w.heap.size := (Array.getElem?_eq_some_iff.1 hB).1
  clear h hB hl hr hn h2
  go_enter Try.func100, Try.ntmps100
  go_wp2
  go_loopw [8] (fun i wr => ∃ k : Nat, k ≤ l.length ∧ i = .int .i64 k ∧ Below w.heap.size w wr ∧ Hid ((l.take k).any (gone1 L) = false)) (fun i _ => l.length - (intOf i).toNat)
  case atStart => exact ⟨0, by omega, rfl, Below.refl _ _, rfl⟩
  case round =>
    obtain ⟨k, hk, rfl, hw, hall⟩ := hrel
    by_cases hlt : k < l.length
    · obtain ⟨bl, off, rfl, _, hb, hc⟩ := (Hl.out.below hw).at_ (by omega) (by omega)
      have hx : l[k]? = some l[k] := List.getElem?_eq_getElem hlt
      have k0 := hc k (.int .i64 l[k]) (by rw [List.getElem?_map, hx]; rfl)
      clear hc
      have Hx := Lib.hid hx
      clear hx
      generalize l[k] = p at *
      have Hw := Lib.hid hw
      go_wp2_with fail
      refine (sync1_any SB wr b B T vb L p (cell_b Hw.out H2.out) (H.out.below Hw.out) HR.out HN.out ((Hw.out.block _ (by assumption)).trans HB.out)).mono ?_
      rintro e w1 ⟨rfl, hb1⟩
      have hw1 := hw.trans (hb1.mono hw.size)
      clear k0 hb1
      cases hs : St.still L p with
      | true =>
        have Hm : Hid (gone1 L p = false) := show _ = _ by unfold gone1; rw [hs]; rfl
        clear hs
        go_wp2_with fail
        go_roundw
        case rel => exact ⟨k + 1, by omega, by go_num, hw1, by show _ = false; rw [any_take_succ _ _ _ _ Hx.out, hall.out, Hm.out]; rfl⟩
        case measure => simp [intOf]; omega
      | false =>
        have Hm : Hid (gone1 L p = true) := show _ = _ by unfold gone1; rw [hs]; rfl
        clear hs
        go_wp2_with fail
        go_ret
        exact ⟨k, rfl, .inr ⟨k, p, rfl, Hx.out, hall.out, Hm.out⟩, hw1⟩
    · go_wp2
      go_ret
      exact ⟨-1, rfl, .inl ⟨rfl, any_end _ _ _ (by omega) hall.out⟩, hw⟩
end Go.Proofs.Ytojmnfelecnenaa
namespace Go.Proofs.Ytojmnfelecnenaa
set_option linter.unusedSimpArgs false
set_option linter.unusedVariables false
open Go.RowKit Go.Sort

/-- What stays. -/
def stay (L : List Bf) (l : List Int) : List Int := l.filter (St.still L)
theorem stay_all {L : List Bf} {l : List Int} (h : l.any (gone1 L) = false) : stay L l = l := by
  unfold stay
  rw [List.filter_eq_self]
  intro p hp
  have := List.any_eq_false.1 h p hp
  unfold gone1 at this
  simpa using this
theorem stay_succ {L : List Bf} {l : List Int} {q : Nat} {p : Int} (h : l[q]? = some p) : stay L (l.take (q + 1)) = stay L (l.take q) ++ (if St.still L p then [p] else []) := by
  unfold stay
  rw [List.take_add_one, h, List.filter_append]
  simp [List.filter_cons]
def RetLeft (F : Nat → Prop) (L : List Bf) (l : List Int) (w : World) : Ending → World → Prop := fun e w' => ∃ v', e = .returned v' ∧ Ow F w' 3 1 v' (stay L l).length ((stay L l).map (.int .i64)) ∧ Chg F w w'
set_option maxRecDepth 100000 in
set_option maxHeartbeats 2000000 in
theorem delete_left (SB F : Nat → Prop) (w : World) (b B : Nat) (T : TypeId) (vb : Value) (L : List Bf) (l : List Int) (v : Value) (h2 : w.cell? ⟨b, 2, none⟩ = some vb) (h : BufsAt SB w vb L) (hr : Rises L) (hn : L.length ≤ 65536) (hB : w.heap[B]? = some (.cells #[.pointer (some ⟨b, 0, none⟩)] T (0, 0)))
    (hown : Ow F w 3 1 v l.length (l.map (.int .i64))) (hSB : ∀ k, SB k → ¬ F k) (hbF : ¬ F b) (hBF : ¬ F B) (h60 : l.length ≤ 60000) :
    Calls Try.prog 87 #[v, .func (.func 88) #[] #[.pointer (some ⟨B, 0, none⟩)]] w (RetLeft F L l w) := by
  obtain ⟨A, cap, rfl, g1, g2⟩ := hown.form
  unfold maxLen at g2
  have Hown := Lib.hid hown
  have HB := Lib.hid hB
  have H := Lib.hid h
  have HR := Lib.hid hr
  have HN := Lib.hid hn
  have H2 := Lib.hid h2
  have HSB := Lib.hid hSB
  have HbF := Lib.hid hbF
  have HBF := Lib.hid hBF
  clear hown h hB hr hn h2 hSB hbF hBF
  go_enter Try.func87, Try.ntmps87
  go_wp2_with fail
  refine (index_left SB w b B T vb L F l _ H2.out H.out HR.out HN.out HB.out Hown.out.rd h60).mono ?_
  rintro e w1 ⟨n, rfl, hn, hb1⟩
  rcases hn with ⟨rfl, hany⟩ | ⟨k, p0, rfl, hx, hall, hg⟩
  · have Hany := Lib.hid hany
    have HB1 := Lib.hid hb1
    clear hany hb1
    go_wp2_with fail
    go_ret
    refine ⟨_, rfl, ?_, Chg.of_below HB1.out⟩
    rw [stay_all Hany.out]
    exact Hown.out.keep (fun k _ hk => HB1.out.block k hk)
  · have hkl : k < l.length := (List.getElem?_eq_some_iff.1 hx).1
    have hk1 : ((k : Int) == -1) = false := by simp only [beq_eq_false_iff_ne]; omega
    obtain ⟨g, cur, eA, hgF, hcell, hsz, htk⟩ : ∃ g cur, A = some ⟨g, 0, none⟩ ∧ F g ∧ w1.heap[g]? = some (.cells cur 3 (0, 0)) ∧ cur.size = cap ∧ cur.toList.take l.length = l.map (.int .i64) := by
      rcases Hown.out.1.2 with ⟨hv, h0⟩ | ⟨g, cap', cur, hv, _, h2, _, _, h5, h6⟩
      · omega
      · cases hv
        exact ⟨g, cur, rfl, Hown.out.2 g rfl, (hb1.block _ (Array.getElem?_eq_some_iff.1 h2).1).trans h2, by simpa using h5, by simpa using h6⟩
    subst eA
    have Hx := Lib.hid hx
    have Hall := Lib.hid hall
    have Hg := Lib.hid hg
    have HB1 := Lib.hid hb1
    have HgF := Lib.hid hgF
    have Hcell := Lib.hid hcell
    have Hsz := Lib.hid hsz
    have Htk := Lib.hid htk
    clear hx hall hg hb1 hgF hcell hsz htk
    go_wp2_with fail
    go_loopw [5, 6] (fun i j wr => ∃ (a q : Nat) (cu : Array Value), i = .int .i64 a ∧ j = .int .i64 q ∧ a < q ∧ q ≤ l.length ∧ Hid (wr.heap[g]? = some (.cells cu 3 (0, 0))) ∧ Hid (cu.size = cap) ∧ Hid (cu.toList.take a = (stay L (l.take q)).map (.int .i64)) ∧ Hid (a = (stay L (l.take q)).length) ∧ Hid (∀ r p, q ≤ r → l[r]? = some p → cu[r]? = some (.int .i64 p)) ∧ Hid (Chg F w wr)) (fun _ j _ => l.length - (intOf j).toNat)
    case atStart =>
      have e0 : stay L (l.take (k + 1)) = l.take k := by
        rw [stay_succ Hx.out, stay_all Hall.out]
        have := Hg.out
        unfold gone1 at this
        rw [if_neg (by simpa using this), List.append_nil]
      have ht : cur.toList.take l.length = l.map (.int .i64) := Htk.out
      refine ⟨k, k + 1, cur, rfl, by go_num, by omega, by omega, Hcell, Hsz, ?_, ?_, ?_, Chg.of_below HB1.out⟩
      · show _ = _
        rw [e0, List.map_take, ← ht, List.take_take, Nat.min_eq_left (by omega)]
      · show _ = _
        rw [e0, List.length_take, Nat.min_eq_left (by omega)]
      · show ∀ r p, k + 1 ≤ r → l[r]? = some p → cur[r]? = some (.int .i64 p)
        intro r p _ hr
        have hrl := (List.getElem?_eq_some_iff.1 hr).1
        have h1 : (cur.toList.take l.length)[r]? = some (.int .i64 p) := by rw [ht, List.getElem?_map, hr]; rfl
        rw [List.getElem?_take_of_lt hrl] at h1
        simpa using h1
    case round =>
      obtain ⟨a, q, cu, rfl, rfl, haq, hq, hcu, hcs, hta, hla, hre, hch⟩ := hrel
      have hcl : wr.frozen? ⟨g, a, none⟩ = false := frozen_of_row _ _ a _ _ hcu.out
      have hgl : g < wr.heap.size := (Array.getElem?_eq_some_iff.1 hcu.out).1
      by_cases hlt : q < l.length
      · have hx : l[q]? = some l[q] := List.getElem?_eq_getElem hlt
        have k0 : wr.cell? ⟨g, q, none⟩ = some (.int .i64 l[q]) := by rw [cell_of_row _ _ q _ _ _ hcu.out]; exact hre.out q _ (Nat.le_refl _) hx
        have HX := Lib.hid hx
        clear hx
        generalize l[q] = p at *
        go_wp2_with fail
        refine (sync1_any SB wr b B T vb L p ?_ ?_ HR.out HN.out ?_).mono ?_
        · exact (World.cell?_of_block (hch.out.block b (block_lt_of_cell H2.out) HbF.out)).trans H2.out
        · exact H.out.keep (fun k hs hk => hch.out.block k hk (HSB.out k hs))
        · exact (hch.out.block B (Array.getElem?_eq_some_iff.1 HB.out).1 HBF.out).trans HB.out
        rintro e w2 ⟨rfl, hb2⟩
        have HB2 := Lib.hid hb2
        have hcu2 := Lib.hid ((hb2.block g hgl).trans hcu.out)
        have hch2 := Lib.hid (hch.out.step hb2)
        clear k0 hb2 hcl
        cases hs : St.still L p with
        | true =>
          have Hs := Lib.hid hs
          have ka : w2.cell? ⟨g, a, none⟩ = some cu[a]! := by
            have : a < cu.size := by have := hcs.out; omega
            rw [cell_of_row _ _ a _ _ _ hcu2.out]; simp [this]
          have kf : w2.frozen? ⟨g, a, none⟩ = false := frozen_of_row _ _ a _ _ hcu2.out
          clear hs
          go_wp2_with fail
          go_roundw
          case rel =>
            refine ⟨a + 1, q + 1, cu.setIfInBounds a (.int .i64 p), by go_num, by go_num, by omega, by omega, heap_setCell_same _ _ a _ _ _ hcu2.out, ?_, ?_, ?_, ?_, hch2.out.setCell (.inl HgF.out) _⟩
            · show _ = _
              rw [Array.size_setIfInBounds]; exact hcs.out
            · show _ = _
              rw [stay_succ HX.out, Hs.out, if_pos rfl, List.map_append, ← hta.out, Array.toList_setIfInBounds, List.take_add_one, List.getElem?_set_self (by have := hcs.out; simp; omega), List.take_set_of_le (Nat.le_refl _)]
              rfl
            · show _ = _
              rw [stay_succ HX.out, Hs.out, if_pos rfl, List.length_append, ← hla.out]; rfl
            · show ∀ r p', q + 1 ≤ r → l[r]? = some p' → _
              intro r p' hr hx
              rw [Array.getElem?_setIfInBounds_ne (by omega)]
              exact hre.out r p' (by omega) hx
          case measure => simp [intOf]; omega
        | false =>
          have Hs := Lib.hid hs
          clear hs
          go_wp2_with fail
          go_roundw
          case rel =>
            refine ⟨a, q + 1, cu, rfl, by go_num, by omega, by omega, hcu2, hcs, ?_, ?_, ?_, hch2⟩
            · show _ = _
              rw [stay_succ HX.out, Hs.out, if_neg (by decide), List.append_nil]; exact hta.out
            · show _ = _
              rw [stay_succ HX.out, Hs.out, if_neg (by decide), List.append_nil]; exact hla.out
            · show ∀ r p', q + 1 ≤ r → l[r]? = some p' → _
              intro r p' hr hx
              exact hre.out r p' (by omega) hx
          case measure => simp [intOf]; omega
      · have hql : q = l.length := by omega
        subst hql
        obtain ⟨cur', hrun, hsz', htk'⟩ := run_clear_row (P := Try.prog) wr 42 3 0 (.int .i64 0) 1 Try.underlying42 int_zero rfl
          (fun n u hu => one_zeros (by decide) n u hu) g a (l.length - a) (cap - a) _ cu hcu.out (by rw [hcs.out]; omega)
        have Hs' := Lib.hid hsz'
        have Ht' := Lib.hid htk'
        clear hsz' htk'
        go_wp2_with fail
        go_ret
        have ht := hta.out
        have hl' := hla.out
        rw [List.take_length] at ht hl'
        refine ⟨.slice (some ⟨g, 0, none⟩) a cap, rfl, ⟨?_, ?_⟩, ?_⟩
        · refine ⟨by simp, .inr ⟨g, cap, cur', by rw [← hl'], Nat.zero_le _, setRow_heap _ _ _ _ _ _ hcu.out, by omega, by simp only [maxLen]; omega, by rw [Hs'.out, hcs.out]; simp, ?_⟩⟩
          rw [Nat.mul_one, ← hl', Ht'.out, ht]
        · intro k hk
          have hk' : g = k := by simpa [Value.ownBlock] using hk
          subst hk'
          exact HgF.out
        · exact ⟨hch.out.os, hch.out.tape, hch.out.output, by simpa using hch.out.size, fun k hk hn => by rw [setRow_other _ _ _ _ (fun h => hn (by rw [h]; exact HgF.out))]; exact hch.out.block k hk hn⟩
end Go.Proofs.Ytojmnfelecnenaa
