
/- The reference's StepOf: a text read as a step. -/
import Derived.Test.YtecnpdkoodfemaaDoorRFault
import Derived.Test.YtecnpdkoodfemaaDoorRScr
import Derived.Test.YtecnpdkoodfemaaDoorParse
namespace Go.Proofs.YtecnpdkoodfemaaDoor
set_option linter.unusedSimpArgs false
set_option linter.unusedVariables false
open Go.RowKit

def rstageZ (w0 : ByteArray) (r : List ByteArray) (p : Nat) : Stp :=
  ⟨w0, if 1 ≤ p then natM (r.getD 0 ⟨#[]⟩) 999 else 0, if 2 ≤ p then natM (r.getD 1 ⟨#[]⟩) 999 else 0, if 3 ≤ p then dataP (r.getD 2 ⟨#[]⟩) else ⟨#[]⟩⟩
def rparseW (ws : List ByteArray) : Option Stp := match ws with
  | [] => none
  | w0 :: r => match formK w0 with
    | none => none
    | some k => if r.length ≠ k then none
      else if 3 ≤ k && (r.getD 2 ⟨#[]⟩).toList.isEmpty then none
      else if checkM (rstageZ w0 r k) ≠ 0 then none
      else some (rstageZ w0 r k)
theorem rparseW_no {w0 : ByteArray} {r : List ByteArray} (h : formK w0 = none) : rparseW (w0 :: r) = none := by simp only [rparseW, h]
theorem rparseW_len {w0 : ByteArray} {r : List ByteArray} {k : Nat} (h : formK w0 = some k) (hl : r.length ≠ k) : rparseW (w0 :: r) = none := by simp only [rparseW, h]; rw [if_pos hl]
theorem rparseW_emp {w0 : ByteArray} {r : List ByteArray} (h : formK w0 = some 3) (hl : r.length = 3) (he : (r.getD 2 ⟨#[]⟩).toList.isEmpty = true) : rparseW (w0 :: r) = none := by
  simp only [rparseW, h]; rw [if_neg (by simp [hl]), if_pos (by simp only [he]; rfl)]
theorem rparseW_bad {w0 : ByteArray} {r : List ByteArray} {k : Nat} (h : formK w0 = some k) (hl : r.length = k) (hc : checkM (rstageZ w0 r k) ≠ 0) : rparseW (w0 :: r) = none := by
  simp only [rparseW, h]
  rw [if_neg (by simp [hl])]
  split
  · rfl
  · first | rfl | rw [if_pos hc]
theorem rparseW_ok {w0 : ByteArray} {r : List ByteArray} {k : Nat} (h : formK w0 = some k) (hl : r.length = k) (he : (3 ≤ k && (r.getD 2 ⟨#[]⟩).toList.isEmpty) = false) (hc : checkM (rstageZ w0 r k) = 0) : rparseW (w0 :: r) = some (rstageZ w0 r k) := by
  simp only [rparseW, h]
  rw [if_neg (by simp [hl]), if_neg (by rw [he]; decide), if_neg (by simp [hc])]
def rparseM (t : ByteArray) : Option Stp := rparseW (splitM t)
def rparseV (o : Option Stp) : Value := match o with
  | some z => .tuple #[stpV z, .int .i64 0]
  | none => .tuple #[stpV zeroZ, .int .i64 4]
theorem rstpInfo : (Tryd.prog.info? 33).map (·.size) = some 4 := by kernel_rfl
theorem rstp_results {fn : Func} {tmps : Array Value} {W : World} {rb : Nat} {e : Value} {c0 c1 c2 c3 : Value} (h : fn.results = #[.cell 2 33, .tmp 3]) (h2 : tmps.getD 2 undef = .pointer (some ⟨rb, 0, none⟩)) (h3 : tmps.getD 3 undef = e)
    (hrow : W.heap[rb]? = some (.cells #[c0, c1, c2, c3] 33 (0, 0))) : (results fn tmps).run Tryd.prog W = .ok (.tuple #[.agg #[c0, c1, c2, c3], e]) W := by
  have hl := run_loadVar_mid (P := Tryd.prog) W rb 0 33 [c0, c1, c2, c3] _ (fun j v hj => by
    rw [Nat.zero_add, cell_of_row _ _ j _ _ _ hrow]
    simpa using hj) Tryd.underlying33 rfl rstpInfo
  rw [results_cell_tmp h, h2, h3]
  simp [asAddr, Result.andThen, hl]
/-- The words in a row of the call's own, beside a list of blocks. -/
theorem own_word {w : World} {base : Nat} {A : Option Addr} {n c : Nat} {ws : List ByteArray} (h : w.ownsRow base 9 1 (.slice A n c) ws.length (ws.map .string)) (h0 : 0 < ws.length) : ∃ g cap, A = some ⟨g, 0, none⟩ ∧ n = ws.length ∧ c = cap ∧ ws.length ≤ cap ∧ cap ≤ 9223372036854775807 ∧ base ≤ g ∧ g < w.heap.size ∧ ∃ cs : Array Value, w.heap[g]? = some (.cells cs 9 (0, 0)) ∧ ∀ (j : Nat) (x : ByteArray), ws[j]? = some x → cs[j]? = some (Value.string x) := by
  rcases h.2 with ⟨_, h1⟩ | ⟨g, cap, cur, hv, hb, hh, h3, h4, h5, h6⟩
  · omega
  · injection hv with e1 e2 e3
    subst e1 e2 e3
    unfold maxLen at h4
    refine ⟨g, _, rfl, rfl, rfl, h3, by omega, hb, (h.lt g rfl).2, cur, hh, fun j x hx => ?_⟩
    have hlen := (List.getElem?_eq_some_iff.1 hx).1
    have : (cur.toList.take (ws.length * 1))[j]? = some (.string x) := by
      rw [h6, List.getElem?_map, hx]; rfl
    rw [List.getElem?_take] at this
    split at this
    · simpa using this
    · cases this
theorem Lay.addOwn {w wr : World} {l : List (Nat × TypeId × Array Value)} (h : Lay w wr l) {b : Nat} {T : TypeId} {cs : Array Value} (hr : wr.heap[b]? = some (.cells cs T (0, 0))) (ho : w.heap.size ≤ b) (hn : ∀ x ∈ l, x.1 ≠ b) : Lay w wr ((b, T, cs) :: l) :=
  ⟨h.below, fun x hx => by
    rcases List.mem_cons.1 hx with rfl | hx
    · exact hr
    · exact h.row x hx, fun x hx => by
    rcases List.mem_cons.1 hx with rfl | hx
    · exact ho
    · exact h.own x hx, by
    rw [List.map_cons, List.nodup_cons]
    refine ⟨fun hm => ?_, h.nd⟩
    obtain ⟨x, hx, he⟩ := List.mem_map.1 hm
    exact hn x hx he⟩
set_option maxRecDepth 100000 in
set_option maxHeartbeats 4000000 in
theorem rparse_any (t : ByteArray) (w : World) (ht : t.size ≤ 1000) : Calls Tryd.prog 13 #[.string t] w (Ret (rparseV (rparseM t)) w) := by
  obtain ⟨o, ho⟩ : ∃ o, rparseW (splitM t) = o := ⟨_, rfl⟩
  have e : rparseM t = o := ho
  rw [e]
  have Ho := Lib.hid ho
  clear e ho
  go_enter Tryd.func13, Tryd.ntmps13
  go_wp2_with fail
  have L1 := (Lay.refl w).alloc' w.heap.size #[Value.string { data := #[] }, .int .i64 0, .int .i64 0, .string { data := #[] }] 33 rfl
  generalize World.alloc _ _ = W1 at L1 ⊢
  generalize w.heap.size = rb at L1 ⊢
  have hrb := L1.lt (x := (rb, 33, #[Value.string { data := #[] }, .int .i64 0, .int .i64 0, .string { data := #[] }])) (by simp)
  refine (rsplit_any t W1 ht).mono ?_
  rintro e W2 ⟨v, rfl, hb2, hown⟩
  have hsz := splitM_size t
  have hlen : (splitM t).length ≤ 1001 := by
    unfold splitM
    rw [List.length_map]
    have := splitL_len t.data.toList
    have e2 : t.data.toList.length = t.size := by simp
    omega
  have hne : splitM t ≠ [] := by
    unfold splitM
    intro e
    exact splitL_ne _ (List.map_eq_nil_iff.1 e)
  generalize splitM t = ws at *
  obtain ⟨w0, r, rfl⟩ : ∃ w0 r, ws = w0 :: r := by
    cases ws with
    | nil => exact absurd rfl hne
    | cons a b => exact ⟨a, b, rfl⟩
  clear hne
  obtain ⟨A, c, rfl⟩ := own_slice hown
  obtain ⟨br, cap, rfl, hn, rfl, hcap, hcap2, hbr, hbr2, cs, hrow, hcs⟩ := own_word hown (by simp)
  clear hn
  have L2 := (L1.step hb2).addOwn hrow (Nat.le_trans L1.size hbr) (fun x hx => by
    simp only [List.mem_cons, List.mem_nil_iff, or_false] at hx
    subst hx
    show rb ≠ br
    omega)
  have Hcs := Lib.hid hcs
  have hs0 : w0.size ≤ 1000 := Nat.le_trans (hsz w0 (by simp)) ht
  have hm0 : w0.size ≤ maxLen := by unfold maxLen; omega
  have hsr : Hid (∀ x ∈ r, x.size ≤ 1000) := fun x hx => Nat.le_trans (hsz x (by simp [hx])) ht
  rw [List.length_cons] at hlen hcap ⊢
  have c0 : W2.cell? ⟨br, 0, none⟩ = some (.string w0) := (L2.cell 0 rfl 0).trans (Hcs.out 0 w0 rfl)
  have hl1 : (0 : Int) < ((r.length + 1 : Nat) : Int) := by omega
  have HL2 := Lib.hid L2
  clear L1 L2 hsz hown hb2 hrow hcs
  go_wp2_with fail
  refine (rform_any w0 W2).mono ?_
  rintro e W3 ⟨rfl, rfl⟩
  have L3 := HL2.out
  have HL := Lib.hid L3
  obtain ⟨f0, f1, f2, f3⟩ : _ ∧ _ ∧ _ ∧ _ := ⟨L3.frozen 1 rfl 0, L3.frozen 1 rfl 1, L3.frozen 1 rfl 2, L3.frozen 1 rfl 3⟩
  obtain ⟨b0, b1, b2, b3⟩ := L3.c4 1 rfl
  clear HL2 L3
  cases hk : formK w0 with
  | none =>
    rw [formT_none hk]
    obtain rfl := Ho.out.symm.trans (rparseW_no hk)
    go_wp2
    have LF := HL.out.put4 1 rfl (.string ⟨#[]⟩) (.int .i64 0) (.int .i64 0) (.string ⟨#[]⟩)
    exact bodyPost_ret (rstp_results rfl rfl rfl (LF.at_ 1 rfl)) rfl ⟨rfl, LF.below⟩
  | some k =>
    have hk3 := formK_le hk
    have hF := formT_some hk
    match k, hk3, hF, hk with
    | 0, _, hF, hk =>
      change formT w0 = .tuple #[.string ⟨#[]⟩, .bool true] at hF
      rw [hF]
      by_cases hlk : r.length = 0
      rotate_left
      · have hcmp : ((r.length : Int) + 1 != 1) = true := by
          rw [bne_iff_ne]; omega
        obtain rfl := Ho.out.symm.trans (rparseW_len hk hlk)
        go_wp2
        have LF := HL.out.put4 1 rfl (.string ⟨#[]⟩) (.int .i64 0) (.int .i64 0) (.string ⟨#[]⟩)
        exact bodyPost_ret (rstp_results rfl rfl rfl (LF.at_ 1 rfl)) rfl ⟨rfl, LF.below⟩
      have hr : r = [] := match r, hlk with
        | [], _ => rfl
      obtain rfl := hr
      clear hlk
      have L4 := Lib.hid (HL.out.alloc' W2.heap.size #[.string w0, .int .i64 0, .int .i64 0, .string ⟨#[]⟩] 33 rfl)
      have d0 : ∀ o, (W2.alloc o).cell? ⟨br, 0, none⟩ = some (.string w0) := fun o => ((HL.out.step ((Below.refl _ _).alloc (Nat.le_refl _) o)).cell 0 rfl 0).trans (Hcs.out 0 w0 rfl)
      have hdm : (⟨w0, 0, 0, ⟨#[]⟩⟩ : Stp).data.size ≤ maxLen := by
        show (⟨#[]⟩ : ByteArray).size ≤ maxLen
        decide
      obtain ⟨n0, n1, n2, n3⟩ := L4.out.c4 0 rfl
      have hst : rstageZ w0 [] 0 = ⟨w0, 0, 0, ⟨#[]⟩⟩ := rfl
      have hem : (decide (3 ≤ 0) && (([] : List ByteArray).getD 2 ⟨#[]⟩).toList.isEmpty) = false := rfl
      have Hch := Lib.hid (fun w hs hd => rfault_any (⟨w0, 0, 0, ⟨#[]⟩⟩) w hs hd)
      by_cases hc : checkM (⟨w0, 0, 0, ⟨#[]⟩⟩) = 0
      · obtain rfl := Ho.out.symm.trans ((rparseW_ok hk rfl hem (by rw [hst]; exact hc)).trans (congrArg some hst))
        go_wp2_with fail
        refine (Hch.out _ hm0 hdm).mono ?_
        rintro e W9 ⟨rfl, hb9⟩
        rw [hc]
        have L9 := Lib.hid (L4.out.step hb9)
        obtain ⟨k0, k1, k2, k3⟩ := L9.out.c4 0 rfl
        obtain ⟨j0, j1, j2, j3⟩ := L9.out.c4 2 rfl
        obtain ⟨g0, g1, g2, g3⟩ : _ ∧ _ ∧ _ ∧ _ := ⟨L9.out.frozen 2 rfl 0, L9.out.frozen 2 rfl 1, L9.out.frozen 2 rfl 2, L9.out.frozen 2 rfl 3⟩
        go_wp2
        have LF := L9.out.put4 2 rfl (.string (⟨w0, 0, 0, ⟨#[]⟩⟩ : Stp).word) (.int .i64 (⟨w0, 0, 0, ⟨#[]⟩⟩ : Stp).a) (.int .i64 (⟨w0, 0, 0, ⟨#[]⟩⟩ : Stp).b) (.string (⟨w0, 0, 0, ⟨#[]⟩⟩ : Stp).data)
        exact bodyPost_ret (rstp_results rfl rfl rfl (LF.at_ 2 rfl)) rfl ⟨rfl, LF.below⟩
      · obtain rfl := Ho.out.symm.trans (rparseW_bad hk rfl (by rw [hst]; exact hc))
        have hpos : (0 : Int) < (checkM (⟨w0, 0, 0, ⟨#[]⟩⟩) : Int) := by omega
        go_wp2_with fail
        refine (Hch.out _ hm0 hdm).mono ?_
        rintro e W9 ⟨rfl, hb9⟩
        have L9 := Lib.hid (L4.out.step hb9)
        obtain ⟨j0, j1, j2, j3⟩ := L9.out.c4 2 rfl
        obtain ⟨g0, g1, g2, g3⟩ : _ ∧ _ ∧ _ ∧ _ := ⟨L9.out.frozen 2 rfl 0, L9.out.frozen 2 rfl 1, L9.out.frozen 2 rfl 2, L9.out.frozen 2 rfl 3⟩
        go_wp2
        have LF := L9.out.put4 2 rfl (.string ⟨#[]⟩) (.int .i64 0) (.int .i64 0) (.string ⟨#[]⟩)
        exact bodyPost_ret (rstp_results rfl rfl rfl (LF.at_ 2 rfl)) rfl ⟨rfl, LF.below⟩
    | 1, _, hF, hk =>
      change formT w0 = .tuple #[.string ⟨#[97]⟩, .bool true] at hF
      rw [hF]
      by_cases hlk : r.length = 1
      rotate_left
      · have hcmp : ((r.length : Int) + 1 != 2) = true := by
          rw [bne_iff_ne]; omega
        obtain rfl := Ho.out.symm.trans (rparseW_len hk hlk)
        go_wp2
        have LF := HL.out.put4 1 rfl (.string ⟨#[]⟩) (.int .i64 0) (.int .i64 0) (.string ⟨#[]⟩)
        exact bodyPost_ret (rstp_results rfl rfl rfl (LF.at_ 1 rfl)) rfl ⟨rfl, LF.below⟩
      have hr : ∃ x0, r = [x0] := match r, hlk with
        | [x0], _ => ⟨x0, rfl⟩
      obtain ⟨x0, rfl⟩ := hr
      clear hlk
      have hs_0 : x0.size ≤ maxLen := by have := hsr.out x0 (by simp); unfold maxLen; omega
      have L4 := Lib.hid (HL.out.alloc' W2.heap.size #[.string w0, .int .i64 0, .int .i64 0, .string ⟨#[]⟩] 33 rfl)
      have d0 : ∀ o, (W2.alloc o).cell? ⟨br, 0, none⟩ = some (.string w0) := fun o => ((HL.out.step ((Below.refl _ _).alloc (Nat.le_refl _) o)).cell 0 rfl 0).trans (Hcs.out 0 w0 rfl)
      have d1 : (W2.alloc (.cells #[.string w0, .int .i64 0, .int .i64 0, .string ⟨#[]⟩] 33)).cell? ⟨br, 1, none⟩ = some (.string x0) := (L4.out.cell 1 rfl 1).trans (Hcs.out 1 x0 rfl)
      obtain ⟨n0, n1, n2, n3⟩ := L4.out.c4 0 rfl
      have fz1 := L4.out.frozen 0 rfl 1
      go_wp2_with fail
      refine (natural_any x0 999 _ hs_0).mono ?_
      rintro e W5 ⟨rfl, rfl⟩
      have L5 := Lib.hid (L4.out.set 0 rfl 1 (.int .i64 (natM x0 999)))
      generalize hW4 : W2.alloc (.cells #[.string w0, .int .i64 0, .int .i64 0, .string ⟨#[]⟩] 33) = W4 at *
      clear hW4
      obtain ⟨m0, m1, m2, m3⟩ := L5.out.c4 0 rfl
      have hdm : (⟨w0, natM x0 999, 0, ⟨#[]⟩⟩ : Stp).data.size ≤ maxLen := by
        show (⟨#[]⟩ : ByteArray).size ≤ maxLen
        decide
      have hst : rstageZ w0 [x0] 1 = ⟨w0, natM x0 999, 0, ⟨#[]⟩⟩ := rfl
      have hem : (decide (3 ≤ 1) && (([x0] : List ByteArray).getD 2 ⟨#[]⟩).toList.isEmpty) = false := rfl
      have Hch := Lib.hid (fun w hs hd => rfault_any (⟨w0, natM x0 999, 0, ⟨#[]⟩⟩) w hs hd)
      by_cases hc : checkM (⟨w0, natM x0 999, 0, ⟨#[]⟩⟩) = 0
      · obtain rfl := Ho.out.symm.trans ((rparseW_ok hk rfl hem (by rw [hst]; exact hc)).trans (congrArg some hst))
        go_wp2_with fail
        refine (Hch.out _ hm0 hdm).mono ?_
        rintro e W9 ⟨rfl, hb9⟩
        rw [hc]
        have L9 := Lib.hid (L5.out.step hb9)
        obtain ⟨k0, k1, k2, k3⟩ := L9.out.c4 0 rfl
        obtain ⟨j0, j1, j2, j3⟩ := L9.out.c4 2 rfl
        obtain ⟨g0, g1, g2, g3⟩ : _ ∧ _ ∧ _ ∧ _ := ⟨L9.out.frozen 2 rfl 0, L9.out.frozen 2 rfl 1, L9.out.frozen 2 rfl 2, L9.out.frozen 2 rfl 3⟩
        go_wp2
        have LF := L9.out.put4 2 rfl (.string (⟨w0, natM x0 999, 0, ⟨#[]⟩⟩ : Stp).word) (.int .i64 (⟨w0, natM x0 999, 0, ⟨#[]⟩⟩ : Stp).a) (.int .i64 (⟨w0, natM x0 999, 0, ⟨#[]⟩⟩ : Stp).b) (.string (⟨w0, natM x0 999, 0, ⟨#[]⟩⟩ : Stp).data)
        exact bodyPost_ret (rstp_results rfl rfl rfl (LF.at_ 2 rfl)) rfl ⟨rfl, LF.below⟩
      · obtain rfl := Ho.out.symm.trans (rparseW_bad hk rfl (by rw [hst]; exact hc))
        have hpos : (0 : Int) < (checkM (⟨w0, natM x0 999, 0, ⟨#[]⟩⟩) : Int) := by omega
        go_wp2_with fail
        refine (Hch.out _ hm0 hdm).mono ?_
        rintro e W9 ⟨rfl, hb9⟩
        have L9 := Lib.hid (L5.out.step hb9)
        obtain ⟨j0, j1, j2, j3⟩ := L9.out.c4 2 rfl
        obtain ⟨g0, g1, g2, g3⟩ : _ ∧ _ ∧ _ ∧ _ := ⟨L9.out.frozen 2 rfl 0, L9.out.frozen 2 rfl 1, L9.out.frozen 2 rfl 2, L9.out.frozen 2 rfl 3⟩
        go_wp2
        have LF := L9.out.put4 2 rfl (.string ⟨#[]⟩) (.int .i64 0) (.int .i64 0) (.string ⟨#[]⟩)
        exact bodyPost_ret (rstp_results rfl rfl rfl (LF.at_ 2 rfl)) rfl ⟨rfl, LF.below⟩
    | 2, _, hF, hk =>
      change formT w0 = .tuple #[.string ⟨#[97, 98]⟩, .bool true] at hF
      rw [hF]
      by_cases hlk : r.length = 2
      rotate_left
      · have hcmp : ((r.length : Int) + 1 != 3) = true := by
          rw [bne_iff_ne]; omega
        obtain rfl := Ho.out.symm.trans (rparseW_len hk hlk)
        go_wp2
        have LF := HL.out.put4 1 rfl (.string ⟨#[]⟩) (.int .i64 0) (.int .i64 0) (.string ⟨#[]⟩)
        exact bodyPost_ret (rstp_results rfl rfl rfl (LF.at_ 1 rfl)) rfl ⟨rfl, LF.below⟩
      have hr : ∃ x0 x1, r = [x0, x1] := match r, hlk with
        | [x0, x1], _ => ⟨x0, x1, rfl⟩
      obtain ⟨x0, x1, rfl⟩ := hr
      clear hlk
      have hs_0 : x0.size ≤ maxLen := by have := hsr.out x0 (by simp); unfold maxLen; omega
      have hs_1 : x1.size ≤ maxLen := by have := hsr.out x1 (by simp); unfold maxLen; omega
      have L4 := Lib.hid (HL.out.alloc' W2.heap.size #[.string w0, .int .i64 0, .int .i64 0, .string ⟨#[]⟩] 33 rfl)
      have d0 : ∀ o, (W2.alloc o).cell? ⟨br, 0, none⟩ = some (.string w0) := fun o => ((HL.out.step ((Below.refl _ _).alloc (Nat.le_refl _) o)).cell 0 rfl 0).trans (Hcs.out 0 w0 rfl)
      have d1 : (W2.alloc (.cells #[.string w0, .int .i64 0, .int .i64 0, .string ⟨#[]⟩] 33)).cell? ⟨br, 1, none⟩ = some (.string x0) := (L4.out.cell 1 rfl 1).trans (Hcs.out 1 x0 rfl)
      have d2 : (W2.alloc (.cells #[.string w0, .int .i64 0, .int .i64 0, .string ⟨#[]⟩] 33)).cell? ⟨br, 2, none⟩ = some (.string x1) := (L4.out.cell 1 rfl 2).trans (Hcs.out 2 x1 rfl)
      obtain ⟨n0, n1, n2, n3⟩ := L4.out.c4 0 rfl
      have fz1 := L4.out.frozen 0 rfl 1
      go_wp2_with fail
      refine (natural_any x0 999 _ hs_0).mono ?_
      rintro e W5 ⟨rfl, rfl⟩
      have L5 := Lib.hid (L4.out.set 0 rfl 1 (.int .i64 (natM x0 999)))
      generalize hW4 : W2.alloc (.cells #[.string w0, .int .i64 0, .int .i64 0, .string ⟨#[]⟩] 33) = W4 at *
      clear hW4
      obtain ⟨m0, m1, m2, m3⟩ := L5.out.c4 0 rfl
      have e2 : (W4.setCell ⟨W2.heap.size, 1, none⟩ (.int .i64 (natM x0 999))).cell? ⟨br, 2, none⟩ = some (.string x1) := (L5.out.cell 1 rfl 2).trans (Hcs.out 2 x1 rfl)
      have fz2 := L5.out.frozen 0 rfl 2
      go_wp2_with fail
      refine (natural_any x1 999 _ hs_1).mono ?_
      rintro e W6 ⟨rfl, rfl⟩
      have L6 := Lib.hid (L5.out.set 0 rfl 2 (.int .i64 (natM x1 999)))
      generalize hW5 : W4.setCell ⟨W2.heap.size, 1, none⟩ (.int .i64 (natM x0 999)) = W5 at *
      clear hW5
      obtain ⟨l0, l1, l2, l3⟩ := L6.out.c4 0 rfl
      have hdm : (⟨w0, natM x0 999, natM x1 999, ⟨#[]⟩⟩ : Stp).data.size ≤ maxLen := by
        show (⟨#[]⟩ : ByteArray).size ≤ maxLen
        decide
      have hst : rstageZ w0 [x0, x1] 2 = ⟨w0, natM x0 999, natM x1 999, ⟨#[]⟩⟩ := rfl
      have hem : (decide (3 ≤ 2) && (([x0, x1] : List ByteArray).getD 2 ⟨#[]⟩).toList.isEmpty) = false := rfl
      have Hch := Lib.hid (fun w hs hd => rfault_any (⟨w0, natM x0 999, natM x1 999, ⟨#[]⟩⟩) w hs hd)
      by_cases hc : checkM (⟨w0, natM x0 999, natM x1 999, ⟨#[]⟩⟩) = 0
      · obtain rfl := Ho.out.symm.trans ((rparseW_ok hk rfl hem (by rw [hst]; exact hc)).trans (congrArg some hst))
        go_wp2_with fail
        refine (Hch.out _ hm0 hdm).mono ?_
        rintro e W9 ⟨rfl, hb9⟩
        rw [hc]
        have L9 := Lib.hid (L6.out.step hb9)
        obtain ⟨k0, k1, k2, k3⟩ := L9.out.c4 0 rfl
        obtain ⟨j0, j1, j2, j3⟩ := L9.out.c4 2 rfl
        obtain ⟨g0, g1, g2, g3⟩ : _ ∧ _ ∧ _ ∧ _ := ⟨L9.out.frozen 2 rfl 0, L9.out.frozen 2 rfl 1, L9.out.frozen 2 rfl 2, L9.out.frozen 2 rfl 3⟩
        go_wp2
        have LF := L9.out.put4 2 rfl (.string (⟨w0, natM x0 999, natM x1 999, ⟨#[]⟩⟩ : Stp).word) (.int .i64 (⟨w0, natM x0 999, natM x1 999, ⟨#[]⟩⟩ : Stp).a) (.int .i64 (⟨w0, natM x0 999, natM x1 999, ⟨#[]⟩⟩ : Stp).b) (.string (⟨w0, natM x0 999, natM x1 999, ⟨#[]⟩⟩ : Stp).data)
        exact bodyPost_ret (rstp_results rfl rfl rfl (LF.at_ 2 rfl)) rfl ⟨rfl, LF.below⟩
      · obtain rfl := Ho.out.symm.trans (rparseW_bad hk rfl (by rw [hst]; exact hc))
        have hpos : (0 : Int) < (checkM (⟨w0, natM x0 999, natM x1 999, ⟨#[]⟩⟩) : Int) := by omega
        go_wp2_with fail
        refine (Hch.out _ hm0 hdm).mono ?_
        rintro e W9 ⟨rfl, hb9⟩
        have L9 := Lib.hid (L6.out.step hb9)
        obtain ⟨j0, j1, j2, j3⟩ := L9.out.c4 2 rfl
        obtain ⟨g0, g1, g2, g3⟩ : _ ∧ _ ∧ _ ∧ _ := ⟨L9.out.frozen 2 rfl 0, L9.out.frozen 2 rfl 1, L9.out.frozen 2 rfl 2, L9.out.frozen 2 rfl 3⟩
        go_wp2
        have LF := L9.out.put4 2 rfl (.string ⟨#[]⟩) (.int .i64 0) (.int .i64 0) (.string ⟨#[]⟩)
        exact bodyPost_ret (rstp_results rfl rfl rfl (LF.at_ 2 rfl)) rfl ⟨rfl, LF.below⟩
    | 3, _, hF, hk =>
      change formT w0 = .tuple #[.string ⟨#[97, 98, 100]⟩, .bool true] at hF
      rw [hF]
      by_cases hlk : r.length = 3
      rotate_left
      · have hcmp : ((r.length : Int) + 1 != 4) = true := by
          rw [bne_iff_ne]; omega
        obtain rfl := Ho.out.symm.trans (rparseW_len hk hlk)
        go_wp2
        have LF := HL.out.put4 1 rfl (.string ⟨#[]⟩) (.int .i64 0) (.int .i64 0) (.string ⟨#[]⟩)
        exact bodyPost_ret (rstp_results rfl rfl rfl (LF.at_ 1 rfl)) rfl ⟨rfl, LF.below⟩
      have hr : ∃ x0 x1 x2, r = [x0, x1, x2] := match r, hlk with
        | [x0, x1, x2], _ => ⟨x0, x1, x2, rfl⟩
      obtain ⟨x0, x1, x2, rfl⟩ := hr
      clear hlk
      have hs_0 : x0.size ≤ maxLen := by have := hsr.out x0 (by simp); unfold maxLen; omega
      have hs_1 : x1.size ≤ maxLen := by have := hsr.out x1 (by simp); unfold maxLen; omega
      have hs_2 : x2.size ≤ maxLen := by have := hsr.out x2 (by simp); unfold maxLen; omega
      have L4 := Lib.hid (HL.out.alloc' W2.heap.size #[.string w0, .int .i64 0, .int .i64 0, .string ⟨#[]⟩] 33 rfl)
      have d0 : ∀ o, (W2.alloc o).cell? ⟨br, 0, none⟩ = some (.string w0) := fun o => ((HL.out.step ((Below.refl _ _).alloc (Nat.le_refl _) o)).cell 0 rfl 0).trans (Hcs.out 0 w0 rfl)
      have d1 : (W2.alloc (.cells #[.string w0, .int .i64 0, .int .i64 0, .string ⟨#[]⟩] 33)).cell? ⟨br, 1, none⟩ = some (.string x0) := (L4.out.cell 1 rfl 1).trans (Hcs.out 1 x0 rfl)
      have d2 : (W2.alloc (.cells #[.string w0, .int .i64 0, .int .i64 0, .string ⟨#[]⟩] 33)).cell? ⟨br, 2, none⟩ = some (.string x1) := (L4.out.cell 1 rfl 2).trans (Hcs.out 2 x1 rfl)
      have d3 : (W2.alloc (.cells #[.string w0, .int .i64 0, .int .i64 0, .string ⟨#[]⟩] 33)).cell? ⟨br, 3, none⟩ = some (.string x2) := (L4.out.cell 1 rfl 3).trans (Hcs.out 3 x2 rfl)
      obtain ⟨n0, n1, n2, n3⟩ := L4.out.c4 0 rfl
      have fz1 := L4.out.frozen 0 rfl 1
      go_wp2_with fail
      refine (natural_any x0 999 _ hs_0).mono ?_
      rintro e W5 ⟨rfl, rfl⟩
      have L5 := Lib.hid (L4.out.set 0 rfl 1 (.int .i64 (natM x0 999)))
      generalize hW4 : W2.alloc (.cells #[.string w0, .int .i64 0, .int .i64 0, .string ⟨#[]⟩] 33) = W4 at *
      clear hW4
      obtain ⟨m0, m1, m2, m3⟩ := L5.out.c4 0 rfl
      have e2 : (W4.setCell ⟨W2.heap.size, 1, none⟩ (.int .i64 (natM x0 999))).cell? ⟨br, 2, none⟩ = some (.string x1) := (L5.out.cell 1 rfl 2).trans (Hcs.out 2 x1 rfl)
      have e3 : (W4.setCell ⟨W2.heap.size, 1, none⟩ (.int .i64 (natM x0 999))).cell? ⟨br, 3, none⟩ = some (.string x2) := (L5.out.cell 1 rfl 3).trans (Hcs.out 3 x2 rfl)
      have fz2 := L5.out.frozen 0 rfl 2
      go_wp2_with fail
      refine (natural_any x1 999 _ hs_1).mono ?_
      rintro e W6 ⟨rfl, rfl⟩
      have L6 := Lib.hid (L5.out.set 0 rfl 2 (.int .i64 (natM x1 999)))
      generalize hW5 : W4.setCell ⟨W2.heap.size, 1, none⟩ (.int .i64 (natM x0 999)) = W5 at *
      clear hW5
      obtain ⟨l0, l1, l2, l3⟩ := L6.out.c4 0 rfl
      have q3 : (W5.setCell ⟨W2.heap.size, 2, none⟩ (.int .i64 (natM x1 999))).cell? ⟨br, 3, none⟩ = some (.string x2) := (L6.out.cell 1 rfl 3).trans (Hcs.out 3 x2 rfl)
      have fz3 := L6.out.frozen 0 rfl 3
      have L7 := Lib.hid (L6.out.set 0 rfl 3 (.string x2))
      have q4 : ((W5.setCell ⟨W2.heap.size, 2, none⟩ (.int .i64 (natM x1 999))).setCell ⟨W2.heap.size, 3, none⟩ (.string x2)).cell? ⟨br, 3, none⟩ = some (.string x2) := (L7.out.cell 1 rfl 3).trans (Hcs.out 3 x2 rfl)
      rcases Bool.eq_false_or_eq_true x2.toList.isEmpty with he | he
      · obtain rfl := Ho.out.symm.trans (rparseW_emp hk rfl he)
        obtain ⟨j0, j1, j2, j3⟩ := L7.out.c4 2 rfl
        obtain ⟨g0, g1, g2, g3⟩ : _ ∧ _ ∧ _ ∧ _ := ⟨L7.out.frozen 2 rfl 0, L7.out.frozen 2 rfl 1, L7.out.frozen 2 rfl 2, L7.out.frozen 2 rfl 3⟩
        go_wp2
        have LF := L7.out.put4 2 rfl (.string ⟨#[]⟩) (.int .i64 0) (.int .i64 0) (.string ⟨#[]⟩)
        exact bodyPost_ret (rstp_results rfl rfl rfl (LF.at_ 2 rfl)) rfl ⟨rfl, LF.below⟩
      rcases Bool.eq_false_or_eq_true (x2.toList == [45]) with hq | hq
      · have L8 := Lib.hid (L7.out.set 0 rfl 3 (.string ⟨#[]⟩))
        have fz4 := L7.out.frozen 0 rfl 3
        obtain ⟨o0, o1, o2, o3⟩ := L8.out.c4 0 rfl
        obtain ⟨s0, s1, s2, s3⟩ := L7.out.c4 0 rfl
        have hdp : dataP x2 = ⟨#[]⟩ := by unfold dataP; rw [hq]; rfl
        have hdm : (⟨w0, natM x0 999, natM x1 999, ⟨#[]⟩⟩ : Stp).data.size ≤ maxLen := by
          show (⟨#[]⟩ : ByteArray).size ≤ maxLen
          decide
        have hst : rstageZ w0 [x0, x1, x2] 3 = ⟨w0, natM x0 999, natM x1 999, ⟨#[]⟩⟩ := by
          rw [← hdp]; rfl
        have hem : (decide (3 ≤ 3) && (([x0, x1, x2] : List ByteArray).getD 2 ⟨#[]⟩).toList.isEmpty) = false := by
          show (true && x2.toList.isEmpty) = false
          rw [he]; rfl
        have Hch := Lib.hid (fun w hs hd => rfault_any (⟨w0, natM x0 999, natM x1 999, ⟨#[]⟩⟩) w hs hd)
        by_cases hc : checkM (⟨w0, natM x0 999, natM x1 999, ⟨#[]⟩⟩) = 0
        · obtain rfl := Ho.out.symm.trans ((rparseW_ok hk rfl hem (by rw [hst]; exact hc)).trans (congrArg some hst))
          go_wp2_with fail
          refine (Hch.out _ hm0 hdm).mono ?_
          rintro e W9 ⟨rfl, hb9⟩
          rw [hc]
          have L9 := Lib.hid (L8.out.step hb9)
          obtain ⟨k0, k1, k2, k3⟩ := L9.out.c4 0 rfl
          obtain ⟨j0, j1, j2, j3⟩ := L9.out.c4 2 rfl
          obtain ⟨g0, g1, g2, g3⟩ : _ ∧ _ ∧ _ ∧ _ := ⟨L9.out.frozen 2 rfl 0, L9.out.frozen 2 rfl 1, L9.out.frozen 2 rfl 2, L9.out.frozen 2 rfl 3⟩
          go_wp2
          have LF := L9.out.put4 2 rfl (.string (⟨w0, natM x0 999, natM x1 999, ⟨#[]⟩⟩ : Stp).word) (.int .i64 (⟨w0, natM x0 999, natM x1 999, ⟨#[]⟩⟩ : Stp).a) (.int .i64 (⟨w0, natM x0 999, natM x1 999, ⟨#[]⟩⟩ : Stp).b) (.string (⟨w0, natM x0 999, natM x1 999, ⟨#[]⟩⟩ : Stp).data)
          exact bodyPost_ret (rstp_results rfl rfl rfl (LF.at_ 2 rfl)) rfl ⟨rfl, LF.below⟩
        · obtain rfl := Ho.out.symm.trans (rparseW_bad hk rfl (by rw [hst]; exact hc))
          have hpos : (0 : Int) < (checkM (⟨w0, natM x0 999, natM x1 999, ⟨#[]⟩⟩) : Int) := by omega
          go_wp2_with fail
          refine (Hch.out _ hm0 hdm).mono ?_
          rintro e W9 ⟨rfl, hb9⟩
          have L9 := Lib.hid (L8.out.step hb9)
          obtain ⟨j0, j1, j2, j3⟩ := L9.out.c4 2 rfl
          obtain ⟨g0, g1, g2, g3⟩ : _ ∧ _ ∧ _ ∧ _ := ⟨L9.out.frozen 2 rfl 0, L9.out.frozen 2 rfl 1, L9.out.frozen 2 rfl 2, L9.out.frozen 2 rfl 3⟩
          go_wp2
          have LF := L9.out.put4 2 rfl (.string ⟨#[]⟩) (.int .i64 0) (.int .i64 0) (.string ⟨#[]⟩)
          exact bodyPost_ret (rstp_results rfl rfl rfl (LF.at_ 2 rfl)) rfl ⟨rfl, LF.below⟩
      · have hdp : dataP x2 = x2 := by unfold dataP; rw [hq]; rfl
        have hdm : (⟨w0, natM x0 999, natM x1 999, x2⟩ : Stp).data.size ≤ maxLen := hs_2
        obtain ⟨s0, s1, s2, s3⟩ := L7.out.c4 0 rfl
        have hst : rstageZ w0 [x0, x1, x2] 3 = ⟨w0, natM x0 999, natM x1 999, x2⟩ := by
          show (⟨w0, natM x0 999, natM x1 999, dataP x2⟩ : Stp) = _
          rw [hdp]
        have hem : (decide (3 ≤ 3) && (([x0, x1, x2] : List ByteArray).getD 2 ⟨#[]⟩).toList.isEmpty) = false := by
          show (true && x2.toList.isEmpty) = false
          rw [he]; rfl
        have Hch := Lib.hid (fun w hs hd => rfault_any (⟨w0, natM x0 999, natM x1 999, x2⟩) w hs hd)
        by_cases hc : checkM (⟨w0, natM x0 999, natM x1 999, x2⟩) = 0
        · obtain rfl := Ho.out.symm.trans ((rparseW_ok hk rfl hem (by rw [hst]; exact hc)).trans (congrArg some hst))
          go_wp2_with fail
          refine (Hch.out _ hm0 hdm).mono ?_
          rintro e W9 ⟨rfl, hb9⟩
          rw [hc]
          have L9 := Lib.hid (L7.out.step hb9)
          obtain ⟨k0, k1, k2, k3⟩ := L9.out.c4 0 rfl
          obtain ⟨j0, j1, j2, j3⟩ := L9.out.c4 2 rfl
          obtain ⟨g0, g1, g2, g3⟩ : _ ∧ _ ∧ _ ∧ _ := ⟨L9.out.frozen 2 rfl 0, L9.out.frozen 2 rfl 1, L9.out.frozen 2 rfl 2, L9.out.frozen 2 rfl 3⟩
          go_wp2
          have LF := L9.out.put4 2 rfl (.string (⟨w0, natM x0 999, natM x1 999, x2⟩ : Stp).word) (.int .i64 (⟨w0, natM x0 999, natM x1 999, x2⟩ : Stp).a) (.int .i64 (⟨w0, natM x0 999, natM x1 999, x2⟩ : Stp).b) (.string (⟨w0, natM x0 999, natM x1 999, x2⟩ : Stp).data)
          exact bodyPost_ret (rstp_results rfl rfl rfl (LF.at_ 2 rfl)) rfl ⟨rfl, LF.below⟩
        · obtain rfl := Ho.out.symm.trans (rparseW_bad hk rfl (by rw [hst]; exact hc))
          have hpos : (0 : Int) < (checkM (⟨w0, natM x0 999, natM x1 999, x2⟩) : Int) := by omega
          go_wp2_with fail
          refine (Hch.out _ hm0 hdm).mono ?_
          rintro e W9 ⟨rfl, hb9⟩
          have L9 := Lib.hid (L7.out.step hb9)
          obtain ⟨j0, j1, j2, j3⟩ := L9.out.c4 2 rfl
          obtain ⟨g0, g1, g2, g3⟩ : _ ∧ _ ∧ _ ∧ _ := ⟨L9.out.frozen 2 rfl 0, L9.out.frozen 2 rfl 1, L9.out.frozen 2 rfl 2, L9.out.frozen 2 rfl 3⟩
          go_wp2
          have LF := L9.out.put4 2 rfl (.string ⟨#[]⟩) (.int .i64 0) (.int .i64 0) (.string ⟨#[]⟩)
          exact bodyPost_ret (rstp_results rfl rfl rfl (LF.at_ 2 rfl)) rfl ⟨rfl, LF.below⟩
end Go.Proofs.YtecnpdkoodfemaaDoor
