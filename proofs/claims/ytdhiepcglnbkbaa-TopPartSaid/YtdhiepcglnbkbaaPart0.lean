
/- request.Part. -/
import Derived.Test.YtdhiepcglnbkbaaChg
import Derived.Test.YtdhiepcglnbkbaaSpan
import Derived.Test.YtdhiepcglnbkbaaSpan2
namespace Go.Proofs.Ytdhiepcglnbkbaa
set_option linter.unusedSimpArgs false
set_option linter.unusedVariables false
open Go.RowKit

theorem hasB_iff0 {f m k : Int} : hasB f m k = true ↔ f ≤ k ∧ k - f < m := by unfold hasB; simp
/-- What was read of the sector, and whether it was. -/
def partM (lo many : Int) (data : List ByteArray) (at_ : Int) : ByteArray × Bool :=
  if hasB lo many at_ = true then match data[(at_ - lo).toNat]? with
    | some s => (s, true)
    | none => (⟨#[]⟩, false)
  else (⟨#[]⟩, false)
abbrev resV (r : Rq) (dv tv D : Value) : Value := .agg #[.bool r.write, .int .i64 r.lo, .int .i64 r.many, dv, tv, .int .i64 r.born, D, .int .i64 0]
set_option maxRecDepth 100000 in
set_option maxHeartbeats 2000000 in
theorem part_any (S : Nat → Prop) (r : Rq) (A1 A2 : Option Addr) (n1 c1 n2 c2 : Nat) (D : Value) (dl : List ByteArray) (at_ : Int) (w : World) (hD : StrsAt S w D dl) (h0 : 0 ≤ r.lo) (h1 : r.lo ≤ 40) (h2 : i64 at_) (hl : r.many ≤ 40) :
    Calls Try.prog 56 #[resV r (.slice A1 n1 c1) (.slice A2 n2 c2) D, .int .i64 at_] w (Ret (.tuple #[.string (partM r.lo r.many dl at_).1, .bool (partM r.lo r.many dl at_).2]) w) := by
  obtain ⟨AD, cD, rfl, hd1, hd2⟩ := hD.form
  unfold maxLen at hd2
  have HD := Lib.hid hD
  obtain ⟨h3, h4⟩ := h2
  clear hD
  generalize hp : partM r.lo r.many dl at_ = p
  have Hp := Lib.hid hp
  clear hp
  cases hh : hasB r.lo r.many at_ with
  | false =>
    have e : partM r.lo r.many dl at_ = (⟨#[]⟩, false) := by unfold partM; rw [if_neg (by simp [hh])]
    obtain rfl : p = (⟨#[]⟩, false) := by rw [← Hp.out, e]
    clear e Hp
    go_enter Try.func56, Try.ntmps56
    go_wp2_with fail
    have hb0 := (Below.refl w.heap.size w).alloc (Nat.le_refl _) (Obj.cells #[Value.bool r.write, Value.int IntKind.i64 r.lo, Value.int IntKind.i64 r.many, .slice A1 n1 c1, .slice A2 n2 c2, Value.int IntKind.i64 r.born, Value.slice AD dl.length cD, Value.int IntKind.i64 0] 49)
    generalize World.alloc _ _ = W at hb0 ⊢
    refine (has_any _ _ _ _ h0 h1 h3 h4).mono ?_
    rintro e w1 ⟨rfl, hb1⟩
    rw [hh]
    go_wp2_with fail
    refine bodyPost_ret (v := .tuple #[.string ⟨#[]⟩, .bool false]) (by simp [results, Try.results56, go_sem]) rfl ⟨rfl, hb0.trans (hb1.mono hb0.size)⟩
  | true =>
    have hr := (hasB_iff0).1 hh
    obtain ⟨j, hj⟩ : ∃ j : Nat, at_ - r.lo = j := ⟨(at_ - r.lo).toNat, by omega⟩
    have e : partM r.lo r.many dl at_ = match dl[j]? with | some s => (s, true) | none => (⟨#[]⟩, false) := by unfold partM; rw [if_pos hh, hj]; rfl
    have hwj : IntKind.i64.wrap (at_ - r.lo) = (j : Int) := by rw [hj]; exact IntWalk.i64_in _ (by omega)
    clear hj
    by_cases hlt : j < dl.length
    · have hx : dl[j]? = some dl[j] := List.getElem?_eq_getElem hlt
      obtain rfl : p = (dl[j], true) := by rw [← Hp.out, e, hx]
      obtain ⟨b, off, rfl, _, hbl, hc⟩ := HD.out.at_ (by omega)
      obtain ⟨hcell, _⟩ := hc j _ hx
      generalize dl[j] = s at *
      clear e Hp hx hc
      have hj1 : decide ((dl.length : Int) ≤ (j : Int)) = false := decide_eq_false (by omega)
      have hj2 : (j : Int) < (dl.length : Int) := by omega
      go_enter Try.func56, Try.ntmps56
      go_wp2_with fail
      have L := (Lay.refl w).alloc' w.heap.size #[Value.bool r.write, Value.int IntKind.i64 r.lo, Value.int IntKind.i64 r.many, .slice A1 n1 c1, .slice A2 n2 c2, Value.int IntKind.i64 r.born, Value.slice (some ⟨b, off, none⟩) dl.length cD, Value.int IntKind.i64 0] 49 rfl
      have hcW := cell_b (((Below.refl w.heap.size w).alloc (Nat.le_refl _) (Obj.cells #[Value.bool r.write, Value.int IntKind.i64 r.lo, Value.int IntKind.i64 r.many, .slice A1 n1 c1, .slice A2 n2 c2, Value.int IntKind.i64 r.born, Value.slice (some ⟨b, off, none⟩) dl.length cD, Value.int IntKind.i64 0] 49))) hcell
      generalize World.alloc _ _ = W at L hcW ⊢
      refine (has_any _ _ _ _ h0 h1 h3 h4).mono ?_
      rintro e w1 ⟨rfl, hb1⟩
      rw [hh]
      have L1 := L.step hb1
      have hc1 := cell_b hb1 hcW
      have c6 : w1.cell? ⟨w.heap.size, 6, none⟩ = some (.slice (some ⟨b, off, none⟩) dl.length cD) := L1.cell 0 rfl 6
      go_wp2_with fail
      refine bodyPost_ret (v := .tuple #[.string s, .bool true]) (by simp [results, Try.results56, go_sem]) rfl ⟨rfl, L1.below⟩
    · obtain rfl : p = (⟨#[]⟩, false) := by rw [← Hp.out, e, List.getElem?_eq_none (by omega)]
      clear e Hp
      have hj1 : decide ((dl.length : Int) ≤ (j : Int)) = true := decide_eq_true (by omega)
      go_enter Try.func56, Try.ntmps56
      go_wp2_with fail
      have L := (Lay.refl w).alloc' w.heap.size #[Value.bool r.write, Value.int IntKind.i64 r.lo, Value.int IntKind.i64 r.many, .slice A1 n1 c1, .slice A2 n2 c2, Value.int IntKind.i64 r.born, Value.slice AD dl.length cD, Value.int IntKind.i64 0] 49 rfl
      generalize World.alloc _ _ = W at L ⊢
      refine (has_any _ _ _ _ h0 h1 h3 h4).mono ?_
      rintro e w1 ⟨rfl, hb1⟩
      rw [hh]
      have L1 := L.step hb1
      have c6 : w1.cell? ⟨w.heap.size, 6, none⟩ = some (.slice AD dl.length cD) := L1.cell 0 rfl 6
      go_wp2_with fail
      refine bodyPost_ret (v := .tuple #[.string ⟨#[]⟩, .bool false]) (by simp [results, Try.results56, go_sem]) rfl ⟨rfl, L1.below⟩

end Go.Proofs.Ytdhiepcglnbkbaa
