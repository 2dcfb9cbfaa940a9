
/- SameTexts, SameNumbers, SameReq, SameReqs: two lists, two requests. -/
import Derived.Test.YtecnpdkoodfemaaDoorMem
import Derived.Test.YtecnpdkoodfemaaDoorQuiet
import Derived.Test.YtecnpdkoodfemaaDoorSpan2
namespace Go.Proofs.YtecnpdkoodfemaaDoor
set_option linter.unusedSimpArgs false
set_option linter.unusedVariables false
open Go.RowKit Go.Sort

theorem take_eq_succ {α : Type} (a b : List α) (k : Nat) (x : α) (h : a.take k = b.take k) (ha : a[k]? = some x) (hb : b[k]? = some x) : a.take (k + 1) = b.take (k + 1) := by
  rw [List.take_add_one, List.take_add_one, h, ha, hb]
theorem take_eq_end {α : Type} (a b : List α) (k : Nat) (h : a.take k = b.take k) (hl : a.length = b.length) (hk : a.length ≤ k) : a = b := by
  rwa [List.take_of_length_le hk, List.take_of_length_le (by omega)] at h
theorem ne_at {α : Type} (a b : List α) (k : Nat) (x y : α) (ha : a[k]? = some x) (hb : b[k]? = some y) (h : x ≠ y) : ¬ a = b := fun e => h (by rw [e, hb] at ha; cases ha; rfl)
theorem str_ne {s t : ByteArray} (h : ¬ s = t) : (!s.toList == t.toList) = true := by
  have : ¬ s.toList = t.toList := fun e => h (by
    rw [ByteArray.toList_eq, ByteArray.toList_eq] at e
    exact Go.WideShapes.bytes_inj e)
  simp [this]
/-- Are the two the same? -/
def eqB {α : Type} [DecidableEq α] (a b : α) : Bool := decide (a = b)
theorem eqB_true {α : Type} [DecidableEq α] {a b : α} (h : a = b) : eqB a b = true := by simp [eqB, h]
theorem eqB_false {α : Type} [DecidableEq α] {a b : α} (h : ¬ a = b) : eqB a b = false := by simp [eqB, h]

set_option maxRecDepth 100000 in
theorem samenumbers_any (S : Nat → Prop) (a b : List Int) (va vb : Value) (w : World) (ha : IntsAt S w va a) (hb : IntsAt S w vb b) :
    Calls Tryd.prog 7 #[va, vb] w (Ret (.bool (eqB a b)) w) := by
  obtain ⟨A, ca, rfl, h1, h2⟩ := ha.form
  obtain ⟨B, cb, rfl, h3, h4⟩ := hb.form
  unfold maxLen at h2 h4
  have Ha := Lib.hid ha
  have Hb := Lib.hid hb
  clear ha hb
  by_cases hn : a.length = b.length
  · have hn' : ((a.length : Int) != (b.length : Int)) = false := by simp [hn]
    go_enter Tryd.func7, Tryd.ntmps7
    go_wp2
    go_loopw [5] (fun i wr => ∃ k : Nat, k ≤ a.length ∧ i = .int .i64 k ∧ Below w.heap.size w wr ∧ Hid (a.take k = b.take k)) (fun i _ => a.length - (intOf i).toNat)
    case atStart => exact ⟨0, by omega, rfl, Below.refl _ _, rfl⟩
    case round =>
      obtain ⟨k, hk, rfl, hw, hall⟩ := hrel
      by_cases hlt : k < a.length
      · obtain ⟨ba, oa, rfl, _, hba, hca⟩ := (Ha.out.below hw).at_ (by omega)
        obtain ⟨bb, ob, rfl, _, hbb, hcb⟩ := (Hb.out.below hw).at_ (by omega)
        have hx : a[k]? = some a[k] := List.getElem?_eq_getElem hlt
        have hy : b[k]? = some (b[k]'(by omega)) := List.getElem?_eq_getElem (by omega)
        have hxc := hca k _ hx
        have hyc := hcb k _ hy
        obtain ⟨hxc, hsx⟩ := hxc
        obtain ⟨hyc, hsy⟩ := hyc
        clear hca hcb
        have Hx := Lib.hid hx
        have Hy := Lib.hid hy
        clear hx hy
        generalize a[k] = s at *
        generalize b[k]'(by omega) = t at *
        have hk1 : (k : Int) < (a.length : Int) := by omega
        have hk2 : (k : Int) < (b.length : Int) := by omega
        by_cases hs : s = t
        · subst hs
          go_wp2_with go_region
          go_roundw
          case rel => exact ⟨k + 1, by omega, by go_num, hw.drew, take_eq_succ _ _ _ _ hall.out Hx.out Hy.out⟩
          case measure => simp [intOf]; omega
        · skip
          go_wp2_with go_region
          go_ret
          exact ⟨by rw [eqB_false (ne_at _ _ _ _ _ Hx.out Hy.out hs)]; rfl, hw.drew⟩
      · go_wp2
        go_ret
        exact ⟨by rw [eqB_true (take_eq_end _ _ _ hall.out hn (by omega))]; rfl, hw⟩
  · have hn' : ((a.length : Int) != (b.length : Int)) = true := by simp; omega
    rw [eqB_false (fun e => hn (by rw [e]))]
    go_enter Tryd.func7, Tryd.ntmps7
    go_wp2
    go_ret
    exact ⟨rfl, Below.refl _ _⟩

section
variable {B : Nat} {w wr w' : World} {x y : Rq} {xd xt yd yt : Value}
end
def sameB (a b : Rq) : Bool := eqB a.data b.data && (eqB a.tags b.tags && (eqB a.write b.write && (eqB a.lo b.lo && (eqB a.many b.many && eqB a.born b.born))))
theorem sameB_true {a b : Rq} : sameB a b = true ↔ a = b := by
  obtain ⟨a1, a2, a3, a4, a5, a6⟩ := a
  obtain ⟨b1, b2, b3, b4, b5, b6⟩ := b
  simp [sameB, eqB]
  constructor
  · rintro ⟨rfl, rfl, rfl, rfl, rfl, rfl⟩; simp
  · rintro ⟨rfl, rfl, rfl, rfl, rfl, rfl⟩; simp
def sameLB : List Rq → List Rq → Bool
  | [], [] => true
  | a :: l, b :: m => sameB a b && sameLB l m
  | _, _ => false
theorem sameLB_true {l m : List Rq} : sameLB l m = true ↔ l = m := by
  induction l generalizing m with
  | nil => cases m <;> simp [sameLB]
  | cons a l ih => cases m <;> simp [sameLB, sameB_true, ih]
theorem sameLB_false {l m : List Rq} (h : ¬ l = m) : sameLB l m = false := by
  rw [← Bool.not_eq_true, sameLB_true]; exact h
end Go.Proofs.YtecnpdkoodfemaaDoor
