/- Closed facts on the program's types, and the words in which the contracts are said. script.form, the reference's formOf: which parts a step of that word has. gen_form.py prints this text. -/
import Derived.Test.YtinknleckppciaaGreatDoorRows
import Derived.WalkKit
import Derived.WalkLawsBesides
import Derived.WalkSpells
import Derived.Lib.Hide
import Derived.WideLaws
import Derived.LaidEql
import Derived.Deep.QuietTactic
import Derived.BigQuiet
import Derived.Deep.RegionWith
import Derived.Maps.OwnSet
import Derived.Maps.StringElems
namespace Go.Proofs.YtinknleckppciaaGreatDoor
open Go.RowKit

theorem errIface : Tryz.prog.underlying 30 = some (.interface (Tryz.prog.methodsAt 30)) := by kernel_rfl
@[go_sem] theorem err_held_nil (u : TypeId) (x : Value) (w : World) : (binOp .eql 30 (.iface u x) .nilIface).run Tryz.prog w = .ok (.bool false) w := run_eql_held_nil _ _ _ _ errIface
@[go_sem] theorem err_held_nil' (u : TypeId) (x : Value) (w : World) : (binOp .neq 30 (.iface u x) .nilIface).run Tryz.prog w = .ok (.bool true) w := run_neq_held_nil _ _ _ _ errIface
@[go_sem] theorem err_nil_nil (w : World) : (binOp .eql 30 .nilIface .nilIface).run Tryz.prog w = .ok (.bool true) w := run_eql_nil_nil _ _ errIface
@[go_sem] theorem err_nil_nil' (w : World) : (binOp .neq 30 .nilIface .nilIface).run Tryz.prog w = .ok (.bool false) w := run_neq_nil_nil _ _ errIface
@[go_sem] theorem err_assert (x : Value) (w : World) : (Instr.typeAssert (.iface 62 x) 30 62 true).run Tryz.prog w = .ok (.tuple #[x, .bool true]) w := by kernel_rfl

abbrev spanV (f m : Int) : Value := .agg #[.int .i64 f, .int .i64 m]
def errV (n : Nat) : Value := if n = 0 then .nilIface else .iface 62 (.int .i64 n)
theorem errV_zero : errV 0 = .nilIface := rfl
theorem errV_pos {n : Nat} (h : n ≠ 0) : errV n = .iface 62 (.int .i64 n) := if_neg h
@[go_sem] theorem errV_eql (n : Nat) (w : World) : (binOp .eql 30 (errV n) .nilIface).run Tryz.prog w = .ok (.bool (n == 0)) w := by
  by_cases h : n = 0
  · subst h; exact err_nil_nil w
  · rw [errV_pos h, err_held_nil]; simp [h]
@[go_sem] theorem errV_neq (n : Nat) (w : World) : (binOp .neq 30 (errV n) .nilIface).run Tryz.prog w = .ok (.bool (!(n == 0))) w := by
  by_cases h : n = 0
  · subst h; exact err_nil_nil' w
  · rw [errV_pos h, err_held_nil']; simp [h]

@[go_sem] theorem eqGuard_err (t : TypeId) (x : Operand) (n : Nat) : eqGuard .eql t x (.const .nilIface) (errV n) .nilIface = pure () := by
  by_cases h : n = 0
  · subst h; rw [errV_zero]; simp [eqGuard]
  · rw [errV_pos h]; simp [eqGuard]
@[go_sem] theorem eqGuard_err' (t : TypeId) (x : Operand) (n : Nat) : eqGuard .neq t x (.const .nilIface) (errV n) .nilIface = pure () := by
  by_cases h : n = 0
  · subst h; rw [errV_zero]; simp [eqGuard]
  · rw [errV_pos h]; simp [eqGuard]

/-- It returns v, and writes nothing that was there. -/
def Ret (v : Value) (w : World) : Ending → World → Prop := fun e w' => e = .returned v ∧ Below w.heap.size w w'
/-- It returns v, and the world is as it was. -/
def RetSame (v : Value) (w : World) : Ending → World → Prop := fun e w' => e = .returned v ∧ w = w'
theorem RetSame.ret {v : Value} {w : World} {e : Ending} {w' : World} (h : RetSame v w e w') : Ret v w e w' := by
  obtain ⟨rfl, rfl⟩ := h; exact ⟨rfl, Below.refl _ _⟩
end Go.Proofs.YtinknleckppciaaGreatDoor
namespace Go.Proofs.YtinknleckppciaaGreatDoor
set_option linter.unusedSimpArgs false
set_option linter.unusedVariables false
open Go.RowKit Go.Maps Go.WideShapes Go.WideMaps Go.WideElems

/-- How many parts a word has: 1: A; 2: A, B; 3: A, B, Data. -/
def formW : List (List UInt8 × Nat) := [([98, 117, 115, 121], 0), ([99, 108, 101, 97, 110], 0), ([99, 114, 97, 115, 104], 1), ([100, 105, 114, 116, 121], 0), ([100, 105, 115, 112, 97, 116, 99, 104], 0), ([101, 110, 100], 1), ([102, 97, 117, 108, 116], 1), ([103, 111, 116], 1), ([113, 117, 101, 117, 101], 0), ([114, 101, 97, 100], 2), ([114, 111, 117, 110, 100], 0), ([115, 101, 116, 116, 108, 101], 1), ([115, 121, 110, 99], 1), ([116, 105, 99, 107], 0), ([119, 114, 105, 116, 101], 3)]
def formK (s : ByteArray) : Option Nat := (formW.find? fun p => p.1 == s.toList).map (·.2)
def formS (k : Nat) : List UInt8 := if k = 0 then [] else if k = 1 then [97] else if k = 2 then [97, 98] else [97, 98, 100]
def formT (s : ByteArray) : Value := match formK s with
  | some k => .tuple #[.string ⟨(formS k).toArray⟩, .bool true]
  | none => .tuple #[.string ⟨#[]⟩, .bool false]
theorem formK_le {s : ByteArray} {k : Nat} (h : formK s = some k) : k ≤ 3 := by
  unfold formK at h
  cases hf : formW.find? (fun p => p.1 == s.toList) with
  | none => rw [hf] at h; cases h
  | some p =>
    rw [hf] at h
    obtain rfl := Option.some.inj h
    have hm := List.mem_of_find?_eq_some hf
    revert hm
    generalize p = q
    revert q
    decide

theorem strLaw : Keyed Tryz.prog 9 := string_keyed Tryz.underlying9
def formD : DataW Unit := .map (formW.map fun p => (.string p.1, .lit (.string (formS p.2))))
theorem has_form (l : List (List UInt8 × Nat)) (x : List UInt8) : has (.map (l.map fun p => (.string p.1, (.lit (.string (formS p.2)) : DataW Unit)))) (.string x) = ((l.find? fun p => p.1 == x).map (·.2)).isSome := by
  rw [has_eq]
  induction l with
  | nil => rfl
  | cons p l ih =>
    rw [List.map_cons, List.any_cons, ih, List.find?_cons]
    have e : (Lit.string p.1).sameKey (.string x) = (p.1 == x) := rfl
    rw [e]
    cases (p.1 == x) <;> rfl
theorem at_form (l : List (List UInt8 × Nat)) (x : List UInt8) (z : DataW Unit) : (DataW.map (l.map fun p => (.string p.1, (.lit (.string (formS p.2)) : DataW Unit)))).atKey (.string x) z = match (l.find? fun p => p.1 == x).map (·.2) with | some k => .lit (.string (formS k)) | none => z := by
  have e0 : ∀ es : List (Lit × DataW Unit), (DataW.map es).atKey (.string x) z = match es.find? (fun p => p.1.sameKey (.string x)) with | some p => p.2 | none => z := by
    intro es
    unfold DataW.atKey
    simp only []
    cases es.find? (fun p => p.1.sameKey (.string x)) <;> rfl
  rw [e0]
  induction l with
  | nil => rfl
  | cons p l ih =>
    rw [List.map_cons, List.find?_cons, List.find?_cons]
    have e : (Lit.string p.1).sameKey (.string x) = (p.1 == x) := rfl
    rw [e]
    cases (p.1 == x)
    · exact ih
    · rfl

set_option maxRecDepth 100000 in
theorem form_any (s : ByteArray) (w : World) (hs : s.size ≤ maxLen) : Calls Tryz.prog 33 #[.string s] w (Ret (formT s) w) := by
  have z9 : ∀ w, (zeroValue 9).run Tryz.prog w = .ok (.string ⟨#[]⟩) w := fun w => by kernel_rfl
  have hmm := @run_makeMap Tryz.prog
  have hb0 : Below w.heap.size w (w.alloc (.map #[] 0)) := (Below.refl _ _).alloc (Nat.le_refl _) _
  have g0 := World.ownsMap_made (H := Unit) w Tryz.prog 9 (plainElem Tryz.prog 9)
  generalize hw0 : w.alloc (.map #[] 0) = w0 at hb0 g0
  have k0 : keyOf Tryz.prog 9 (.string ⟨#[114, 101, 97, 100]⟩) = some (.string [114, 101, 97, 100]) := keyOf_string_mk (s := ⟨#[114, 101, 97, 100]⟩) Tryz.underlying9 (by decide)
  have e0 : plainElem (H := Unit) Tryz.prog 9 (.string ⟨#[97, 98]⟩) = some (.lit (.string [97, 98]), []) := plainElem_string (s := ⟨#[97, 98]⟩) Tryz.underlying9 (by decide)
  obtain ⟨w1, r1, g1, t1⟩ := g0.update strLaw Tryz.underlying115 (by decide) k0 e0
  have hb1 : Below w.heap.size w w1 := hb0.grown t1 hb0.size (fun j hj => by cases hj; exact Nat.le_refl _)
  clear t1
  have k1 : keyOf Tryz.prog 9 (.string ⟨#[119, 114, 105, 116, 101]⟩) = some (.string [119, 114, 105, 116, 101]) := keyOf_string_mk (s := ⟨#[119, 114, 105, 116, 101]⟩) Tryz.underlying9 (by decide)
  have e1 : plainElem (H := Unit) Tryz.prog 9 (.string ⟨#[97, 98, 100]⟩) = some (.lit (.string [97, 98, 100]), []) := plainElem_string (s := ⟨#[97, 98, 100]⟩) Tryz.underlying9 (by decide)
  obtain ⟨w2, r2, g2, t2⟩ := g1.update strLaw Tryz.underlying115 (by decide) k1 e1
  have hb2 : Below w.heap.size w w2 := hb1.grown t2 hb1.size (fun j hj => by cases hj; exact Nat.le_refl _)
  clear t2
  have k2 : keyOf Tryz.prog 9 (.string ⟨#[115, 121, 110, 99]⟩) = some (.string [115, 121, 110, 99]) := keyOf_string_mk (s := ⟨#[115, 121, 110, 99]⟩) Tryz.underlying9 (by decide)
  have e2 : plainElem (H := Unit) Tryz.prog 9 (.string ⟨#[97]⟩) = some (.lit (.string [97]), []) := plainElem_string (s := ⟨#[97]⟩) Tryz.underlying9 (by decide)
  obtain ⟨w3, r3, g3, t3⟩ := g2.update strLaw Tryz.underlying115 (by decide) k2 e2
  have hb3 : Below w.heap.size w w3 := hb2.grown t3 hb2.size (fun j hj => by cases hj; exact Nat.le_refl _)
  clear t3
  have k3 : keyOf Tryz.prog 9 (.string ⟨#[103, 111, 116]⟩) = some (.string [103, 111, 116]) := keyOf_string_mk (s := ⟨#[103, 111, 116]⟩) Tryz.underlying9 (by decide)
  have e3 : plainElem (H := Unit) Tryz.prog 9 (.string ⟨#[97]⟩) = some (.lit (.string [97]), []) := plainElem_string (s := ⟨#[97]⟩) Tryz.underlying9 (by decide)
  obtain ⟨w4, r4, g4, t4⟩ := g3.update strLaw Tryz.underlying115 (by decide) k3 e3
  have hb4 : Below w.heap.size w w4 := hb3.grown t4 hb3.size (fun j hj => by cases hj; exact Nat.le_refl _)
  clear t4
  have k4 : keyOf Tryz.prog 9 (.string ⟨#[116, 105, 99, 107]⟩) = some (.string [116, 105, 99, 107]) := keyOf_string_mk (s := ⟨#[116, 105, 99, 107]⟩) Tryz.underlying9 (by decide)
  have e4 : plainElem (H := Unit) Tryz.prog 9 (.string ⟨#[]⟩) = some (.lit (.string []), []) := plainElem_string (s := ⟨#[]⟩) Tryz.underlying9 (by decide)
  obtain ⟨w5, r5, g5, t5⟩ := g4.update strLaw Tryz.underlying115 (by decide) k4 e4
  have hb5 : Below w.heap.size w w5 := hb4.grown t5 hb4.size (fun j hj => by cases hj; exact Nat.le_refl _)
  clear t5
  have k5 : keyOf Tryz.prog 9 (.string ⟨#[99, 108, 101, 97, 110]⟩) = some (.string [99, 108, 101, 97, 110]) := keyOf_string_mk (s := ⟨#[99, 108, 101, 97, 110]⟩) Tryz.underlying9 (by decide)
  have e5 : plainElem (H := Unit) Tryz.prog 9 (.string ⟨#[]⟩) = some (.lit (.string []), []) := plainElem_string (s := ⟨#[]⟩) Tryz.underlying9 (by decide)
  obtain ⟨w6, r6, g6, t6⟩ := g5.update strLaw Tryz.underlying115 (by decide) k5 e5
  have hb6 : Below w.heap.size w w6 := hb5.grown t6 hb5.size (fun j hj => by cases hj; exact Nat.le_refl _)
  clear t6
  have k6 : keyOf Tryz.prog 9 (.string ⟨#[100, 105, 115, 112, 97, 116, 99, 104]⟩) = some (.string [100, 105, 115, 112, 97, 116, 99, 104]) := keyOf_string_mk (s := ⟨#[100, 105, 115, 112, 97, 116, 99, 104]⟩) Tryz.underlying9 (by decide)
  have e6 : plainElem (H := Unit) Tryz.prog 9 (.string ⟨#[]⟩) = some (.lit (.string []), []) := plainElem_string (s := ⟨#[]⟩) Tryz.underlying9 (by decide)
  obtain ⟨w7, r7, g7, t7⟩ := g6.update strLaw Tryz.underlying115 (by decide) k6 e6
  have hb7 : Below w.heap.size w w7 := hb6.grown t7 hb6.size (fun j hj => by cases hj; exact Nat.le_refl _)
  clear t7
  have k7 : keyOf Tryz.prog 9 (.string ⟨#[101, 110, 100]⟩) = some (.string [101, 110, 100]) := keyOf_string_mk (s := ⟨#[101, 110, 100]⟩) Tryz.underlying9 (by decide)
  have e7 : plainElem (H := Unit) Tryz.prog 9 (.string ⟨#[97]⟩) = some (.lit (.string [97]), []) := plainElem_string (s := ⟨#[97]⟩) Tryz.underlying9 (by decide)
  obtain ⟨w8, r8, g8, t8⟩ := g7.update strLaw Tryz.underlying115 (by decide) k7 e7
  have hb8 : Below w.heap.size w w8 := hb7.grown t8 hb7.size (fun j hj => by cases hj; exact Nat.le_refl _)
  clear t8
  have k8 : keyOf Tryz.prog 9 (.string ⟨#[102, 97, 117, 108, 116]⟩) = some (.string [102, 97, 117, 108, 116]) := keyOf_string_mk (s := ⟨#[102, 97, 117, 108, 116]⟩) Tryz.underlying9 (by decide)
  have e8 : plainElem (H := Unit) Tryz.prog 9 (.string ⟨#[97]⟩) = some (.lit (.string [97]), []) := plainElem_string (s := ⟨#[97]⟩) Tryz.underlying9 (by decide)
  obtain ⟨w9, r9, g9, t9⟩ := g8.update strLaw Tryz.underlying115 (by decide) k8 e8
  have hb9 : Below w.heap.size w w9 := hb8.grown t9 hb8.size (fun j hj => by cases hj; exact Nat.le_refl _)
  clear t9
  have k9 : keyOf Tryz.prog 9 (.string ⟨#[114, 111, 117, 110, 100]⟩) = some (.string [114, 111, 117, 110, 100]) := keyOf_string_mk (s := ⟨#[114, 111, 117, 110, 100]⟩) Tryz.underlying9 (by decide)
  have e9 : plainElem (H := Unit) Tryz.prog 9 (.string ⟨#[]⟩) = some (.lit (.string []), []) := plainElem_string (s := ⟨#[]⟩) Tryz.underlying9 (by decide)
  obtain ⟨w10, r10, g10, t10⟩ := g9.update strLaw Tryz.underlying115 (by decide) k9 e9
  have hb10 : Below w.heap.size w w10 := hb9.grown t10 hb9.size (fun j hj => by cases hj; exact Nat.le_refl _)
  clear t10
  have k10 : keyOf Tryz.prog 9 (.string ⟨#[115, 101, 116, 116, 108, 101]⟩) = some (.string [115, 101, 116, 116, 108, 101]) := keyOf_string_mk (s := ⟨#[115, 101, 116, 116, 108, 101]⟩) Tryz.underlying9 (by decide)
  have e10 : plainElem (H := Unit) Tryz.prog 9 (.string ⟨#[97]⟩) = some (.lit (.string [97]), []) := plainElem_string (s := ⟨#[97]⟩) Tryz.underlying9 (by decide)
  obtain ⟨w11, r11, g11, t11⟩ := g10.update strLaw Tryz.underlying115 (by decide) k10 e10
  have hb11 : Below w.heap.size w w11 := hb10.grown t11 hb10.size (fun j hj => by cases hj; exact Nat.le_refl _)
  clear t11
  have k11 : keyOf Tryz.prog 9 (.string ⟨#[113, 117, 101, 117, 101]⟩) = some (.string [113, 117, 101, 117, 101]) := keyOf_string_mk (s := ⟨#[113, 117, 101, 117, 101]⟩) Tryz.underlying9 (by decide)
  have e11 : plainElem (H := Unit) Tryz.prog 9 (.string ⟨#[]⟩) = some (.lit (.string []), []) := plainElem_string (s := ⟨#[]⟩) Tryz.underlying9 (by decide)
  obtain ⟨w12, r12, g12, t12⟩ := g11.update strLaw Tryz.underlying115 (by decide) k11 e11
  have hb12 : Below w.heap.size w w12 := hb11.grown t12 hb11.size (fun j hj => by cases hj; exact Nat.le_refl _)
  clear t12
  have k12 : keyOf Tryz.prog 9 (.string ⟨#[98, 117, 115, 121]⟩) = some (.string [98, 117, 115, 121]) := keyOf_string_mk (s := ⟨#[98, 117, 115, 121]⟩) Tryz.underlying9 (by decide)
  have e12 : plainElem (H := Unit) Tryz.prog 9 (.string ⟨#[]⟩) = some (.lit (.string []), []) := plainElem_string (s := ⟨#[]⟩) Tryz.underlying9 (by decide)
  obtain ⟨w13, r13, g13, t13⟩ := g12.update strLaw Tryz.underlying115 (by decide) k12 e12
  have hb13 : Below w.heap.size w w13 := hb12.grown t13 hb12.size (fun j hj => by cases hj; exact Nat.le_refl _)
  clear t13
  have k13 : keyOf Tryz.prog 9 (.string ⟨#[100, 105, 114, 116, 121]⟩) = some (.string [100, 105, 114, 116, 121]) := keyOf_string_mk (s := ⟨#[100, 105, 114, 116, 121]⟩) Tryz.underlying9 (by decide)
  have e13 : plainElem (H := Unit) Tryz.prog 9 (.string ⟨#[]⟩) = some (.lit (.string []), []) := plainElem_string (s := ⟨#[]⟩) Tryz.underlying9 (by decide)
  obtain ⟨w14, r14, g14, t14⟩ := g13.update strLaw Tryz.underlying115 (by decide) k13 e13
  have hb14 : Below w.heap.size w w14 := hb13.grown t14 hb13.size (fun j hj => by cases hj; exact Nat.le_refl _)
  clear t14
  have k14 : keyOf Tryz.prog 9 (.string ⟨#[99, 114, 97, 115, 104]⟩) = some (.string [99, 114, 97, 115, 104]) := keyOf_string_mk (s := ⟨#[99, 114, 97, 115, 104]⟩) Tryz.underlying9 (by decide)
  have e14 : plainElem (H := Unit) Tryz.prog 9 (.string ⟨#[97]⟩) = some (.lit (.string [97]), []) := plainElem_string (s := ⟨#[97]⟩) Tryz.underlying9 (by decide)
  obtain ⟨w15, r15, g15, t15⟩ := g14.update strLaw Tryz.underlying115 (by decide) k14 e14
  have hb15 : Below w.heap.size w w15 := hb14.grown t15 hb14.size (fun j hj => by cases hj; exact Nat.le_refl _)
  clear t15
  have hD : (((((((((((((((((DataW.map []).put (.string [114, 101, 97, 100]) (.lit (.string [97, 98]))).put (.string [119, 114, 105, 116, 101]) (.lit (.string [97, 98, 100]))).put (.string [115, 121, 110, 99]) (.lit (.string [97]))).put (.string [103, 111, 116]) (.lit (.string [97]))).put (.string [116, 105, 99, 107]) (.lit (.string []))).put (.string [99, 108, 101, 97, 110]) (.lit (.string []))).put (.string [100, 105, 115, 112, 97, 116, 99, 104]) (.lit (.string []))).put (.string [101, 110, 100]) (.lit (.string [97]))).put (.string [102, 97, 117, 108, 116]) (.lit (.string [97]))).put (.string [114, 111, 117, 110, 100]) (.lit (.string []))).put (.string [115, 101, 116, 116, 108, 101]) (.lit (.string [97]))).put (.string [113, 117, 101, 117, 101]) (.lit (.string []))).put (.string [98, 117, 115, 121]) (.lit (.string []))).put (.string [100, 105, 114, 116, 121]) (.lit (.string []))).put (.string [99, 114, 97, 115, 104]) (.lit (.string [97]))) : DataW Unit) = formD := by kernel_rfl
  rw [hD] at g15
  obtain ⟨v, ps, rl, hv⟩ := g15.look_ok strLaw Tryz.underlying115 (z9 w15) (plainElem_string (s := ⟨#[]⟩) Tryz.underlying9 (by decide)) (keyOf_string_mk (s := s) Tryz.underlying9 hs)
  unfold formD at hv rl
  rw [at_form] at hv
  rw [has_form] at rl
  have e : (List.find? (fun p => p.1 == s.data.toList) formW).map (·.2) = formK s := by unfold formK; rw [ByteArray.toList_eq]
  rw [e] at hv rl
  have hfin : (Value.tuple #[v, .bool (formK s).isSome]) = formT s := by
    obtain ⟨s', rfl, e2, _⟩ := plainElem_string_inv Tryz.underlying9 hv
    unfold formT
    cases hk : formK s with
    | none =>
      rw [hk] at e2
      simp only [Prod.mk.injEq, DataW.lit.injEq, Lit.string.injEq] at e2
      have : s' = ⟨#[]⟩ := by cases s'; simp at e2; try simp [e2]
      rw [this]; rfl
    | some k =>
      rw [hk] at e2
      simp only [Prod.mk.injEq, DataW.lit.injEq, Lit.string.injEq] at e2
      have : s' = ⟨(formS k).toArray⟩ := by cases s'; simp at e2; simp [e2.1]
      rw [this]; rfl
  have HF := Lib.hid hfin
  have HB := Lib.hid hb15
  clear hfin hv e
  clear g0 hb0 g1 hb1 g2 hb2 g3 hb3 g4 hb4 g5 hb5 g6 hb6 g7 hb7 g8 hb8 g9 hb9 g10 hb10 g11 hb11 g12 hb12 g13 hb13 g14 hb14 g15 hb15 k0 e0 k1 e1 k2 e2 k3 e3 k4 e4 k5 e5 k6 e6 k7 e7 k8 e8 k9 e9 k10 e10 k11 e11 k12 e12 k13 e13 k14 e14
  go_enter Tryz.func33, Tryz.ntmps33
  go_wp2
  go_ret2
  exact ⟨congrArg Ending.returned HF.out, HB.out⟩

end Go.Proofs.YtinknleckppciaaGreatDoor
