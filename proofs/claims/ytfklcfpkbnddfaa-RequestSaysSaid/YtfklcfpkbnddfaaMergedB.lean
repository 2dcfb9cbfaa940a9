/- The reference's Merged: two requests that do not go together. -/
import Derived.Test.YtfklcfpkbnddfaaMerge
import Derived.Test.YtfklcfpkbnddfaaLay
import Derived.Deep.RegionLaw
namespace Go.Proofs.Ytfklcfpkbnddfaa
set_option linter.unusedSimpArgs false
set_option linter.unusedVariables false
open Go.RowKit Go.Sort

theorem cell_below' {w w' : World} {a : Addr} {v : Value} (hb : Below w.heap.size w w') (h : w.cell? a = some v) : w'.cell? a = some v := by
  rw [hb.cell (block_lt_of_cell h)]; exact h
structure PureOk (m : Rq) : Prop where
  data : ∀ s ∈ m.data, s.size ≤ maxLen
  tags : ∀ t ∈ m.tags, -9223372036854775808 ≤ t ∧ t ≤ 9223372036854775807
  lo : i64 m.lo
  many : i64 m.many
  born : i64 m.born
theorem RcOk.pure {S : Nat → Prop} {w : World} {c : Rc} (h : RcOk S w c) : PureOk c.r := ⟨h.data.2, h.tags.2, h.lo, h.many, h.born⟩
theorem ReqAt.pure {S : Nat → Prop} {w : World} {v : Value} {r : Rq} (h : ReqAt S w v r) : PureOk r := by
  obtain ⟨c, rfl, _, hok⟩ := h
  exact hok.pure
/-- What is put together, its lists in rows of the call's own. -/
def CV (o : Option Rq) (base : Nat) : Value → World → Prop := fun v w' => match o with
  | none => v = .agg #[.bool false, .int .i64 0, .int .i64 0, .slice none 0 0, .slice none 0 0, .int .i64 0]
  | some m => PureOk m ∧ ∃ p q, v = .agg #[.bool m.write, .int .i64 m.lo, .int .i64 m.many, p, q, .int .i64 m.born] ∧ w'.ownsRow base 9 1 p m.data.length (m.data.map .string) ∧ w'.ownsRow base 3 1 q m.tags.length (m.tags.map (.int .i64))
theorem CV.req {S : Nat → Prop} {o : Option Rq} {base : Nat} {v : Value} {w : World} (hS : ∀ b, base ≤ b → S b) (h : CV o base v w) : ReqAt S w v (o.getD zeroR) := by
  cases o with
  | none => obtain rfl := h; exact zero_at
  | some m =>
    obtain ⟨hp, p, q, rfl, h1, h2⟩ := h
    exact ⟨⟨m, p, q⟩, rfl, rfl, strs_own hS h1 hp.data, ints_own hS h2 hp.tags, hp.lo, hp.many, hp.born⟩
def RetMergeO (o : Option Rq) (w : World) : Ending → World → Prop := fun E w' => ∃ v, E = .returned (.tuple #[v, .bool o.isSome]) ∧ CV o w.heap.size v w' ∧ Below w.heap.size w w'
theorem reto_none {w w' : World} (h : Below w.heap.size w w') : RetMergeO none w (.returned (.tuple #[.agg #[.bool false, .int .i64 0, .int .i64 0, .slice none 0 0, .slice none 0 0, .int .i64 0], .bool false])) w' :=
  ⟨_, rfl, rfl, h⟩
theorem reto_joined {w w3 u : World} {x y : Rq} (hw3 : w.heap.size ≤ w3.heap.size) (hx : ReqOk x) (hy : ReqOk y) (hxs : ∀ s ∈ x.data, s.size ≤ maxLen) (hys : ∀ s ∈ y.data, s.size ≤ maxLen)
    (hxt : ∀ t ∈ x.tags, -9223372036854775808 ≤ t ∧ t ≤ 9223372036854775807) (hyt : ∀ t ∈ y.tags, -9223372036854775808 ≤ t ∧ t ≤ 9223372036854775807) {p q : Value} (hp : MF65 w3 x y p u) (hq : MF71 w3 x y q u) (hb : Below w.heap.size w u) :
    RetMergeO (some (joinM x y)) w (.returned (.tuple #[.agg #[.bool x.write, .int .i64 x.lo, .int .i64 (x.many + y.many), p, q, .int .i64 (min x.born y.born)], .bool true])) u := by
  obtain ⟨a1, a2, a3, a4, a5⟩ := hx.span
  obtain ⟨b1, b2, b3, b4, b5⟩ := hy.span
  obtain ⟨n1, n2⟩ := hx.born
  obtain ⟨m1, m2⟩ := hy.born
  refine ⟨_, rfl, ⟨⟨?_, ?_, ?_, ?_, ?_⟩, p, q, rfl, ?_, ?_⟩, hb⟩
  · intro s hs
    rcases List.mem_append.1 hs with h | h
    · exact hxs s h
    · exact hys s h
  · intro s hs
    rcases List.mem_append.1 hs with h | h
    · exact hxt s h
    · exact hyt s h
  · show i64 x.lo; unfold i64; omega
  · show i64 (x.many + y.many); unfold i64; omega
  · show i64 (min x.born y.born); unfold i64; omega
  · have : u.ownsRow w.heap.size 9 1 p (x.data.length + y.data.length) (x.data.map .string ++ y.data.map .string) := own_mono hp hw3
    simpa [joinM] using this
  · have : u.ownsRow w.heap.size 3 1 q (x.tags.length + y.tags.length) (x.tags.map (.int .i64) ++ y.tags.map (.int .i64)) := own_mono hq hw3
    simpa [joinM] using this
theorem put6_keep (w : World) (g : Nat) (v0 v1 v2 v3 v4 v5 : Value) : ∀ b, b ≠ g → ((((((w.setCell ⟨g, 0, none⟩ v0).setCell ⟨g, 1, none⟩ v1).setCell ⟨g, 2, none⟩ v2).setCell ⟨g, 3, none⟩ v3).setCell ⟨g, 4, none⟩ v4).setCell ⟨g, 5, none⟩ v5).heap[b]? = w.heap[b]? := by
  intro b hb
  repeat (rw [heap_setCell_other _ _ b _ (by simpa using hb)])
/-- The same place of the list, written anew. -/
theorem Lay.to {w wr : World} {l l' : List (Nat × TypeId × Array Value)} (h : Lay w wr l) (e : l = l') : Lay w wr l' := e ▸ h
theorem zero3 (w : World) (o1 o2 : Obj) (T : TypeId) (k : Nat) : (((w.alloc o1).alloc o2).alloc (Obj.cells #[Value.bool false, Value.int IntKind.i64 0, Value.int IntKind.i64 0, Value.slice none 0 0, Value.slice none 0 0, Value.int IntKind.i64 0] T)).cell? ⟨w.heap.size + 1 + 1, k, none⟩ =
    (#[Value.bool false, Value.int IntKind.i64 0, Value.int IntKind.i64 0, Value.slice none 0 0, Value.slice none 0 0, Value.int IntKind.i64 0] : Array Value)[k]? := by
  have e : ((w.alloc o1).alloc o2).heap.size = w.heap.size + 1 + 1 := by simp
  rw [← e]
  exact cell_of_row _ _ k _ _ _ (heap_alloc_new _ _)
set_option maxRecDepth 100000 in
set_option maxHeartbeats 8000000 in
theorem rmerge_bad (S : Nat → Prop) (x y : Rq) (vx vy : Value) (args : Array Value) (w : World) (hx : ReqAt S w vx x) (hy : ReqAt S w vy y) (okx : ReqOk x) (oky : ReqOk y) (hk : ¬ joinOk x y)
    (hargs : (args = #[vx, vy] ∧ y.lo + y.many ≠ x.lo) ∨ (args = #[vy, vx] ∧ x.lo + x.many = y.lo)) :
    Calls Try.prog 42 args w (RetMergeO (joinedM x y) w) := by
  obtain ⟨Ad, cd, At, ct, rfl, had, hat, adl, atl, _, _, _⟩ := hx.opened
  obtain ⟨Bd, dd, Bt, dt, rfl, hbd, hbt, bdl, btl, _, _, _⟩ := hy.opened
  obtain ⟨a1, a2, a3, a4, a5⟩ := okx.span
  obtain ⟨b1, b2, b3, b4, b5⟩ := oky.span
  have hsx : IntKind.i64.wrap (x.lo + x.many) = x.lo + x.many := IntWalk.i64_in _ (by omega)
  have hsy : IntKind.i64.wrap (y.lo + y.many) = y.lo + y.many := IntWalk.i64_in _ (by omega)
  have hsum : IntKind.i64.wrap (x.many + y.many) = x.many + y.many := IntWalk.i64_in _ (by omega)
  obtain ⟨t1, t2⟩ := okx.tags
  obtain ⟨t3, t4⟩ := oky.tags
  have htg : IntKind.i64.wrap ((x.tags.length : Int) + (y.tags.length : Int)) = (x.tags.length : Int) + (y.tags.length : Int) := IntWalk.i64_in _ (by omega)
  clear hx hy had hat hbd hbt okx oky
  have hn : joinedM x y = none := by unfold joinedM; rw [if_neg hk]
  have key : ((x.lo + x.many != y.lo) = true) ∨ (x.lo + x.many = y.lo ∧ ((x.write = true ∧ y.write = false) ∨ (x.write = false ∧ y.write = true))) ∨
        (x.lo + x.many = y.lo ∧ y.write = x.write ∧ decide (4 < x.many + y.many) = true) ∨ (x.lo + x.many = y.lo ∧ y.write = x.write ∧ decide (4 < x.many + y.many) = false ∧ decide (4 < (x.tags.length : Int) + (y.tags.length : Int)) = true) := by
    unfold joinOk at hk
    by_cases h1 : x.lo + x.many = y.lo
    · by_cases h2 : x.write = y.write
      · by_cases h3 : x.many + y.many ≤ 4
        · right; right; right
          exact ⟨h1, h2.symm, by simp; omega, by have : ¬ (x.tags.length + y.tags.length ≤ 4) := fun h => hk ⟨h1, h2, h3, h⟩; simp; omega⟩
        · right; right; left
          exact ⟨h1, h2.symm, by simp; omega⟩
      · right; left
        refine ⟨h1, ?_⟩
        cases hx : x.write <;> cases hy : y.write <;> simp [hx, hy] at h2 ⊢
    · left; simpa using h1
  have Hn := Lib.hid hn
  clear hn hk
  rcases hargs with ⟨rfl, hs⟩ | ⟨rfl, hs⟩
  · have hs1 : (y.lo + y.many == x.lo) = false := by simpa using hs
    clear hs
    rcases key with h1 | ⟨h1, ⟨h2, h3⟩ | ⟨h2, h3⟩⟩ | ⟨h1, h2, h3⟩ | ⟨h1, h2, h3, h4⟩
    all_goals
      go_enter Try.func42, Try.ntmps42
      go_wp2
      rw [Hn.out]
      refine bodyPost_ret ?_ rfl (reto_none ((((Below.refl _ _).alloc (Nat.le_refl _) _).alloc (by simp) _).alloc (by simp; omega) _))
      simp [results, Try.results42, go_sem, zero3]
  · have hs1 : (x.lo + x.many == y.lo) = true := by simpa using hs
    rcases key with h1 | ⟨h1, ⟨h2, h3⟩ | ⟨h2, h3⟩⟩ | ⟨h1, h2, h3⟩ | ⟨h1, h2, h3, h4⟩
    · exfalso; simp at h1; exact h1 hs
    all_goals
      clear hs
      go_enter Try.func42, Try.ntmps42
      go_wp2
      rw [Hn.out]
      refine bodyPost_ret ?_ rfl (reto_none ((((Below.refl _ _).alloc (Nat.le_refl _) _).alloc (by simp) _).alloc (by simp; omega) _))
      simp [results, Try.results42, go_sem, zero3]
end Go.Proofs.Ytfklcfpkbnddfaa
