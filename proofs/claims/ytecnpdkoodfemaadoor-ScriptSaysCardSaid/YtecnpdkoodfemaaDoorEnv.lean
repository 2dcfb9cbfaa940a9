
/- What Go's library reads of its own variables; strconv.Itoa, strconv.Atoi, script.number at every argument. -/
import Derived.Test.YtecnpdkoodfemaaDoorFacts
import Derived.Test.YtecnpdkoodfemaaDoorLib1
import Derived.Lib.AppendIntMem
import Derived.Lib.AtoiBound
namespace Go.Proofs.YtecnpdkoodfemaaDoor
set_option linter.unusedSimpArgs false
set_option linter.unusedVariables false
open Go.RowKit

structure Env (w : World) : Prop where
  max : ∃ m, w.cell? ⟨0, 0, none⟩ = some (.int .i64 m)
  tab : Lib.TabIs Tryd.prog w "internal/strconv.uint64pow10" .u64 Lib.pow10Tab
  syn : ∃ tp p, w.var? Tryd.prog "strconv.ErrSyntax" = some #[.iface tp p]
  rng : ∃ tp p, w.var? Tryd.prog "strconv.ErrRange" = some #[.iface tp p]
theorem var_below {P : Program} {w w' : World} {n : String} {cs : Array Value} (h : w.var? P n = some cs) (hb : Below w.heap.size w w') : w'.var? P n = some cs := by
  unfold World.var? at *
  cases hg : P.globalNamed n with
  | none => simp [hg] at h
  | some g =>
    simp only [hg, Option.bind_some] at h ⊢
    have hlt : g < w.heap.size := by
      rcases Nat.lt_or_ge g w.heap.size with h' | h'
      · exact h'
      · simp [Array.getElem?_eq_none h'] at h
    rw [hb.block _ hlt]
    exact h
theorem Env.below {w w' : World} (h : Env w) (hb : Below w.heap.size w w') : Env w' := by
  obtain ⟨⟨m, h1⟩, h2, ⟨t3, p3, h3⟩, ⟨t4, p4, h4⟩⟩ := h
  refine ⟨⟨m, ?_⟩, var_below h2 hb, ⟨t3, p3, var_below h3 hb⟩, ⟨t4, p4, var_below h4 hb⟩⟩
  have hlt : 0 < w.heap.size := by
    rcases Nat.lt_or_ge 0 w.heap.size with h' | h'
    · exact h'
    · simp [World.cell?, Array.getElem?_eq_none h'] at h1
  exact (hb.cell (p := ⟨0, 0, none⟩) hlt).trans h1

def itoaB (n : Int) : ByteArray := ⟨(Lib.itoa n).toArray⟩
theorem itoa_any (n : Int) (w : World) (h0 : -9223372036854775808 ≤ n) (h1 : n ≤ 9223372036854775807) (hE : Env w) :
    Calls Tryd.prog 17 #[.int .i64 n] w (Ret (.string (itoaB n)) w) :=
  (Tryd.strconv_Itoa n h0 h1 w hE.tab).mono fun e w' ⟨he, k, os, hw⟩ => ⟨he, by rw [hw]; exact Lib.below_grow _ _ (Nat.le_refl _) _ _⟩
/-- A number's value; none: the text is no number. -/
def atoiM (s : ByteArray) : Option Int := match Lib.atoiAll s.data.toList with
  | .ok v => some v
  | _ => none
theorem atoiM_bounds {s : ByteArray} {v : Int} (h : atoiM s = some v) : -9223372036854775808 ≤ v ∧ v ≤ 9223372036854775807 := by
  unfold atoiM at h
  split at h
  · rename_i v' hv
    cases h
    exact Lib.atoiAll_bounds hv
  · cases h
/-- The error of Atoi is some error. -/
def RetAtoi (s : ByteArray) (w : World) : Ending → World → Prop := fun e w' => Below w.heap.size w w' ∧ ∃ n x, e = .returned (.tuple #[.int .i64 n, x]) ∧ match atoiM s with
  | some v => n = v ∧ x = .nilIface
  | none => ∃ t p, x = .iface t p
theorem atoi_any (s : ByteArray) (w : World) (hs : s.size ≤ 281474976710656) (hE : Env w) : Calls Tryd.prog 33 #[.string s] w (RetAtoi s w) := by
  unfold RetAtoi
  cases h : Lib.atoiAll s.data.toList with
  | ok v =>
    refine (Tryd.strconv_Atoi_ok s (by omega) v h w).mono ?_
    rintro e w' ⟨rfl, hw⟩
    have e1 : atoiM s = some v := by unfold atoiM; rw [h]
    rw [e1]
    refine ⟨?_, v, .nilIface, rfl, rfl, rfl⟩
    rcases hw with rfl | ⟨t, rfl⟩
    · exact Below.refl _ _
    · exact Lib.bytesWorld_below _ _ _
  | _ =>
    have e1 : atoiM s = none := by unfold atoiM; rw [h]
    obtain ⟨t3, p3, h3⟩ := hE.syn
    obtain ⟨t4, p4, h4⟩ := hE.rng
    rw [e1]
    first
      | (refine (Any.strconv_Atoi_range_var Tryd.laysC172 s hs h t4 p4 w h4).mono ?_
         rintro e w' ⟨N, rfl, _, _, hb⟩
         exact ⟨hb, _, _, rfl, _, _, rfl⟩)
      | (refine (Any.strconv_Atoi_syntax_var Tryd.laysC172 s hs h t3 p3 w h3).mono ?_
         rintro e w' ⟨N, rfl, _, _, hb⟩
         exact ⟨hb, _, _, rfl, _, _, rfl⟩)
end Go.Proofs.YtecnpdkoodfemaaDoor
