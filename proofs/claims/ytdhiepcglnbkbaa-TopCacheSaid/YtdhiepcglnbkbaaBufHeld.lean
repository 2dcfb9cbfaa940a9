
/- The closures of the laws, that tell who is held. gen_held.py prints this text. -/
import Derived.Test.YtdhiepcglnbkbaaBufLeast
namespace Go.Proofs.Ytdhiepcglnbkbaa
set_option linter.unusedSimpArgs false
set_option linter.unusedVariables false
open Go.RowKit
set_option maxRecDepth 100000 in
theorem cachesays_hold (hl : List Bool) (g : Nat) (p : Int) (w : World) (h32 : hl.length = 32) (hg : w.heap[g]? = some (.cells (hldV hl) 73 (0, 0))) (h0 : 0 ≤ p) (h1 : p ≤ 31) :
    Calls Try.prog 38 #[.int .i64 p, .pointer (some ⟨g, 0, none⟩)] w (Ret (.bool (heldL hl p)) w) := by
  obtain ⟨q, rfl⟩ : ∃ q : Nat, p = (q : Int) := ⟨p.toNat, by omega⟩
  have hq : q < 32 := by omega
  have hcell : w.cell? ⟨g, q, none⟩ = some (.bool (heldL hl (q : Int))) := by rw [cell_of_row _ _ _ _ _ _ hg]; exact hldV_get h32 hq
  have hq1 : (q : Int) < 32 := by omega
  clear hg h32
  generalize heldL hl (q : Int) = B at *
  cases B
  all_goals
    go_enter Try.func38, Try.ntmps38
    go_wp2
    go_ret
    exact ⟨rfl, Below.refl _ _⟩
theorem cachesays_held (hl : List Bool) (g : Nat) (w : World) (h32 : hl.length = 32) (hg : w.heap[g]? = some (.cells (hldV hl) 73 (0, 0))) : HeldBy w 38 #[] #[.pointer (some ⟨g, 0, none⟩)] (heldL hl) :=
  ⟨enters Try.func38 (by kernel_rfl) rfl, fun w' p hb h0 h1 => cachesays_hold hl g p w' h32 ((hb.block _ (Array.getElem?_eq_some_iff.1 hg).1).trans hg) h0 h1⟩
set_option maxRecDepth 100000 in
theorem topcache_hold (hl : List Bool) (g : Nat) (p : Int) (w : World) (h32 : hl.length = 32) (hg : w.heap[g]? = some (.cells (hldV hl) 73 (0, 0))) (h0 : 0 ≤ p) (h1 : p ≤ 31) :
    Calls Try.prog 61 #[.int .i64 p, .pointer (some ⟨g, 0, none⟩)] w (Ret (.bool (heldL hl p)) w) := by
  obtain ⟨q, rfl⟩ : ∃ q : Nat, p = (q : Int) := ⟨p.toNat, by omega⟩
  have hq : q < 32 := by omega
  have hcell : w.cell? ⟨g, q, none⟩ = some (.bool (heldL hl (q : Int))) := by rw [cell_of_row _ _ _ _ _ _ hg]; exact hldV_get h32 hq
  have hq1 : (q : Int) < 32 := by omega
  clear hg h32
  generalize heldL hl (q : Int) = B at *
  cases B
  all_goals
    go_enter Try.func61, Try.ntmps61
    go_wp2
    go_ret
    exact ⟨rfl, Below.refl _ _⟩
theorem topcache_held (hl : List Bool) (g : Nat) (w : World) (h32 : hl.length = 32) (hg : w.heap[g]? = some (.cells (hldV hl) 73 (0, 0))) : HeldBy w 61 #[] #[.pointer (some ⟨g, 0, none⟩)] (heldL hl) :=
  ⟨enters Try.func61 (by kernel_rfl) rfl, fun w' p hb h0 h1 => topcache_hold hl g p w' h32 ((hb.block _ (Array.getElem?_eq_some_iff.1 hg).1).trans hg) h0 h1⟩
set_option maxRecDepth 100000 in
theorem topclean_hold (hl : List Bool) (g : Nat) (p : Int) (w : World) (h32 : hl.length = 32) (hg : w.heap[g]? = some (.cells (hldV hl) 73 (0, 0))) (h0 : 0 ≤ p) (h1 : p ≤ 31) :
    Calls Try.prog 62 #[.int .i64 p, .pointer (some ⟨g, 0, none⟩)] w (Ret (.bool (heldL hl p)) w) := by
  obtain ⟨q, rfl⟩ : ∃ q : Nat, p = (q : Int) := ⟨p.toNat, by omega⟩
  have hq : q < 32 := by omega
  have hcell : w.cell? ⟨g, q, none⟩ = some (.bool (heldL hl (q : Int))) := by rw [cell_of_row _ _ _ _ _ _ hg]; exact hldV_get h32 hq
  have hq1 : (q : Int) < 32 := by omega
  clear hg h32
  generalize heldL hl (q : Int) = B at *
  cases B
  all_goals
    go_enter Try.func62, Try.ntmps62
    go_wp2
    go_ret
    exact ⟨rfl, Below.refl _ _⟩
theorem topclean_held (hl : List Bool) (g : Nat) (w : World) (h32 : hl.length = 32) (hg : w.heap[g]? = some (.cells (hldV hl) 73 (0, 0))) : HeldBy w 62 #[] #[.pointer (some ⟨g, 0, none⟩)] (heldL hl) :=
  ⟨enters Try.func62 (by kernel_rfl) rfl, fun w' p hb h0 h1 => topclean_hold hl g p w' h32 ((hb.block _ (Array.getElem?_eq_some_iff.1 hg).1).trans hg) h0 h1⟩
set_option maxRecDepth 100000 in
theorem caches1_hold (p : Int) (w : World) (h0 : 0 ≤ p) (h1 : p ≤ 31) :
    Calls Try.prog 68 #[.int .i64 p] w (Ret (.bool false) w) := by
  have h2 : decide (p < -9) = false := by simp; omega
  go_enter Try.func68, Try.ntmps68
  go_wp2
  go_ret
  exact ⟨rfl, Below.refl _ _⟩
theorem caches1_held (w : World) : HeldBy w 68 #[] #[] (fun _ => false) :=
  ⟨enters Try.func68 (by kernel_rfl) rfl, fun w' p hb h0 h1 => caches1_hold p w' h0 h1⟩
set_option maxRecDepth 100000 in
theorem none__hold (p : Int) (w : World) (h0 : 0 ≤ p) (h1 : p ≤ 31) :
    Calls Try.prog 60 #[.int .i64 p] w (Ret (.bool false) w) := by
  have h2 : decide (p < -9) = false := by simp; omega
  go_enter Try.func60, Try.ntmps60
  go_wp2
  go_ret
  exact ⟨rfl, Below.refl _ _⟩
theorem none__held (w : World) : HeldBy w 60 #[] #[] (fun _ => false) :=
  ⟨enters Try.func60 (by kernel_rfl) rfl, fun w' p hb h0 h1 => none__hold p w' h0 h1⟩
end Go.Proofs.Ytdhiepcglnbkbaa
