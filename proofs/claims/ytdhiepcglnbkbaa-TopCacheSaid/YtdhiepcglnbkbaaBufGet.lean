
/- Get, Dirty, GoodBufs, SameBufs, and the reference's. -/
import Derived.Test.YtdhiepcglnbkbaaBufFind
import Derived.Test.YtdhiepcglnbkbaaLay
import Derived.Deep.RegionLaw
namespace Go.Proofs.Ytdhiepcglnbkbaa
set_option linter.unusedSimpArgs false
set_option linter.unusedVariables false
open Go.RowKit

theorem zero_buf : ∀ w, (zeroValue 72).run Try.prog w = .ok (.agg #[.int .i64 0, .string ⟨#[]⟩, .bool false, .int .i64 0]) w := fun _ => by kernel_rfl
theorem Lay.c4 {w wr : World} {l : List (Nat × TypeId × Array Value)} (h : Lay w wr l) (i : Nat) {b : Nat} {T : TypeId} {c0 c1 c2 c3 : Value} (hi : l[i]? = some (b, T, #[c0, c1, c2, c3])) :
    wr.cell? ⟨b, 0, none⟩ = some c0 ∧ wr.cell? ⟨b, 1, none⟩ = some c1 ∧ wr.cell? ⟨b, 2, none⟩ = some c2 ∧ wr.cell? ⟨b, 3, none⟩ = some c3 := ⟨h.cell i hi 0, h.cell i hi 1, h.cell i hi 2, h.cell i hi 3⟩
/-- Four cells in one go. -/
theorem Lay.put4 {w wr : World} {l : List (Nat × TypeId × Array Value)} (h : Lay w wr l) (i : Nat) {b : Nat} {T : TypeId} {c0 c1 c2 c3 : Value} (hi : l[i]? = some (b, T, #[c0, c1, c2, c3])) (v0 v1 v2 v3 : Value) :
    Lay w ((((wr.setCell ⟨b, 0, none⟩ v0).setCell ⟨b, 1, none⟩ v1).setCell ⟨b, 2, none⟩ v2).setCell ⟨b, 3, none⟩ v3) (l.set i (b, T, #[v0, v1, v2, v3])) := by
  have hlt : i < l.length := (List.getElem?_eq_some_iff.1 hi).1
  have g0 := h.set i hi 0 v0
  have g1 := g0.set i (by rw [List.getElem?_set, if_pos rfl, if_pos hlt]) 1 v1
  have g2 := g1.set i (by rw [List.getElem?_set, if_pos rfl, if_pos (by simpa using hlt)]) 2 v2
  have g3 := g2.set i (by rw [List.getElem?_set, if_pos rfl, if_pos (by simpa using hlt)]) 3 v3
  simpa [List.set_set] using g3

set_option maxRecDepth 100000 in
set_option maxHeartbeats 2000000 in
theorem get_any (S : Nat → Prop) (l : List Bf) (v : Value) (p : Int) (w : World) (h : BufsAt S w v l) (hr : Rises l) (hn : l.length ≤ 65536) :
    Calls Try.prog 39 #[v, .int .i64 p] w (Ret (.tuple #[bfV (getB l p).1, .bool (getB l p).2]) w) := by
  obtain ⟨A, cap, rfl, h1, h2⟩ := h.form
  unfold maxLen at h2
  have hz := zero_buf
  have H := Lib.hid h
  have HR := Lib.hid hr
  clear h hr
  cases hi : isB l p with
  | false =>
    rw [getB_no hi]
    go_enter Try.func39, Try.ntmps39
    go_wp2_with fail
    have L := (Lay.refl w).alloc' w.heap.size #[.int .i64 0, .string ⟨#[]⟩, .bool false, .int .i64 0] 72 rfl
    generalize World.alloc _ _ = W at L ⊢
    refine (find_any S l _ p _ (H.out.below L.below) HR.out hn).mono ?_
    rintro e w1 ⟨rfl, hb1⟩
    have L1 := L.step hb1
    rw [hi]
    obtain ⟨q0, q1, q2, q3⟩ := L1.c4 0 rfl
    have hfr := L1.frozen 0 rfl
    clear hb1 L
    go_wp2_with fail
    have L2 := L1.put4 0 rfl (.int .i64 0) (.string ⟨#[]⟩) (.bool false) (.int .i64 0)
    generalize World.setCell _ _ _ = W2 at L2 ⊢
    obtain ⟨q0, q1, q2, q3⟩ := L2.c4 0 rfl
    refine bodyPost_ret (v := .tuple #[bfV zeroBf, .bool false]) (by simp [results, Try.results39, go_sem, q0, q1, q2, q3, zeroBf]) rfl ?_
    exact ⟨rfl, L2.below⟩
  | true =>
    obtain ⟨x, hx, hp⟩ := isB_at HR.out hi
    rw [getB_of HR.out hx hp]
    have hlt := (List.getElem?_eq_some_iff.1 hx).1
    have hi1 : ((posB l p : Nat) : Int) < (l.length : Int) := by omega
    have Hx := Lib.hid hx
    clear hx hp
    go_enter Try.func39, Try.ntmps39
    go_wp2_with fail
    have L := (Lay.refl w).alloc' w.heap.size #[.int .i64 0, .string ⟨#[]⟩, .bool false, .int .i64 0] 72 rfl
    generalize World.alloc _ _ = W at L ⊢
    refine (find_any S l _ p _ (H.out.below L.below) HR.out hn).mono ?_
    rintro e w1 ⟨rfl, hb1⟩
    have L1 := L.step hb1
    rw [hi]
    obtain ⟨q0, q1, q2, q3⟩ := L1.c4 0 rfl
    have hfr := L1.frozen 0 rfl
    obtain ⟨b, off, rfl, _, hbl, hc⟩ := (H.out.below L1.below).at_ (by omega)
    obtain ⟨hok, k0, k1, k2, k3⟩ := hc _ _ Hx.out
    clear hb1 L hc
    go_wp2_with fail
    have L2 := L1.put4 0 rfl (.int .i64 x.pos) (.string x.data) (.bool x.dirty) (.int .i64 x.used)
    generalize World.setCell _ _ _ = W2 at L2 ⊢
    obtain ⟨q0, q1, q2, q3⟩ := L2.c4 0 rfl
    refine bodyPost_ret (v := .tuple #[bfV x, .bool true]) (by simp [results, Try.results39, go_sem, q0, q1, q2, q3]) rfl ?_
    exact ⟨rfl, L2.below⟩
end Go.Proofs.Ytdhiepcglnbkbaa
