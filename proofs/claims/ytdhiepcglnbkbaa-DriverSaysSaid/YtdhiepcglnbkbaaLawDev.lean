
/- The law DeviceSays: its walk. -/
import Derived.Test.YtdhiepcglnbkbaaDevSame
import Derived.Test.YtdhiepcglnbkbaaDevEnd2
import Derived.Test.YtdhiepcglnbkbaaDevCrash2
import Derived.Test.YtdhiepcglnbkbaaCheck
import Derived.Deep.RegionHeld3
namespace Go.Proofs.Ytdhiepcglnbkbaa
set_option linter.unusedSimpArgs false
set_option linter.unusedVariables false
open Go.RowKit

def sX : ByteArray := ⟨#[120]⟩
def litW : Rq := ⟨true, 3, 1, [sX], [1], 0⟩
theorem litW_ok : ReqOk litW := by
  refine ⟨by unfold SpanOk litW; simp, by unfold shapeOk litW; simp, by unfold tagsOk litW; simp, by unfold bornOk litW; simp, ?_⟩
  unfold dataOk litW
  decide
theorem rc_litW {S : Nat → Prop} {w : World} {b1 b2 : Nat} (h1 : w.heap[b1]? = some (.cells #[.string sX] 9 (0, 0))) (h2 : w.heap[b2]? = some (.cells #[.int .i64 1] 3 (0, 0))) (s1 : S b1) (s2 : S b2) :
    RcOk S w ⟨litW, .slice (some ⟨b1, 0, none⟩) 1 1, .slice (some ⟨b2, 0, none⟩) 1 1⟩ := by
  refine ⟨⟨⟨_, 1, rfl, Nat.le_refl _, by simp [maxLen], rfl, fun _ => ⟨b1, 0, rfl, s1, fun j u hu => ?_⟩⟩, by simp [litW, maxLen]; decide⟩, ⟨⟨_, 1, rfl, Nat.le_refl _, by simp [maxLen], rfl, fun _ => ⟨b2, 0, rfl, s2, fun j u hu => ?_⟩⟩, by simp [litW]⟩, by unfold i64; simp [litW], by unfold i64; simp [litW], by unfold i64; simp [litW]⟩
  · rw [cell_of_row _ _ _ _ _ _ h1]; simpa [litW] using hu
  · rw [cell_of_row _ _ _ _ _ _ h2]; simpa [litW] using hu

set_option maxRecDepth 100000 in
set_option maxHeartbeats 2000000 in
theorem devices_any (w : World) : Calls Try.prog 13 #[] w (Ret (.bool true) w) := by
  go_enter Try.func13, Try.ntmps13
  go_wp2_with fail
  refine (devnew_any _).mono ?_
  rintro e w1 ⟨rfl, hd1, hb1, hs1⟩
  have hd1 := hd1 (fun k => k = w.heap.size + 1 ∨ k = w.heap.size + 2)
  go_wp2_with fail
  have hbA : Below w1.heap.size w1 _ := ((Below.refl w1.heap.size w1).alloc (Nat.le_refl _) (Obj.cells #[Value.string sX] 9)).alloc (by simp) (Obj.cells #[Value.int IntKind.i64 1] 3)
  have g1 : ((w1.alloc (Obj.cells #[Value.string sX] 9)).alloc (Obj.cells #[Value.int IntKind.i64 1] 3)).heap[w.heap.size + 1]? = some (.cells #[.string sX] 9 (0, 0)) := by
    rw [Below.heap_alloc _ _ _ (by simp; omega), ← hs1]; exact heap_alloc_new _ _
  have g2 : ((w1.alloc (Obj.cells #[Value.string sX] 9)).alloc (Obj.cells #[Value.int IntKind.i64 1] 3)).heap[w.heap.size + 2]? = some (.cells #[.int .i64 1] 3 (0, 0)) := by
    have := heap_alloc_new (w1.alloc (Obj.cells #[Value.string sX] 9)) (Obj.cells #[Value.int IntKind.i64 1] 3)
    rwa [show (w1.alloc (Obj.cells #[Value.string sX] 9)).heap.size = w.heap.size + 2 by simp; omega] at this
  have g3 : ((w1.alloc (Obj.cells #[Value.string sX] 9)).alloc (Obj.cells #[Value.int IntKind.i64 1] 3)).heap.size = w.heap.size + 3 := by simp; omega
  unfold sX at hbA g1 g2 g3
  generalize World.alloc _ _ = W2 at hbA g1 g2 g3 ⊢
  have hd2 := hd1.below hbA
  have hb2 := hb1.trans (hbA.mono hb1.size)
  have hF : ∀ k, k = w.heap.size → k < W2.heap.size := fun k hk => by omega
  have hS : ∀ k, (k = w.heap.size + 1 ∨ k = w.heap.size + 2) → ¬ k = w.heap.size := fun k hk => by omega
  have hrc := rc_litW (S := fun k => k = w.heap.size + 1 ∨ k = w.heap.size + 2) g1 g2 (.inl rfl) (.inr rfl)
  have hrq := hrc.req
  refine (devstart_any _ _ W2 w.heap.size Dv.new litW _ hd2 hrq hF hS (by decide)).mono ?_
  rintro e w3 ⟨rfl, hd3, hc3⟩
  rw [show (Dv.new.start litW).2 = 0 from rfl]
  have hF3 := Grow.lt (w' := w3) hF hc3.size
  have hS3 : ∀ k, (k = w.heap.size + 1 ∨ k = w.heap.size + 2) → ¬ Grow (fun k => k = w.heap.size) W2 w3 k := fun k hk hg => hg.elim (hS k hk) (fun h => by omega)
  have hb3 := hb2.trans (hc3.below (B := w.heap.size) (fun k hk => by omega) (by omega))
  have hz3 : W2.heap.size ≤ w3.heap.size := hc3.size
  have Hd3 := Lib.hid hd3
  have Hb3 := Lib.hid hb3
  clear hd3 hb3 hc3 hd2 hd1 hb2 hb1 hbA hrc hrq g1 g2
  go_wp2_with fail
  have hnow : ∀ s ∈ (Dv.new.start litW).1.now, s.size ≤ maxLen := fun s hs => by
    obtain rfl := List.eq_of_mem_replicate hs
    exact Nat.zero_le _
  refine (devend_some _ _ w3 w.heap.size (Dv.new.start litW).1 0 litW false Hd3.out rfl litW_ok (by decide) (by decide) hnow hF3 hS3 (fun k hk => by omega)).mono ?_
  rintro e w4 ⟨v, F4, S4, rfl, hrs, hd4, hc4, _, hF4, _, hS4, _⟩
  obtain ⟨Ad, cd, At, ct, Ao, co, rfl⟩ := hrs.opened
  have hb4 := Hb3.out.trans (hc4.below (B := w.heap.size) (fun k hk => hk.elim (fun h => by omega) (fun h => by omega)) (by omega))
  have Hd4 := Lib.hid hd4
  have Hb4 := Lib.hid hb4
  have hsn := same_any 0 0
  rw [errV_zero] at hsn
  clear hd4 hb4 hc4 hF4 hS4 hrs hnow
  go_wp2_with fail
  generalize hW5 : World.alloc _ _ = W5
  have hb45 : Below w4.heap.size w4 W5 := hW5 ▸ (Below.refl _ _).alloc (Nat.le_refl _) _
  have hd5 := Lib.hid (Hd4.out.below hb45)
  have hb5 := Lib.hid (Hb4.out.trans (hb45.mono Hb4.out.size))
  clear hW5 hb45
  refine (same_any 0 0 _).mono ?_
  rintro e w6 ⟨rfl, rfl⟩
  rw [show (((0 : Nat) : Int) == 0) = true from rfl]
  go_wp2_with (first
    | (go_at_call 17; refine (hsn _).mono ?_; rintro e w7 ⟨rfl, rfl⟩; rw [show (((0 : Nat) : Int) == 0) = true from rfl])
    | (go_at_call 29; refine (devpeek_any _ _ _ _ _ 3 (by decide) hd5.out).mono ?_; rintro e w7 ⟨rfl, rfl⟩; rw [show (((Dv.new.start litW).1.ended litW 0 false).1.peek 3) = sX from rfl]; unfold sX))
  go_ret
  exact ⟨rfl, hb5.out⟩
end Go.Proofs.Ytdhiepcglnbkbaa
