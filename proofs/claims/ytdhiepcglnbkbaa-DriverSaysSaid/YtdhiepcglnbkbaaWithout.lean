
/- The reference's without: a list of requests but for one. -/
import Derived.Test.YtdhiepcglnbkbaaDevEnd
namespace Go.Proofs.Ytdhiepcglnbkbaa
set_option linter.unusedSimpArgs false
set_option linter.unusedVariables false
open Go.RowKit

theorem rd_take {S : Nat → Prop} {w : World} {size n k c : Nat} {A : Option Addr} {xs : List Value} (h : Rd S w size (.slice A n c) n xs) (hk : k ≤ n) : Rd S w size (.slice A k c) k (xs.take (k * size)) := by
  obtain ⟨A', c', e, h1, h2, h3, h4⟩ := h
  cases e
  refine ⟨A, c, rfl, by omega, h2, by rw [List.length_take, h3]; exact Nat.min_eq_left (Nat.mul_le_mul_right _ hk), fun hp => ?_⟩
  obtain ⟨b, off, e, hS, hc⟩ := h4 (by omega)
  refine ⟨b, off, e, hS, fun j u hu => hc j u ?_⟩
  rw [List.getElem?_take] at hu
  split at hu
  · exact hu
  · cases hu
theorem rd_drop {S : Nat → Prop} {w : World} {n k c b off : Nat} {xs : List Value} (h : Rd S w 6 (.slice (some ⟨b, off, none⟩) n c) n xs) (hk : k < n) :
    Rd S w 6 (.slice (if c = k + 1 then some (⟨b, off, none⟩ : Addr) else some ⟨b, off + (k + 1) * 6, none⟩) (n - (k + 1)) (c - (k + 1))) (n - (k + 1)) (xs.drop ((k + 1) * 6)) := by
  have hf := h.len
  obtain ⟨A', c', e, h1, h2, h3, h4⟩ := h
  cases e
  refine ⟨_, _, rfl, by omega, by omega, by rw [List.length_drop, h3]; omega, fun hp => ?_⟩
  rw [if_neg (by omega)]
  obtain ⟨b', off', e, hS, hc⟩ := h4 (by omega)
  cases e
  refine ⟨b, off + (k + 1) * 6, rfl, hS, fun j u hu => ?_⟩
  rw [List.getElem?_drop] at hu
  have := hc _ _ hu
  rwa [← Nat.add_assoc] at this

set_option maxRecDepth 100000 in
theorem without_any (F : Nat → Prop) (b off n cap k : Nat) (xs : List Value) (w : World) (h : Rd F w 6 (.slice (some ⟨b, off, none⟩) n cap) n xs) (h1 : ∀ u ∈ xs, u.oneCell' = true) (hk : k < n) (hn : n ≤ 65536) :
    Calls Try.prog 66 #[.slice (some ⟨b, off, none⟩) n cap, .int .i64 (k : Int)] w (RetOwn 38 6 (n - 1) (xs.take (k * 6) ++ xs.drop ((k + 1) * 6)) w) := by
  obtain ⟨i0, hi0, hz0, hz1, hz2⟩ := info_parts reqInfo
  obtain ⟨_, _, e, hc1, hc2⟩ := h.form
  cases e
  unfold maxLen at hc2
  have HT := Lib.hid ((rd_take (k := k) h (by omega)).below (w' := w.drew) (Below.refl _ _).drew)
  obtain ⟨X, hX, hR⟩ : ∃ X : Option Addr, (if cap = k + 1 then some (⟨b, off, none⟩ : Addr) else some ⟨b, off + (k + 1) * 6, none⟩) = X ∧ Hid (Rd F w 6 (.slice X (n - (k + 1)) (cap - (k + 1))) (n - (k + 1)) (xs.drop ((k + 1) * 6))) := ⟨_, rfl, rd_drop h hk⟩
  have Hone := Lib.hid h1
  have hkp : IntKind.i64.wrap ((k : Int) + 1) = (k : Int) + 1 := IntWalk.i64_in _ (by omega)
  have hp0 : (0 : Int) ≤ (k : Int) + 1 := by omega
  have hp1 : (k : Int) + 1 ≤ (n : Int) := by omega
  have hp2 : ((k : Int) + 1).toNat = k + 1 := by omega
  have hkc : k ≤ cap := by omega
  clear h h1
  go_enter Try.func66, Try.ntmps66
  go_wp2_with fail
  go_region_law (first
    | (refine step_append_rd (S := F) _ rfl (.const (.slice none 0 0)) (.tmp 7) 30 rfl w.heap.size 38 i0 _ 6 80 Try.underlying30 hi0 hz0 hz1 hz2 rfl (by omega) (.slice none 0 0) 0 [] rfl (World.ownsRow_nil _ _ _ _) (.slice (some ⟨b, off, none⟩) k cap) k (xs.take (k * 6)) (by simp [Act.eval, Act.put]) HT.out (fun u hu => Hone.out u (List.mem_of_mem_take hu)) (by simp only [maxLen]; omega) (by omega) (by simp) ?_; intro v1 w1 hown1 hg1 hat1; clear hat1; have hb1 := (Below.refl w.heap.size w).drew.grown hg1 (by simp) (fun k hk => by simp [Value.ownBlock] at hk); have e4 := hb1.size)
    | (refine step_append_rd (S := F) _ rfl (.tmp 8) (.tmp 12) 30 rfl w.heap.size 38 i0 _ 6 80 Try.underlying30 hi0 hz0 hz1 hz2 rfl (by omega) v1 (0 + k) ([] ++ xs.take (k * 6)) (by simp [Act.eval, Act.put]) hown1 (.slice X (n - (k + 1)) (cap - (k + 1))) (n - (k + 1)) (xs.drop ((k + 1) * 6)) (by simp [Act.eval, Act.put, hX]) (hR.out.below hb1) (fun u hu => Hone.out u (List.mem_of_mem_drop hu)) (by simp only [maxLen]; omega) (by omega) e4 ?_; intro v2 w12 hown2 hg2 hat2; clear hat2; have hb2 := hb1.grown hg2 e4 (fun k hk => (hown1.lt k hk).1)))
  all_goals
    simp only [Nat.zero_add, List.nil_append] at hown2
    have hm : k + (n - (k + 1)) = n - 1 := by omega
    rw [hm] at hown2
    have Ho := Lib.hid hown2
    clear hown2 hown1 hg1 hg2 hX hm
    go_wp2_with fail
    go_ret
    exact ⟨_, rfl, Ho.out, hb2⟩
end Go.Proofs.Ytdhiepcglnbkbaa
