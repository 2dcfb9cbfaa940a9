
/- slices.Delete of one request, out of a row of the call's own. -/
import Derived.Test.YtdhiepcglnbkbaaClone
import Derived.Test.YtdhiepcglnbkbaaClear
import Derived.Deep.RegionLaw
namespace Go.Proofs.Ytdhiepcglnbkbaa
open Go.RowKit

theorem one_zeros {z : Array Value} (hz : ∀ u ∈ z.toList, u.oneCell' = true) (n : Nat) : ∀ u ∈ (Builtin.zeroCells z n).toList, u.oneCell' = true := by
  intro u hu
  unfold Builtin.zeroCells at hu
  rw [Array.toList_map, List.mem_map] at hu
  obtain ⟨i, hi, rfl⟩ := hu
  simp at hi
  have hp : 0 < z.size := Nat.pos_of_ne_zero fun h => by rw [h] at hi; simp at hi
  have hm := Nat.mod_lt i hp
  rw [getElem!_pos z _ hm]
  exact hz _ (by simp)
abbrev zeroRq : Value := .agg #[.bool false, .int .i64 0, .int .i64 0, .slice none 0 0, .slice none 0 0, .int .i64 0]
theorem zero_req : ∀ w, (zeroValue 38).run Try.prog w = .ok zeroRq w := fun _ => by kernel_rfl

set_option maxRecDepth 100000 in
set_option maxHeartbeats 1000000 in
theorem delete_any (base g n cap i : Nat) (xs : List Value) (w : World) (hown : w.ownsRow base 38 6 (.slice (some ⟨g, 0, none⟩) n cap) n xs) (h1 : ∀ u ∈ xs, u.oneCell' = true) (hi : i < n) (hn : n ≤ 65536) :
    Calls Try.prog 64 #[.slice (some ⟨g, 0, none⟩) n cap, .int .i64 i, .int .i64 ((i : Int) + 1)] w fun E w' =>
      ∃ v, E = .returned v ∧ w'.ownsRow base 38 6 v (n - 1) (xs.take (i * 6) ++ xs.drop ((i + 1) * 6)) ∧ w.grownBy w' (some g) := by
  obtain ⟨i0, hi0, hz0, hz1, hz2⟩ := info_parts reqInfo
  have hcap : n ≤ cap ∧ cap ≤ maxLen := by
    rcases hown.2 with ⟨hv, _⟩ | ⟨_, _, _, hv, _, _, h3, h4, _⟩
    · cases hv
    · cases hv; exact ⟨h3, h4⟩
  obtain ⟨hc1, hc2⟩ := hcap
  unfold maxLen at hc2
  have hin : (i : Int) < (n : Int) := by omega
  have hne : ((i : Int) == (i : Int) + 1) = false := by simp; omega
  have hlen := hown.1
  have hrd := Rd.of_own (S := fun _ => True) w (fun _ _ => trivial) hown
  obtain ⟨X, hX, hR⟩ : ∃ X : Option Addr, (if cap = i + 1 then some (⟨g, 0, none⟩ : Addr) else some ⟨g, (i + 1) * 6, none⟩) = X ∧ Hid (Rd (fun _ => True) w.drew 6 (.slice X (n - (i + 1)) (cap - (i + 1))) (n - (i + 1)) (xs.drop ((i + 1) * 6))) := by
    refine ⟨_, rfl, ?_⟩
    show Rd _ _ _ _ _ _
    refine ⟨_, _, rfl, by omega, by simp only [maxLen]; omega, by rw [List.length_drop, hlen]; omega, fun hpos => ?_⟩
    rw [if_neg (by omega)]
    obtain ⟨b, off, e, _, _, hcell⟩ := hrd.at_ (by omega) (by omega)
    cases e
    refine ⟨g, (i + 1) * 6, rfl, trivial, fun j u hu => ?_⟩
    rw [List.getElem?_drop] at hu
    have := hcell _ _ hu
    simpa using this
  have hT := Lib.hid (own_take w (k := i) (by omega) (by omega) hown)
  have hic : i ≤ cap := by omega
  have hbase : base ≤ w.heap.size := by have := hown.lt g rfl; omega
  have hgl : g < w.heap.size := (hown.lt g rfl).2
  have hbg : base ≤ g := (hown.lt g rfl).1
  clear hrd hown
  have hp0 : (0 : Int) ≤ (i : Int) + 1 := by omega
  have hp1 : (i : Int) + 1 ≤ (n : Int) := by omega
  have hp2 : ((i : Int) + 1).toNat = i + 1 := by omega
  go_enter Try.func64, Try.ntmps64
  go_wp2_with fail
  go_region_law (refine step_append_rd_fits (S := fun _ => True) _ rfl (.tmp 22) (.tmp 25) _ rfl base 38 i0 6 Try.underlying30 hi0 hz1 g i cap (xs.take (i * 6)) rfl hT.out (.slice X (n - (i + 1)) (cap - (i + 1))) (n - (i + 1)) (xs.drop ((i + 1) * 6)) rfl hR.out (fun u hu => h1 u (List.mem_of_mem_drop hu)) (by omega) ?_; intro w1 hown1 hg1)
  have hm : i + (n - (i + 1)) = n - 1 := by omega
  obtain ⟨cur, hcell, hsz, htk⟩ : ∃ cur, w1.heap[g]? = some (.cells cur 38 (0, 0)) ∧ cur.size = cap * 6 ∧ cur.toList.take ((i + (n - (i + 1))) * 6) = xs.take (i * 6) ++ xs.drop ((i + 1) * 6) := by
    rcases hown1.2 with ⟨hv, _⟩ | ⟨_, _, cur, hv, _, h2, _, _, h5, h6⟩
    · cases hv
    · cases hv; exact ⟨cur, h2, h5, h6⟩
  obtain ⟨cur', hrun, hsz', htk'⟩ := run_clear_row (P := Try.prog) w1 30 38 0 zeroRq 6 Try.underlying30 zero_req rfl
    (fun n u hu => one_zeros (by decide) n u hu) g ((i + (n - (i + 1))) * 6) (n - (i + (n - (i + 1)))) (cap - (i + (n - (i + 1)))) _ cur hcell (by rw [hsz]; omega)
  have Hown := Lib.hid hown1
  have Hcell := Lib.hid hcell
  have Hs := Lib.hid hsz
  have Hs' := Lib.hid hsz'
  have Ht := Lib.hid htk
  have Ht' := Lib.hid htk'
  have Hm := Lib.hid hm
  clear hown1 hcell hsz hsz' htk htk' hm hlen hX hR hT
  go_wp2_with fail
  go_ret
  refine ⟨_, rfl, ?_, ?_⟩
  · have ht := Ht'.out.trans Ht.out
    have ht2 := Ht.out
    rw [Hm.out] at ht ht2 ⊢
    refine ⟨by rw [← ht2, List.length_take, Array.length_toList, Hs.out]; omega, .inr ⟨g, cap, cur', rfl, hbg, setRow_heap _ _ _ _ _ _ Hcell.out, by omega, by simp only [maxLen]; omega, by rw [Hs'.out, Hs.out], ht⟩⟩
  · exact ⟨hg1.os, hg1.tape, hg1.output, by simpa using hg1.size, fun k hk hkg => by rw [setRow_other _ _ _ _ (fun h => hkg (by rw [h]))]; exact hg1.block k (by simpa using hk) hkg⟩
end Go.Proofs.Ytdhiepcglnbkbaa
