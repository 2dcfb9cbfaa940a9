
/- The reference's least and PickBuf: who is held stands in an array. gen_least.py prints this text. -/
import Derived.Test.YtdhiepcglnbkbaaBufVictim
import Derived.Laws.Rows
namespace Go.Proofs.Ytdhiepcglnbkbaa
set_option linter.unusedSimpArgs false
set_option linter.unusedVariables false
open Go.RowKit Go.Sort

theorem heldInfo : (Try.prog.info? 73).map (·.size) = some 32 := by kernel_rfl
theorem drewN_below' (B : Nat) (w : World) (n : Nat) : Below B w (w.drewN n) := ⟨rfl, rfl, rfl, Nat.le_refl _, fun _ _ => rfl⟩
/-- An array that tells who is held. -/
def hldV (hl : List Bool) : Array Value := (hl.map Value.bool).toArray
def heldL (hl : List Bool) (p : Int) : Bool := hl.getD p.toNat false
theorem hldV_get {hl : List Bool} (h : hl.length = 32) {p : Nat} (hp : p < 32) : (hldV hl)[p]? = some (.bool (heldL hl (p : Int))) := by
  unfold hldV heldL
  rw [List.getElem?_toArray, List.getElem?_map, Int.toNat_natCast, List.getD_eq_getElem?_getD]
  have : hl[p]? = some hl[p] := List.getElem?_eq_getElem (by omega)
  rw [this]; rfl
set_option maxRecDepth 100000 in
set_option maxHeartbeats 1000000 in
theorem least_any (S : Nat → Prop) (l : List Bf) (v : Value) (dirty : Bool) (hl : List Bool) (w : World) (h : BufsAt S w v l) (hin : InB l) (h32 : hl.length = 32) (hn : l.length ≤ 65536) :
    Calls Try.prog 74 #[v, .bool dirty, .agg (hldV hl)] w (Ret (.int .i64 (leastB l dirty (heldL hl))) w) := by
  obtain ⟨A, cap, rfl, h1, h2⟩ := h.form
  unfold maxLen at h2
  have H := Lib.hid h
  have HI := Lib.hid hin
  have Hget := Lib.hid (fun (p : Nat) (hp : p < 32) => hldV_get h32 hp)
  clear h hin h32
  obtain ⟨V, hV⟩ : ∃ V, hldV hl = V := ⟨_, rfl⟩
  rw [hV] at Hget ⊢
  clear hV
  obtain ⟨ok, hok⟩ : ∃ ok, okB dirty (heldL hl) = ok := ⟨_, rfl⟩
  have HO := Lib.hid hok
  have Hone : Hid (∀ x, ok x = okB dirty (heldL hl) x) := fun x => by rw [hok]
  clear hok
  go_enter Try.func74, Try.ntmps74
  go_wp2_with fail
  have L0 := Lib.hid ((Lay.refl w).alloc' w.heap.size V 73 rfl)
  generalize World.alloc _ _ = W0 at L0 ⊢
  go_loopw [7, 8] (fun b i wr => ∃ k : Nat, k ≤ l.length ∧ i = .int .i64 k ∧ b = .int .i64 (bestB ok l k) ∧ Hid (Lay w wr [(w.heap.size, 73, V)])) (fun _ i _ => l.length - (intOf i).toNat)
  case atStart => exact ⟨0, by omega, rfl, rfl, L0⟩
  case round =>
    obtain ⟨k, hk, rfl, rfl, HL⟩ := hrel
    have hrange := bestB_range ok l k
    by_cases hlt : k < l.length
    · have hkl : (k : Int) < (l.length : Int) := by omega
      have Hm := Lib.hid (H.out.below HL.out.below)
      obtain ⟨b, off, rfl, _, hbl, hc⟩ := Hm.out.at_ (by omega)
      have hx : l[k]? = some l[k] := List.getElem?_eq_getElem hlt
      obtain ⟨_, k0, k1, k2, k3⟩ := hc k _ hx
      have hp := HI.out _ (List.mem_of_getElem? hx)
      have Hx := Lib.hid hx
      have Hc := Lib.hid hc
      clear hx hc
      generalize l[k] = x at *
      have Hok := Lib.hid (Hone.out x)
      cases hd : (x.dirty == dirty) with
      | false =>
        have Hd := Lib.hid hd
        clear hrange hp
        go_wp2_with fail
        go_quiet (fail)
        go_wp2
        go_roundw
        case rel => exact ⟨k + 1, by omega, by go_num, by rw [bestB_no Hx.out (by rw [Hok.out]; unfold okB; rw [Hd.out]; rfl)], HL.out.step (Below.mono (drewN_below' _ _ _) (Nat.le_refl _))⟩
        case measure => simp [intOf]; omega
      | true =>
        have Hd := Lib.hid hd
        obtain ⟨q, hq⟩ : ∃ q : Nat, x.pos = (q : Int) := ⟨x.pos.toNat, by omega⟩
        have hq32 : q < 32 := by omega
        have hcell : wr.cell? ⟨w.heap.size, q, none⟩ = some (.bool (heldL hl (q : Int))) := by
          have h3 := HL.out.row _ (List.mem_cons_self ..)
          rw [cell_of_row _ _ _ _ _ _ h3]; exact Hget.out q hq32
        have hq1 : (q : Int) < 32 := by omega
        rw [hq] at k0
        have Hq := Lib.hid hq
        clear hq hp
        cases hhx : heldL hl (q : Int) with
        | true =>
          rw [hhx] at hcell
          have Hhx := Lib.hid hhx
          clear hrange hhx
          go_wp2_with fail
          go_quiet (fail)
          go_wp2
          go_roundw
          case rel => exact ⟨k + 1, by omega, by go_num, by rw [bestB_no Hx.out (by rw [Hok.out]; unfold okB; rw [Hd.out, Hq.out, Hhx.out]; rfl)], HL.out.step (Below.mono (drewN_below' _ _ _) (Nat.le_refl _))⟩
          case measure => simp [intOf]; omega
        | false =>
          rw [hhx] at hcell
          have Hhx := Lib.hid hhx
          by_cases hneg : bestB ok l k < 0
          · have hm1 : bestB ok l k = -1 := by omega
            have Hm1 := Lib.hid hm1
            rw [hm1]
            clear hm1 hneg hrange hhx
            go_wp2_with fail
            go_quiet (fail)
            go_wp2
            go_roundw
            case rel => exact ⟨k + 1, by omega, by go_num, by rw [bestB_first Hx.out (by rw [Hok.out]; unfold okB; rw [Hd.out, Hq.out, Hhx.out]; rfl) (by rw [Hm1.out]; omega)], HL.out.step (Below.mono (drewN_below' _ _ _) (Nat.le_refl _))⟩
            case measure => simp [intOf]; omega
          · obtain ⟨j, hj⟩ : ∃ j : Nat, bestB ok l k = j := ⟨(bestB ok l k).toNat, by omega⟩
            have Hj := Lib.hid hj
            rw [hj]
            have hjk : j < k := by omega
            have hjl : (j : Int) < (l.length : Int) := by omega
            have hj0 : ¬ (j : Int) < 0 := by omega
            clear hj hneg hrange hhx
            have hxj : l[j]? = some l[j] := List.getElem?_eq_getElem (by omega)
            obtain ⟨_, j0, j1, j2, j3⟩ := Hc.out j _ hxj
            have Hxj := Lib.hid hxj
            clear hxj
            generalize l[j] = y at *
            by_cases hless : x.used < y.used
            · have Hless := Lib.hid hless
              go_wp2_with fail
              go_quiet (fail)
              go_wp2
              go_roundw
              case rel => exact ⟨k + 1, by omega, by go_num, by rw [bestB_less Hx.out (by rw [Hok.out]; unfold okB; rw [Hd.out, Hq.out, Hhx.out]; rfl) Hj.out Hxj.out Hless.out], HL.out.step (Below.mono (drewN_below' _ _ _) (Nat.le_refl _))⟩
              case measure => simp [intOf]; omega
            · have Hless := Lib.hid hless
              have hless2 : decide (x.used < y.used) = false := decide_eq_false hless
              go_wp2_with fail
              go_quiet (fail)
              go_wp2
              go_roundw
              case rel => exact ⟨k + 1, by omega, by go_num, by rw [bestB_more Hx.out Hj.out Hxj.out (by have := Hless.out; omega)], HL.out.step (Below.mono (drewN_below' _ _ _) (Nat.le_refl _))⟩
              case measure => simp [intOf]; omega
    · obtain rfl : k = l.length := by omega
      clear hrange
      go_wp2
      go_ret
      refine ⟨?_, HL.out.below⟩
      rw [leastB_eq, HO.out]; rfl
set_option maxRecDepth 100000 in
set_option maxHeartbeats 1000000 in
theorem rpick_any (S : Nat → Prop) (l : List Bf) (v : Value) (hl : List Bool) (w : World) (h : BufsAt S w v l) (hin : InB l) (h32 : hl.length = 32) (hn : l.length ≤ 65536) :
    Calls Try.prog 51 #[v, .agg (hldV hl)] w (Ret (.int .i64 (pickB l (heldL hl))) w) := by
  obtain ⟨A, cap, rfl, h1, h2⟩ := h.form
  unfold maxLen at h2
  have H := Lib.hid h
  have HI := Lib.hid hin
  have H32 := Lib.hid h32
  have hr := bestB_range (okB true (heldL hl)) l l.length
  have hpk : pickB l (heldL hl) = if leastB l true (heldL hl) < 0 then -1 else (l.getD (leastB l true (heldL hl)).toNat default).pos := rfl
  rw [← leastB_eq] at hr
  have Hr := Lib.hid hr
  have Hpk := Lib.hid hpk
  have hV1 : (hldV hl).size = 32 := by simp [hldV, h32]
  have HV1 := Lib.hid hV1
  have Hone : Hid (∀ u ∈ (hldV hl).toList, u.oneCell' = true) := fun u hu => by
    simp [hldV] at hu; rcases hu with ⟨_, rfl⟩ | ⟨_, rfl⟩ <;> rfl
  clear h hin h32 hr hpk hV1
  go_enter Try.func51, Try.ntmps51
  obtain ⟨V, hV⟩ : ∃ V, hldV hl = V := ⟨_, rfl⟩
  have HV := Lib.hid hV
  rw [hV] at HV1 ⊢
  have Hs : Hid ((Try.prog.info? 73).map (·.size) = some V.size) := show _ = _ by rw [HV1.out]; exact heldInfo
  clear hV Hone
  have L := Lib.hid ((Lay.refl w).alloc' w.heap.size V 73 rfl)
  have Hrow := Lib.hid (L.out.row _ (List.mem_cons_self ..))
  go_wp2_with (refine wpList_load_row rfl 73 (.tmp 3) rfl w.heap.size rfl 73 V (0, 0) _ Hrow.out Try.underlying73 rfl Hs.out ?_)
  rw [← HV.out] at L ⊢
  generalize World.alloc _ _ = W at L ⊢
  refine (least_any S l _ true hl _ (H.out.below L.out.below) HI.out H32.out hn).mono ?_
  rintro e w1 ⟨rfl, hb1⟩
  have hb2 := L.out.below.trans (hb1.mono L.out.size)
  have Hb2 := Lib.hid hb2
  clear hb1 hb2 L Hrow
  obtain ⟨B, hB⟩ : ∃ B, leastB l true (heldL hl) = B := ⟨_, rfl⟩
  rw [hB] at Hpk Hr ⊢
  clear hB
  by_cases hneg : B < 0
  · go_wp2_with fail
    go_ret
    refine ⟨?_, Hb2.out⟩
    have := Hpk.out
    rw [if_pos hneg] at this
    rw [this]; rfl
  · obtain ⟨j, rfl⟩ : ∃ j : Nat, B = (j : Int) := ⟨B.toNat, by omega⟩
    have hjk : j < l.length := by have := Hr.out; omega
    have hxj : l[j]? = some l[j] := List.getElem?_eq_getElem (by omega)
    have hpk := Hpk.out
    rw [if_neg hneg, Int.toNat_natCast, List.getD_eq_getElem?_getD, hxj, Option.getD_some] at hpk
    have Hpk2 := Lib.hid hpk
    obtain ⟨b, off, rfl, _, hbl, hc⟩ := (H.out.below Hb2.out).at_ (by omega)
    obtain ⟨_, k0, k1, k2, k3⟩ := hc j _ hxj
    generalize l[j] = y at *
    have hjl : (j : Int) < (l.length : Int) := by omega
    have hj0 : ¬ (j : Int) < 0 := by omega
    clear hxj hpk hneg hc
    go_wp2
    go_ret
    refine ⟨?_, Hb2.out⟩
    rw [Hpk2.out]; rfl
end Go.Proofs.Ytdhiepcglnbkbaa
