
/- The law TopClean: its walk. -/
import Derived.Test.YtdhiepcglnbkbaaBufRPut
import Derived.Test.YtdhiepcglnbkbaaBufHeld
import Derived.Test.YtdhiepcglnbkbaaBufPure
import Derived.Test.YtdhiepcglnbkbaaOpenBufs
import Derived.Outline
namespace Go.Proofs.Ytdhiepcglnbkbaa
set_option linter.unusedSimpArgs false
set_option linter.unusedVariables false
open Go.RowKit Go.Sort

def litX : Bf := ⟨3, ⟨#[120]⟩, true, 0⟩
theorem litX_ok : ∀ x ∈ [litX], BfOk x := fun x hx => by simp at hx; subst hx; exact ⟨by unfold i64 litX; simp only; omega, by unfold i64 litX; simp only; omega, by unfold litX maxLen; decide⟩
theorem cleanX : cleanB [litX] 3 ⟨#[121]⟩ = [litX] := by unfold cleanB litX; simp
theorem buf_ne_same (p : Int) (d : ByteArray) (y : Bool) (u : Int) (w : World) : (binOp .neq 72 (.agg #[.int .i64 p, .string d, .bool y, .int .i64 u]) (.agg #[.int .i64 p, .string d, .bool y, .int .i64 u])).run Try.prog w = .ok (.bool false) w := by
  have := buf_ne ⟨p, d, y, u⟩ ⟨p, d, y, u⟩ w
  rw [decide_eq_true rfl] at this
  exact this
theorem box_bufs {w : World} {vb : Nat} {b : Bf} (h : w.heap[vb]? = some (.cells #[.int .i64 b.pos, .string b.data, .bool b.dirty, .int .i64 b.used] 72 (0, 0))) (hb : ∀ x ∈ [b], BfOk x) : BufsAt (fun _ => True) w (.slice (some ⟨vb, 0, none⟩) 1 1) [b] := ⟨rd_box h, hb⟩

set_option maxRecDepth 100000 in
set_option maxHeartbeats 4000000 in
theorem topclean_walk (l : List Bf) (p : Int) (d : ByteArray) (hl : List Bool) (v : Value) (w : World) (h : BufsAt Any w v l) (hd : d.size ≤ maxLen) (h32 : hl.length = 32) (hp : i64 p) :
    Calls Try.prog 12 #[v, .int .i64 p, .string d, .agg (hldV hl)] w (Ret (.bool true) w) := by
  obtain ⟨A, cap, rfl, h1, h2⟩ := h.form
  unfold maxLen at h2 hd
  have H := Lib.hid h
  have H32 := Lib.hid h32
  have hz := zero_buf
  clear h h32 hp
  go_enter Try.func12, Try.ntmps12
  go_wp2_with fail
  have L := Lib.hid (((Lay.refl w).alloc' w.heap.size (hldV hl) 73 rfl).alloc' (w.heap.size + 1) #[.int .i64 3, .string ⟨#[120]⟩, .bool true, .int .i64 0] 72 (by simp))
  generalize World.alloc _ _ = W at L ⊢
  refine (clean_any (fun _ => True) [litX] _ 3 ⟨#[121]⟩ _ (box_bufs (b := litX) (L.out.at_ 0 rfl) litX_ok) (by simp [Rises]) (by simp)).mono ?_
  rintro e w1 ⟨v1, rfl, hown1, hb1⟩
  rw [cleanX] at hown1
  have L1 := Lib.hid (L.out.step hb1)
  clear L hb1
  obtain ⟨g, cp, rfl, hbg, hgl, _, _⟩ := own_pos hown1 (by simp)
  obtain ⟨k0, k1, k2, k3⟩ := own_cells4 hown1 (i := 0) (x := litX) rfl
  simp only [Nat.zero_mul, Nat.zero_add] at k0 k1 k2 k3
  simp only [List.length_cons, List.length_nil, Nat.zero_add]
  rw [show litX.dirty = true from rfl] at k2
  clear hown1
  go_wp2_with fail
  refine (goodbufs_any Any l _ _ (H.out.below L1.out.below)).mono ?_
  rintro e w2 ⟨rfl, hb2⟩
  have L2 := Lib.hid (L1.out.step hb2)
  clear L1 hb2 k0 k1 k2 k3 hbg hgl
  by_cases g0 : goodB l
  rotate_left
  · rw [decide_eq_false g0]
    go_wp2_with fail
    go_ret
    exact ⟨rfl, L2.out.below⟩
  rw [decide_eq_true g0]
  have hl8 := g0.1
  have HR := Lib.hid g0.2.2
  have HI := Lib.hid (show InB l from fun b hb => ⟨(g0.2.1 b hb).1, (g0.2.1 b hb).2.1⟩)
  clear g0
  by_cases g3 : 10 < d.size
  · have f3 : (10 : Int) < (d.size : Int) := by omega
    go_wp2_with fail
    go_ret
    exact ⟨rfl, L2.out.below⟩
  have f3 : decide ((10 : Int) < (d.size : Int)) = false := by simp; omega
  go_wp2_with fail
  clear f3 g3
  refine (clean_any Any l _ p d _ (H.out.below L2.out.below) HR.out (by omega)).mono ?_
  rintro e w3 ⟨v3, rfl, hown3, hb3⟩
  have hlen : (cleanB l p d).length = l.length := by simp [cleanB]
  have L3 := Lib.hid (L2.out.step hb3)
  obtain ⟨A3, c3, rfl, hc31, hc32⟩ := own_slice hown3
  obtain ⟨m, hm⟩ : ∃ m, cleanB l p d = m := ⟨_, rfl⟩
  have Hm := Lib.hid hm
  rw [hm] at hown3 hlen hc31 ⊢
  have HM := Lib.hid hown3
  have HML := Lib.hid hlen
  rw [hlen] at hc31
  clear hb3 hown3 L2 hm
  rw [hlen]
  clear hlen
  have hne0 : ((l.length : Int) != (l.length : Int)) = false := by simp
  go_wp2_with fail
  clear hne0
  go_loopw [12] (fun i wr => ∃ k : Nat, k ≤ l.length ∧ i = .int .i64 k ∧ Hid (Below w3.heap.size w3 wr)) (fun i _ => l.length - (intOf i).toNat)
  case atStart => exact ⟨0, by omega, rfl, Below.refl _ _⟩
  case round =>
    obtain ⟨k, hk, rfl, HB⟩ := hrel
    by_cases hlt : k < l.length
    · have hkl : (k : Int) < (l.length : Int) := by omega
      have HL := Lib.hid (L3.out.step HB.out)
      obtain ⟨b, off, rfl, _, hbl, hc⟩ := (H.out.below HL.out.below).at_ (by omega)
      have hx : l[k]? = some l[k] := List.getElem?_eq_getElem hlt
      obtain ⟨_, k0, k1, k2, k3⟩ := hc k _ hx
      have Hx := Lib.hid hx
      clear hx hc
      generalize l[k] = x at *
      have Hmk : Hid (m[k]? = some (if x.pos = p ∧ x.data = d then { x with dirty := false } else x)) := show _ = _ by rw [← Hm.out]; unfold cleanB; rw [List.getElem?_map, Hx.out]; rfl
      have Hown := Lib.hid (own_below HM.out HB.out)
      obtain ⟨gm, cm, e, _, hgm, _, _⟩ := own_pos Hown.out (by have := HML.out; omega)
      cases e
      obtain ⟨j0, j1, j2, j3⟩ := own_cells4 Hown.out Hmk.out
      have Hj0 := Lib.hid j0
      have Hj1 := Lib.hid j1
      have Hj2 := Lib.hid j2
      have Hj3 := Lib.hid j3
      clear j0 j1 j2 j3
      by_cases e1 : x.pos = p
      · have he1 : (x.pos == p) = true := by simpa using e1
        have he2 : decide (x.pos = p) = true := decide_eq_true e1
        have E1 := Lib.hid e1
        clear e1
        by_cases e2 : x.data = d
        · have ht : (x.data.toList == d.toList) = true := by rw [e2]; exact beq_self_eq_true _
          have hj0 := Hj0.out
          have hj1 := Hj1.out
          have hj2 := Hj2.out
          have hj3 := Hj3.out
          rw [if_pos ⟨E1.out, e2⟩] at hj0 hj1 hj2 hj3
          simp only at hj0 hj1 hj2 hj3
          have Jm : Hid (∀ W, Below wr.heap.size wr W → W.cell? ⟨gm, k * 4, none⟩ = some (.int .i64 x.pos) ∧ W.cell? ⟨gm, k * 4 + 1, none⟩ = some (.string x.data) ∧ W.cell? ⟨gm, k * 4 + 2, none⟩ = some (.bool false) ∧ W.cell? ⟨gm, k * 4 + 3, none⟩ = some (.int .i64 x.used)) := fun W hW => ⟨cell_b hW hj0, cell_b hW hj1, cell_b hW hj2, cell_b hW hj3⟩
          clear hj0 hj1 hj2 hj3 e2
          go_wp2_with fail
          have LW := (Lay.refl wr).alloc' wr.heap.size #[.int .i64 x.pos, .string x.data, .bool false, .int .i64 x.used] 72 rfl
          generalize World.alloc _ _ = W4 at LW ⊢
          obtain ⟨c0, c1, c2, c3⟩ := LW.c4 0 rfl
          obtain ⟨j0, j1, j2, j3⟩ := Jm.out W4 LW.below
          have hbn := buf_ne_same x.pos x.data false x.used
          have HW := Lib.hid (HB.out.trans (LW.below.mono HB.out.size))
          clear LW
          go_quiet (fail)
          go_wp2_with fail
          go_roundw
          case rel => exact ⟨k + 1, by omega, by go_num, (HW.out.trans (drewN_below' _ _ _) : Below _ _ _)⟩
          case measure => simp [intOf]; omega
        · have ht : (x.data.toList == d.toList) = false := by simpa using bytes_ne e2
          have hj0 := Hj0.out
          have hj1 := Hj1.out
          have hj2 := Hj2.out
          have hj3 := Hj3.out
          rw [if_neg (fun h => e2 h.2)] at hj0 hj1 hj2 hj3
          have Jm : Hid (∀ W, Below wr.heap.size wr W → W.cell? ⟨gm, k * 4, none⟩ = some (.int .i64 x.pos) ∧ W.cell? ⟨gm, k * 4 + 1, none⟩ = some (.string x.data) ∧ W.cell? ⟨gm, k * 4 + 2, none⟩ = some (.bool x.dirty) ∧ W.cell? ⟨gm, k * 4 + 3, none⟩ = some (.int .i64 x.used)) := fun W hW => ⟨cell_b hW hj0, cell_b hW hj1, cell_b hW hj2, cell_b hW hj3⟩
          clear hj0 hj1 hj2 hj3 e2
          go_wp2_with fail
          have LW := (Lay.refl wr).alloc' wr.heap.size #[.int .i64 x.pos, .string x.data, .bool x.dirty, .int .i64 x.used] 72 rfl
          generalize World.alloc _ _ = W4 at LW ⊢
          obtain ⟨c0, c1, c2, c3⟩ := LW.c4 0 rfl
          obtain ⟨j0, j1, j2, j3⟩ := Jm.out W4 LW.below
          have hbn := buf_ne_same x.pos x.data x.dirty x.used
          have HW := Lib.hid (HB.out.trans (LW.below.mono HB.out.size))
          clear LW
          go_quiet (fail)
          go_wp2_with fail
          go_roundw
          case rel => exact ⟨k + 1, by omega, by go_num, (HW.out.trans (drewN_below' _ _ _) : Below _ _ _)⟩
          case measure => simp [intOf]; omega
      · have hj0 := Hj0.out
        have hj1 := Hj1.out
        have hj2 := Hj2.out
        have hj3 := Hj3.out
        rw [if_neg (fun h => e1 h.1)] at hj0 hj1 hj2 hj3
        have Jm : Hid (∀ W, Below wr.heap.size wr W → W.cell? ⟨gm, k * 4, none⟩ = some (.int .i64 x.pos) ∧ W.cell? ⟨gm, k * 4 + 1, none⟩ = some (.string x.data) ∧ W.cell? ⟨gm, k * 4 + 2, none⟩ = some (.bool x.dirty) ∧ W.cell? ⟨gm, k * 4 + 3, none⟩ = some (.int .i64 x.used)) := fun W hW => ⟨cell_b hW hj0, cell_b hW hj1, cell_b hW hj2, cell_b hW hj3⟩
        have he1 : (x.pos == p) = false := by simpa using e1
        have he2 : decide (x.pos = p) = false := decide_eq_false e1
        clear hj0 hj1 hj2 hj3
        go_wp2_with fail
        have LW := (Lay.refl wr).alloc' wr.heap.size #[.int .i64 x.pos, .string x.data, .bool x.dirty, .int .i64 x.used] 72 rfl
        generalize World.alloc _ _ = W4 at LW ⊢
        obtain ⟨c0, c1, c2, c3⟩ := LW.c4 0 rfl
        obtain ⟨j0, j1, j2, j3⟩ := Jm.out W4 LW.below
        have hbn := buf_ne_same x.pos x.data x.dirty x.used
        have HW := Lib.hid (HB.out.trans (LW.below.mono HB.out.size))
        clear LW
        go_quiet (fail)
        go_wp2_with fail
        go_roundw
        case rel => exact ⟨k + 1, by omega, by go_num, (HW.out.trans (drewN_below' _ _ _) : Below _ _ _)⟩
        case measure => simp [intOf]; omega
    · obtain rfl : k = l.length := by omega
      have hi1 : decide ((l.length : Int) < (l.length : Int)) = false := by simp
      have L4 := Lib.hid (L3.out.step HB.out)
      go_wp2_with fail
      clear hi1
      refine (pick_any Any l _ _ _ _ (heldL hl) _ (H.out.below L4.out.below) HI.out (topclean_held hl w.heap.size _ H32.out (L4.out.at_ 1 rfl)) (by omega)).mono ?_
      rintro e w5 ⟨rfl, hb5⟩
      have L5 := Lib.hid (L4.out.step hb5)
      clear hb5
      obtain ⟨K, hK⟩ : ∃ K, pickB l (heldL hl) = K := ⟨_, rfl⟩
      have hen := enters Try.func62 (by kernel_rfl) rfl
      by_cases hneg : K < 0
      · obtain ⟨hm1, hget, hno⟩ := pick_none (fun b hb => (HI.out b hb).1) (by rw [hK]; exact hneg)
        have Hno := Lib.hid hno
        have e : K = -1 := by rw [← hK, hm1]
        rw [hm1]
        clear hm1 hno hneg hK e
        go_wp2_with fail
        refine (get_any Any l _ (-1) _ (H.out.below L5.out.below) HR.out (by omega)).mono ?_
        rintro e w6 ⟨rfl, hb6⟩
        have L6 := Lib.hid (L5.out.step hb6)
        rw [hget]
        obtain ⟨g1, hg1⟩ : ∃ g, g = zeroBf := ⟨_, rfl⟩
        rw [← hg1]
        clear hb6 hget hg1
        obtain ⟨n6, hn6⟩ : ∃ n, w6.heap.size = n := ⟨_, rfl⟩
        have L7 := Lib.hid (L6.out.alloc' n6 #[.int .i64 g1.pos, .string g1.data, .bool g1.dirty, .int .i64 g1.used] 72 hn6)
        go_wp2_with fail
        generalize World.alloc _ _ = w7 at L7 ⊢
        clear hn6 L6 L5 L4
        go_loopw [17] (fun i wr => ∃ k : Nat, k ≤ l.length ∧ i = .int .i64 k ∧ Hid (Below w7.heap.size w7 wr)) (fun i _ => l.length - (intOf i).toNat)
        case atStart => exact ⟨0, by omega, rfl, Below.refl _ _⟩
        case round =>
          obtain ⟨k, hk, rfl, HB⟩ := hrel
          by_cases hlt : k < l.length
          · have hkl : (k : Int) < (l.length : Int) := by omega
            have HL := Lib.hid (L7.out.step HB.out)
            obtain ⟨b, off, rfl, _, hbl, hc⟩ := (H.out.below HL.out.below).at_ (by omega)
            have hx : l[k]? = some l[k] := List.getElem?_eq_getElem hlt
            obtain ⟨_, k0, k1, k2, k3⟩ := hc k _ hx
            have Hp := Lib.hid (HI.out _ (List.mem_of_getElem? hx))
            have Hx := Lib.hid (List.mem_of_getElem? hx)
            clear hx hc
            generalize l[k] = x at *
            cases hd : x.dirty with
            | false =>
              rw [hd] at k2
              clear hd
              have m2 : ∀ d os, (grow (redrawn wr d) os).cell? ⟨b, off + k * 4 + 2, none⟩ = some (.bool false) := fun _ _ => cell_regrown k2 _ _
              go_wp2_with fail
              refine wp_region_quiet_below mixed (by kernel_rfl) ?_
              repeat (first | go_big_quiet_step ((fail)) | quiet_step ((fail)))
              refine wpQuiet_nil ?_
              intro _ hw'
              obtain ⟨⟨dq, osq⟩, hw''⟩ := hw'
              subst hw''
              have hb4 := Below.trans HB.out (Below.mono (below_regrown wr dq osq) HB.out.size)
              clear m2
              generalize grow (redrawn wr dq) osq = w4 at hb4 ⊢
              go_wp2
              go_roundw
              case rel => exact ⟨k + 1, by omega, by go_num, hb4⟩
              case measure => simp [intOf]; omega
            | true =>
              rw [hd] at k2
              have Hd := Lib.hid hd
              clear hd
              have m0 : ∀ d os, (grow (redrawn wr d) os).cell? ⟨b, off + k * 4, none⟩ = some (.int .i64 x.pos) := fun _ _ => cell_regrown k0 _ _
              have m2 : ∀ d os, (grow (redrawn wr d) os).cell? ⟨b, off + k * 4 + 2, none⟩ = some (.bool true) := fun _ _ => cell_regrown k2 _ _
              have m3 : ∀ d os, (grow (redrawn wr d) os).cell? ⟨b, off + k * 4 + 3, none⟩ = some (.int .i64 x.used) := fun _ _ => cell_regrown k3 _ _
              obtain ⟨c0, c1, c2, c3⟩ := HL.out.c4 0 rfl
              have m5 : ∀ d os, (grow (redrawn wr d) os).cell? ⟨n6, 3, none⟩ = some (.int .i64 g1.used) := fun _ _ => cell_regrown c3 _ _
              clear k0 k1 k2 k3 c0 c1 c2 c3
              cases hhx : heldL hl x.pos with
              | true =>
                have Hhx := Lib.hid hhx
                clear hhx
                go_wp2_with fail
                refine wp_region_quiet_below mixed (by kernel_rfl) ?_
                repeat (first | go_big_quiet_step ((exact Calls.rg ((topclean_held hl w.heap.size _ H32.out (L7.out.at_ 2 rfl)).at_ Hhx.out Hp.out.1 Hp.out.2 (HB.out.trans (Below.mono (below_regrown wr _ _) HB.out.size))))) | quiet_step ((exact Calls.rg ((topclean_held hl w.heap.size _ H32.out (L7.out.at_ 2 rfl)).at_ Hhx.out Hp.out.1 Hp.out.2 (HB.out.trans (Below.mono (below_regrown wr _ _) HB.out.size))))))
                refine wpQuiet_nil ?_
                intro _ hw'
                obtain ⟨⟨dq, osq⟩, hw''⟩ := hw'
                subst hw''
                have hb4 := Below.trans HB.out (Below.mono (below_regrown wr dq osq) HB.out.size)
                clear m0 m2 m3 m5
                generalize grow (redrawn wr dq) osq = w4 at hb4 ⊢
                go_wp2
                go_roundw
                case rel => exact ⟨k + 1, by omega, by go_num, hb4⟩
                case measure => simp [intOf]; omega
              | false =>
                have Hhx := Lib.hid hhx
                clear hhx
                have := Hno.out x Hx.out Hd.out
                rw [Hhx.out] at this
                cases this
          · obtain rfl : k = l.length := by omega
            have hi1 : decide ((l.length : Int) < (l.length : Int)) = false := by simp
            have L9 := Lib.hid (L7.out.step HB.out)
            go_wp2
            go_ret
            exact ⟨rfl, L9.out.below⟩
      · obtain ⟨g1, hg1, hpos, hget, hgd, hgh, hmin⟩ := pick_some HR.out (by rw [hK]; exact hneg)
        have Hmin := Lib.hid hmin
        have Hgp := Lib.hid (HI.out g1 hg1)
        have Hgh := Lib.hid hgh
        have Hgd := Lib.hid hgd
        rw [hK] at hpos
        subst hpos
        rw [hK] at hget ⊢
        clear hmin hneg hK hgh hg1
        have hge0 : 0 ≤ g1.pos := Hgp.out.1
        go_wp2_with fail
        refine (get_any Any l _ g1.pos _ (H.out.below L5.out.below) HR.out (by omega)).mono ?_
        rintro e w6 ⟨rfl, hb6⟩
        have L6 := Lib.hid (L5.out.step hb6)
        rw [hget]
        clear hb6 hget
        obtain ⟨n6, hn6⟩ : ∃ n, w6.heap.size = n := ⟨_, rfl⟩
        have L6' := Lib.hid (L6.out.alloc' n6 #[.int .i64 g1.pos, .string g1.data, .bool true, .int .i64 g1.used] 72 hn6)
        go_wp2_with fail
        generalize World.alloc _ _ = w6' at L6' ⊢
        refine (topclean_hold hl w.heap.size g1.pos _ H32.out (L6'.out.at_ 2 rfl) Hgp.out.1 Hgp.out.2).mono ?_
        rintro e w7 ⟨rfl, hb7⟩
        rw [Hgh.out]
        have L7 := Lib.hid (L6'.out.step hb7)
        clear hb7 hn6 L6 L6' L5 L4 hge0 hgd
        go_wp2_with fail
        go_loopw [17] (fun i wr => ∃ k : Nat, k ≤ l.length ∧ i = .int .i64 k ∧ Hid (Below w7.heap.size w7 wr)) (fun i _ => l.length - (intOf i).toNat)
        case atStart => exact ⟨0, by omega, rfl, Below.refl _ _⟩
        case round =>
          obtain ⟨k, hk, rfl, HB⟩ := hrel
          by_cases hlt : k < l.length
          · have hkl : (k : Int) < (l.length : Int) := by omega
            have HL := Lib.hid (L7.out.step HB.out)
            obtain ⟨b, off, rfl, _, hbl, hc⟩ := (H.out.below HL.out.below).at_ (by omega)
            have hx : l[k]? = some l[k] := List.getElem?_eq_getElem hlt
            obtain ⟨_, k0, k1, k2, k3⟩ := hc k _ hx
            have Hp := Lib.hid (HI.out _ (List.mem_of_getElem? hx))
            have Hx := Lib.hid (List.mem_of_getElem? hx)
            clear hx hc
            generalize l[k] = x at *
            cases hd : x.dirty with
            | false =>
              rw [hd] at k2
              clear hd
              have m2 : ∀ d os, (grow (redrawn wr d) os).cell? ⟨b, off + k * 4 + 2, none⟩ = some (.bool false) := fun _ _ => cell_regrown k2 _ _
              go_wp2_with fail
              refine wp_region_quiet_below mixed (by kernel_rfl) ?_
              repeat (first | go_big_quiet_step ((fail)) | quiet_step ((fail)))
              refine wpQuiet_nil ?_
              intro _ hw'
              obtain ⟨⟨dq, osq⟩, hw''⟩ := hw'
              subst hw''
              have hb4 := Below.trans HB.out (Below.mono (below_regrown wr dq osq) HB.out.size)
              clear m2
              generalize grow (redrawn wr dq) osq = w4 at hb4 ⊢
              go_wp2
              go_roundw
              case rel => exact ⟨k + 1, by omega, by go_num, hb4⟩
              case measure => simp [intOf]; omega
            | true =>
              rw [hd] at k2
              have Hd := Lib.hid hd
              clear hd
              have m0 : ∀ d os, (grow (redrawn wr d) os).cell? ⟨b, off + k * 4, none⟩ = some (.int .i64 x.pos) := fun _ _ => cell_regrown k0 _ _
              have m2 : ∀ d os, (grow (redrawn wr d) os).cell? ⟨b, off + k * 4 + 2, none⟩ = some (.bool true) := fun _ _ => cell_regrown k2 _ _
              have m3 : ∀ d os, (grow (redrawn wr d) os).cell? ⟨b, off + k * 4 + 3, none⟩ = some (.int .i64 x.used) := fun _ _ => cell_regrown k3 _ _
              obtain ⟨c0, c1, c2, c3⟩ := HL.out.c4 0 rfl
              have m5 : ∀ d os, (grow (redrawn wr d) os).cell? ⟨n6, 3, none⟩ = some (.int .i64 g1.used) := fun _ _ => cell_regrown c3 _ _
              clear k0 k1 k2 k3 c0 c1 c2 c3
              cases hhx : heldL hl x.pos with
              | true =>
                have Hhx := Lib.hid hhx
                clear hhx
                go_wp2_with fail
                refine wp_region_quiet_below mixed (by kernel_rfl) ?_
                repeat (first | go_big_quiet_step ((exact Calls.rg ((topclean_held hl w.heap.size _ H32.out (L7.out.at_ 2 rfl)).at_ Hhx.out Hp.out.1 Hp.out.2 (HB.out.trans (Below.mono (below_regrown wr _ _) HB.out.size))))) | quiet_step ((exact Calls.rg ((topclean_held hl w.heap.size _ H32.out (L7.out.at_ 2 rfl)).at_ Hhx.out Hp.out.1 Hp.out.2 (HB.out.trans (Below.mono (below_regrown wr _ _) HB.out.size))))))
                refine wpQuiet_nil ?_
                intro _ hw'
                obtain ⟨⟨dq, osq⟩, hw''⟩ := hw'
                subst hw''
                have hb4 := Below.trans HB.out (Below.mono (below_regrown wr dq osq) HB.out.size)
                clear m0 m2 m3 m5
                generalize grow (redrawn wr dq) osq = w4 at hb4 ⊢
                go_wp2
                go_roundw
                case rel => exact ⟨k + 1, by omega, by go_num, hb4⟩
                case measure => simp [intOf]; omega
              | false =>
                have Hhx := Lib.hid hhx
                clear hhx
                have hpn : decide (g1.pos < 0) = false := by have := Hgp.out.1; simp; omega
                have hle : decide (x.used < g1.used) = false := by have := Hmin.out x Hx.out Hd.out Hhx.out; simp; omega
                go_wp2_with fail
                refine wp_region_quiet_below mixed (by kernel_rfl) ?_
                repeat (first | go_big_quiet_step ((exact Calls.rg ((topclean_held hl w.heap.size _ H32.out (L7.out.at_ 2 rfl)).at_ Hhx.out Hp.out.1 Hp.out.2 (HB.out.trans (Below.mono (below_regrown wr _ _) HB.out.size))))) | quiet_step ((exact Calls.rg ((topclean_held hl w.heap.size _ H32.out (L7.out.at_ 2 rfl)).at_ Hhx.out Hp.out.1 Hp.out.2 (HB.out.trans (Below.mono (below_regrown wr _ _) HB.out.size))))))
                refine wpQuiet_nil ?_
                intro _ hw'
                obtain ⟨⟨dq, osq⟩, hw''⟩ := hw'
                subst hw''
                have hb4 := Below.trans HB.out (Below.mono (below_regrown wr dq osq) HB.out.size)
                clear m0 m2 m3 m5
                generalize grow (redrawn wr dq) osq = w4 at hb4 ⊢
                go_wp2
                go_roundw
                case rel => exact ⟨k + 1, by omega, by go_num, hb4⟩
                case measure => simp [intOf]; omega
          · obtain rfl : k = l.length := by omega
            have hi1 : decide ((l.length : Int) < (l.length : Int)) = false := by simp
            have L9 := Lib.hid (L7.out.step HB.out)
            go_wp2
            go_ret
            exact ⟨rfl, L9.out.below⟩
end Go.Proofs.Ytdhiepcglnbkbaa
