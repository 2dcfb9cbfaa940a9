
/- The law TopCache: its walk. -/
import Derived.Test.YtdhiepcglnbkbaaLawLately
namespace Go.Proofs.Ytdhiepcglnbkbaa
set_option linter.unusedSimpArgs false
set_option linter.unusedVariables false
open Go.RowKit Go.Sort

theorem tnumber_any (n : Nat) (w : World) : Calls Try.prog 55 #[errV n] w (RetSame (.int .i64 (n : Int)) w) := by
  by_cases h : n = 0
  · subst h
    rw [errV_zero]
    go_enter Try.func55, Try.ntmps55
    go_wp2
    go_ret
    exact ⟨rfl, rfl⟩
  · rw [errV_pos h]
    go_enter Try.func55, Try.ntmps55
    go_wp2
    go_ret
    exact ⟨rfl, rfl⟩
def litZ : Bf := ⟨3, ⟨#[120]⟩, false, 0⟩
def goneN (J k : Nat) : Nat := if J < k then 1 else 0
theorem goneN_same {J k : Nat} (h : k ≠ J) : goneN J (k + 1) = goneN J k := by unfold goneN; by_cases h1 : J < k <;> simp [h1] <;> omega
theorem goneN_at (k : Nat) : goneN k (k + 1) = 1 ∧ goneN k k = 0 := by unfold goneN; simp

set_option maxRecDepth 100000 in
set_option maxHeartbeats 8000000 in
theorem tcache_walk (l : List Bf) (b : Bf) (hl : List Bool) (v : Value) (w : World) (h : BufsAt Any w v l) (hb : BfOk b) (h32 : hl.length = 32) :
    Calls Try.prog 10 #[v, bfV b, .agg (hldV hl)] w (Ret (.bool true) w) := by
  obtain ⟨A, cap, rfl, h1, h2⟩ := h.form
  unfold maxLen at h2
  have hbs := hb.data
  unfold maxLen at hbs
  have H := Lib.hid h
  have Hbok := Lib.hid hb
  have H32 := Lib.hid h32
  have hz := zero_buf
  clear h hb h32
  go_enter Try.func10, Try.ntmps10
  go_wp2_with fail
  have L := Lib.hid (((Lay.refl w).alloc' w.heap.size #[.int .i64 b.pos, .string b.data, .bool b.dirty, .int .i64 b.used] 72 rfl).alloc' (w.heap.size + 1) (hldV hl) 73 (by simp))
  generalize World.alloc _ _ = W at L ⊢
  refine (put_room (fun _ => True) [] (.slice none 0 0) litZ _ _ BufsAt.nil (by simp [Rises]) rfl (by simp)).mono ?_
  rintro e w1 ⟨v1, rfl, hown1, hb1⟩
  rw [show insB [] litZ = [litZ] from rfl] at hown1
  obtain ⟨A1, c1, rfl, _, _⟩ := own_slice hown1
  have L1 := Lib.hid (L.out.step hb1)
  clear L hb1 hown1
  simp only [List.length_cons, List.length_nil, Nat.zero_add]
  go_wp2_with fail
  refine (goodbufs_any Any l _ _ (H.out.below L1.out.below)).mono ?_
  rintro e w2 ⟨rfl, hb2⟩
  have L2 := Lib.hid (L1.out.step hb2)
  clear L1 hb2
  obtain ⟨q0, q1, q2, q3⟩ := L2.out.c4 1 rfl
  by_cases g0 : goodB l
  rotate_left
  · rw [decide_eq_false g0]
    go_wp2_with fail
    go_ret
    exact ⟨rfl, L2.out.below⟩
  rw [decide_eq_true g0]
  have hl8 := g0.1
  have HR := Lib.hid g0.2.2
  have HI := Lib.hid (goodB_in' g0)
  clear g0
  by_cases g1 : b.pos < 0
  · go_wp2_with fail
    go_ret
    exact ⟨rfl, L2.out.below⟩
  have f1 : decide (b.pos < 0) = false := decide_eq_false g1
  by_cases g2 : 32 ≤ b.pos
  · go_wp2_with fail
    go_ret
    exact ⟨rfl, L2.out.below⟩
  have f2 : decide (32 ≤ b.pos) = false := decide_eq_false g2
  by_cases g3 : 10 < b.data.size
  · have f3 : (10 : Int) < (b.data.size : Int) := by omega
    go_wp2_with fail
    go_ret
    exact ⟨rfl, L2.out.below⟩
  have f3 : decide ((10 : Int) < (b.data.size : Int)) = false := by simp; omega
  clear g1 g2 g3
  cases hp : putB l b (heldL hl) with
  | none =>
    have Hp := Lib.hid hp
    have hl8' : l.length = 8 := by have := put_fail hp; omega
    have He8 : ((l.length : Int) == 8) = true := by rw [hl8']; rfl
    clear hl8'
    go_wp2_with fail
    refine (put_none Any l _ b _ _ _ (heldL hl) _ (H.out.below L2.out.below) HR.out HI.out (topcache_held hl (w.heap.size + 1) _ H32.out (L2.out.at_ 0 rfl)) (by omega) Hp.out).mono ?_
    rintro e w8 ⟨rfl, hb8⟩
    have L8 := Lib.hid (L2.out.step hb8)
    clear hb8 q0 q1 q2 q3 hp
    go_wp2_with fail
    refine (tnumber_any 7 _).mono ?_
    rintro e w9 ⟨rfl, rfl⟩
    go_wp2_with fail
    go_ret
    exact ⟨rfl, L8.out.below⟩
  | some m =>
    have Hp := Lib.hid hp
    have Hmok := Lib.hid (put_ok' H.out.2 Hbok.out hp)
    obtain ⟨J, hJ⟩ := put_spec HR.out hl8 hp
    have HJ := Lib.hid hJ
    have hm8 : m.length ≤ 8 := hJ.len
    clear hp hJ
    go_wp2_with fail
    refine (put_some Any l m _ b _ _ _ (heldL hl) _ (H.out.below L2.out.below) HR.out HI.out (topcache_held hl (w.heap.size + 1) _ H32.out (L2.out.at_ 0 rfl)) (by omega) Hp.out).mono ?_
    rintro e w3 ⟨v5, rfl, hown5, hb5⟩
    have L3 := Lib.hid (L2.out.step hb5)
    obtain ⟨A5, c5, rfl, _, _⟩ := own_slice hown5
    have Ho3 := Lib.hid hown5
    clear hb5 q0 q1 q2 q3 hown5 L2 f1 f2 f3
    obtain ⟨q0, q1, q2, q3⟩ := L3.out.c4 1 rfl
    go_wp2_with fail
    refine (get_any (fun _ => True) m _ b.pos _ (bufs_of_own (fun _ _ => trivial) Ho3.out Hmok.out) HJ.out.rises (by omega)).mono ?_
    rintro e w4 ⟨rfl, hb4⟩
    have L4 := Lib.hid (L3.out.step hb4)
    have Ho4 := Lib.hid (own_below Ho3.out hb4)
    rw [HJ.out.own]
    clear hb4 q0 q1 q2 q3 L3 Ho3
    obtain ⟨n4, hn4⟩ : ∃ n, w4.heap.size = n := ⟨_, rfl⟩
    have L5 := Lib.hid (L4.out.alloc' n4 #[.int .i64 b.pos, .string b.data, .bool b.dirty, .int .i64 b.used] 72 hn4)
    obtain ⟨q0, q1, q2, q3⟩ := L5.out.c4 2 rfl
    have hb5 := (Below.refl w4.heap.size w4).alloc (Nat.le_refl _) (.cells #[.int .i64 b.pos, .string b.data, .bool b.dirty, .int .i64 b.used] 72)
    have hbn := buf_ne_same b.pos b.data b.dirty b.used
    have hm8' : decide ((8 : Int) < (m.length : Int)) = false := by simp; omega
    go_wp2_with fail
    clear q0 q1 q2 q3
    generalize World.alloc _ _ = w5 at L5 hb5 ⊢
    have Ho5 := Lib.hid (own_below Ho4.out hb5)
    clear hb5 hn4 L4 hbn hm8' Ho4
    go_loopw [13, 14] (fun gn i wr => ∃ k : Nat, k ≤ l.length ∧ i = .int .i64 k ∧ gn = .int .i64 (goneN J k : Nat) ∧ Hid (Below w5.heap.size w5 wr)) (fun _ i _ => l.length - (intOf i).toNat)
    case atStart => exact ⟨0, by omega, rfl, rfl, Below.refl _ _⟩
    case round =>
      obtain ⟨k, hk, rfl, rfl, HB⟩ := hrel
      by_cases hlt : k < l.length
      · have hkl : (k : Int) < (l.length : Int) := by omega
        have HL := Lib.hid (L5.out.step HB.out)
        obtain ⟨bk, off, rfl, _, hbl, hc⟩ := (H.out.below HL.out.below).at_ (by omega)
        have hx : l[k]? = some l[k] := List.getElem?_eq_getElem hlt
        obtain ⟨_, k0, k1, k2, k3⟩ := hc k _ hx
        have Hx := Lib.hid hx
        have Hin := Lib.hid (HI.out _ (List.mem_of_getElem? hx))
        clear hx hc
        generalize l[k] = x at *
        go_wp2_with fail
        refine (get_any (fun _ => True) m _ x.pos _ (bufs_of_own (fun _ _ => trivial) (own_below Ho5.out HB.out) Hmok.out) HJ.out.rises (by omega)).mono ?_
        rintro e w6 ⟨rfl, hb6⟩
        have HB6 := Lib.hid (HB.out.trans (hb6.mono HB.out.size))
        clear hb6 k0 k1 k2 k3
        by_cases hpp : x.pos = b.pos
        · have hkJ : k ≠ J := fun e => (HJ.out.gone x (by rw [← e]; exact Hx.out)).1 hpp
          have HkJ := Lib.hid hkJ
          have Hpp := Lib.hid hpp
          have hget := HJ.out.own
          rw [← hpp] at hget
          rw [hget]
          have hep : (x.pos == b.pos) = true := by simpa using hpp
          clear hkJ hpp hget
          go_wp2_with fail
          have LW := (Lay.refl w6).alloc' w6.heap.size #[.int .i64 b.pos, .string b.data, .bool b.dirty, .int .i64 b.used] 72 rfl
          generalize World.alloc _ _ = w7 at LW ⊢
          have HB7 := Lib.hid (HB6.out.trans (LW.below.mono HB6.out.size))
          have HL7 := Lib.hid (L5.out.step HB7.out)
          obtain ⟨q0, q1, q2, q3⟩ := HL7.out.c4 2 rfl
          obtain ⟨_, _, e, _, _, hc⟩ := (H.out.below HL7.out.below).at_ (by omega)
          cases e
          obtain ⟨_, k0, k1, k2, k3⟩ := hc k _ Hx.out
          obtain ⟨y0, y1, y2, y3⟩ := LW.c4 0 rfl
          clear hc
          go_quiet (fail)
          have HB8 := Lib.hid (HB7.out.trans (drewN_below' w5.heap.size w7 nq))
          clear q0 q1 q2 q3 k0 k1 k2 k3 y0 y1 y2 y3
          go_wp2_with fail
          go_roundw
          case rel => exact ⟨k + 1, by omega, by go_num, by rw [goneN_same HkJ.out], HB8⟩
          case measure => simp [intOf]; omega
        · have hep : (x.pos == b.pos) = false := by simpa using hpp
          by_cases hkJ : k = J
          · subst hkJ
            obtain ⟨hne, hget, hq1, hq2, hq3, hmin⟩ := HJ.out.gone x Hx.out
            have Hq1 := Lib.hid hq1
            have Hq2 := Lib.hid hq2
            rw [hget]
            obtain ⟨g1, hg1⟩ : ∃ g, g = zeroBf := ⟨_, rfl⟩
            rw [← hg1]
            have Hpp := Lib.hid hpp
            clear hg1 hget hmin hne hq1 hq2 hq3 hpp
            go_wp2_with fail
            have LW := (Lay.refl w6).alloc' w6.heap.size #[.int .i64 g1.pos, .string g1.data, .bool g1.dirty, .int .i64 g1.used] 72 rfl
            generalize World.alloc _ _ = w7 at LW ⊢
            have HB7 := Lib.hid (HB6.out.trans (LW.below.mono HB6.out.size))
            have HL7 := Lib.hid (L5.out.step HB7.out)
            obtain ⟨q0, q1, q2, q3⟩ := HL7.out.c4 2 rfl
            obtain ⟨_, _, e, _, _, hc⟩ := (H.out.below HL7.out.below).at_ (by omega)
            cases e
            obtain ⟨_, k0, k1, k2, k3⟩ := hc k _ Hx.out
            obtain ⟨y0, y1, y2, y3⟩ := LW.c4 0 rfl
            clear hc
            rw [(goneN_at k).2]
            go_quiet (fail)
            have HB8 := Lib.hid (HB7.out.trans (drewN_below' w5.heap.size w7 nq))
            clear q0 q1 q2 q3 k0 k1 k2 k3 y0 y1 y2 y3
            generalize World.drewN _ _ = w8 at HB8 ⊢
            have HL8 := Lib.hid (L5.out.step HB8.out)
            obtain ⟨_, _, e, _, _, hc⟩ := (H.out.below HL8.out.below).at_ (by omega)
            cases e
            obtain ⟨_, k0, k1, k2, k3⟩ := hc k _ Hx.out
            clear hc
            rw [Hq1.out] at k2
            have hen := enters Try.func61 (by kernel_rfl) rfl
            go_wp2_with fail
            refine (topcache_hold hl (w.heap.size + 1) x.pos _ H32.out (HL8.out.at_ 1 rfl) Hin.out.1 Hin.out.2).mono ?_
            rintro e w9 ⟨rfl, hb9⟩
            rw [Hq2.out]
            have HB9 := Lib.hid (HB8.out.trans (hb9.mono HB8.out.size))
            clear hb9 k0 k1 k2 k3
            go_wp2_with fail
            go_roundw
            case rel => exact ⟨k + 1, by omega, by go_num, by rw [(goneN_at k).1]; rfl, HB9⟩
            case measure => simp [intOf]; omega
          · have hget := HJ.out.stay k x Hx.out hpp hkJ
            rw [hget]
            have HkJ := Lib.hid hkJ
            have Hpp := Lib.hid hpp
            clear hkJ hpp hget
            go_wp2_with fail
            have LW := (Lay.refl w6).alloc' w6.heap.size #[.int .i64 x.pos, .string x.data, .bool x.dirty, .int .i64 x.used] 72 rfl
            generalize World.alloc _ _ = w7 at LW ⊢
            have HB7 := Lib.hid (HB6.out.trans (LW.below.mono HB6.out.size))
            have HL7 := Lib.hid (L5.out.step HB7.out)
            obtain ⟨q0, q1, q2, q3⟩ := HL7.out.c4 2 rfl
            obtain ⟨_, _, e, _, _, hc⟩ := (H.out.below HL7.out.below).at_ (by omega)
            cases e
            obtain ⟨_, k0, k1, k2, k3⟩ := hc k _ Hx.out
            obtain ⟨y0, y1, y2, y3⟩ := LW.c4 0 rfl
            clear hc
            have hbn := buf_ne_same x.pos x.data x.dirty x.used
            go_quiet (fail)
            have HB8 := Lib.hid (HB7.out.trans (drewN_below' w5.heap.size w7 nq))
            have Y0 := y0
            have Y1 := y1
            have Y2 := y2
            have Y3 := y3
            go_wp2_with fail
            go_quiet (fail)
            go_wp2_with fail
            go_roundw
            case rel => exact ⟨k + 1, by omega, by go_num, by rw [goneN_same HkJ.out], (HB7.out.trans (drewN_below' _ _ _) : Below _ _ _)⟩
            case measure => simp [intOf]; omega
      · obtain rfl : k = l.length := by omega
        have hi1 : decide ((l.length : Int) < (l.length : Int)) = false := by simp
        have L9 := Lib.hid (L5.out.step HB.out)
        have Ho9 := Lib.hid (own_below Ho5.out HB.out)
        obtain ⟨N, hN⟩ : ∃ N, goneN J l.length = N := ⟨_, rfl⟩
        have hN1 : N ≤ 1 := by rw [← hN]; unfold goneN; split <;> omega
        have HN : Hid (N = 0 ∨ l.length = 8) := by
          show _ ∨ _
          by_cases hJl : J < l.length
          · right
            have hxJ : l[J]? = some l[J] := List.getElem?_eq_getElem hJl
            exact (HJ.out.gone _ hxJ).2.2.2.2.1
          · left
            rw [← hN]; unfold goneN; rw [if_neg hJl]
        rw [hN]
        clear hN
        go_wp2_with fail
        clear hi1
        obtain ⟨wo, hwo⟩ : ∃ wo : World, wo = wr := ⟨_, rfl⟩
        have L9o := L9
        rw [← hwo] at L9o
        go_loopw [17] (fun j wr2 => ∃ q : Nat, 1 ≤ q ∧ q ≤ m.length + 1 ∧ j = .int .i64 q ∧ Hid (Below wo.heap.size wo wr2)) (fun j _ => m.length + 1 - (intOf j).toNat)
        case atStart => exact ⟨1, by omega, by omega, rfl, (hwo ▸ Below.refl _ _ : Below wo.heap.size wo wr)⟩
        case round =>
          obtain ⟨q, hq1, hq, rfl, HB8⟩ := hrel
          by_cases hql : q < m.length
          · have hqi : (q : Int) < (m.length : Int) := by omega
            have Ho8 := own_below (hwo ▸ Ho9.out : wo.ownsRow _ _ _ _ _ _) HB8.out
            obtain ⟨gm, cm, e, _, hgm, _, _⟩ := own_pos Ho8 (by omega)
            cases e
            have hy : m[q]? = some m[q] := List.getElem?_eq_getElem hql
            have hz' : m[q - 1]? = some (m[q - 1]'(by omega)) := List.getElem?_eq_getElem (by omega)
            obtain ⟨j0, j1, j2, j3⟩ := own_cells4 Ho8 hy
            obtain ⟨i0, i1, i2, i3⟩ := own_cells4 Ho8 hz'
            have hle : decide ((m[q]).pos ≤ (m[q - 1]'(by omega)).pos) = false := by have := HJ.out.rises.lt (by omega) hz' hy; simp; omega
            generalize m[q] = y at *
            generalize m[q - 1]'(by omega) = z at *
            have hi2 : (0 : Int) ≤ (q : Int) - 1 := by omega
            have hi3 : (q : Int) - 1 < (m.length : Int) := by omega
            have hi4 : ((q : Int) - 1).toNat = q - 1 := by omega
            clear hy hz' Ho8 hwo
            go_wp2_with fail
            go_quiet (fail)
            go_wp2_with fail
            go_roundw
            case rel => exact ⟨q + 1, by omega, by omega, by go_num, (HB8.out.trans (drewN_below' _ _ _) : Below _ _ _)⟩
            case measure => simp [intOf]; omega
          · have hi2 : decide ((q : Int) < (m.length : Int)) = false := by simp; omega
            have L10 := Lib.hid (L9o.out.step HB8.out)
            clear hwo
            rcases HN.out with h0 | h8
            · subst h0
              go_wp2_with fail
              go_ret
              exact ⟨rfl, L10.out.below⟩
            · have h8' : ((l.length : Int) == 8) = true := by rw [h8]; rfl
              have hN2 : (N : Int) ≤ 1 := by omega
              clear h8
              cases hN0 : ((N : Int) == 0)
              all_goals
                go_wp2_with fail
                go_ret
                exact ⟨rfl, L10.out.below⟩
end Go.Proofs.Ytdhiepcglnbkbaa
