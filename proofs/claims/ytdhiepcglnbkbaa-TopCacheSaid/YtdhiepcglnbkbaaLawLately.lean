
/- The law TopLately: its walk. -/
import Derived.Test.YtdhiepcglnbkbaaLawClean
namespace Go.Proofs.Ytdhiepcglnbkbaa
set_option linter.unusedSimpArgs false
set_option linter.unusedVariables false
open Go.RowKit Go.Sort

def litU : Bf := ⟨3, ⟨#[]⟩, false, 0⟩
def litU' : Bf := ⟨3, ⟨#[]⟩, false, 9⟩
theorem litU_ok : ∀ x ∈ [litU], BfOk x := fun x hx => by simp at hx; subst hx; exact ⟨by unfold i64 litU; simp only; omega, by unfold i64 litU; simp only; omega, by unfold litU maxLen; decide⟩
theorem useU : useB [litU] 3 9 = [litU'] := by unfold useB litU litU'; simp
theorem goodB_in' {l : List Bf} (h : goodB l) : InB l := fun b hb => ⟨(h.2.1 b hb).1, (h.2.1 b hb).2.1⟩
theorem ins_ok' {l : List Bf} (h : ∀ b ∈ l, BfOk b) {c : Bf} (hc : BfOk c) : ∀ b ∈ insB l c, BfOk b := fun b hb => by
  rcases mem_insB.1 hb with rfl | hb
  · exact hc
  · exact h b hb
theorem put_ok' {l m : List Bf} {b : Bf} {held : Int → Bool} (h : ∀ b ∈ l, BfOk b) (hb : BfOk b) (hp : putB l b held = some m) : ∀ b ∈ m, BfOk b := by
  unfold putB at hp
  split at hp
  · cases hp
    intro c hc
    obtain ⟨x, hx, rfl⟩ := List.mem_map.1 hc
    split
    · exact hb
    · exact h x hx
  · split at hp
    · split at hp
      · cases hp
      · cases hp; exact ins_ok' (fun x hx => h x (List.mem_of_mem_eraseIdx hx)) hb
    · cases hp; exact ins_ok' h hb

set_option maxRecDepth 100000 in
set_option maxHeartbeats 4000000 in
theorem lately_walk (l : List Bf) (b : Bf) (v : Value) (w : World) (h : BufsAt Any w v l) (hb : BfOk b) :
    Calls Try.prog 11 #[v, bfV b] w (Ret (.bool true) w) := by
  obtain ⟨A, cap, rfl, h1, h2⟩ := h.form
  unfold maxLen at h2
  have hbs := hb.data
  unfold maxLen at hbs
  have H := Lib.hid h
  have Hbok := Lib.hid hb
  have hz := zero_buf
  clear h hb
  go_enter Try.func11, Try.ntmps11
  go_wp2_with fail
  have L := Lib.hid (((Lay.refl w).alloc' w.heap.size #[.int .i64 b.pos, .string b.data, .bool b.dirty, .int .i64 b.used] 72 rfl).alloc' (w.heap.size + 1) #[.int .i64 3, .string ⟨#[]⟩, .bool false, .int .i64 0] 72 (by simp))
  generalize World.alloc _ _ = W at L ⊢
  refine (use_any (fun _ => True) [litU] _ 3 9 _ (box_bufs (b := litU) (L.out.at_ 0 rfl) litU_ok) (by simp [Rises]) (by simp)).mono ?_
  rintro e w1 ⟨v1, rfl, hown1, hb1⟩
  rw [useU] at hown1
  have L1 := Lib.hid (L.out.step hb1)
  clear L hb1
  obtain ⟨g, cp, rfl, hbg, hgl, _, _⟩ := own_pos hown1 (by simp)
  obtain ⟨k0, k1, k2, k3⟩ := own_cells4 hown1 (i := 0) (x := litU') rfl
  simp only [Nat.zero_mul, Nat.zero_add] at k0 k1 k2 k3
  simp only [List.length_cons, List.length_nil, Nat.zero_add]
  rw [show litU'.used = 9 from rfl] at k3
  clear hown1
  go_wp2_with fail
  refine (goodbufs_any Any l _ _ (H.out.below L1.out.below)).mono ?_
  rintro e w2 ⟨rfl, hb2⟩
  have L2 := Lib.hid (L1.out.step hb2)
  clear L1 hb2 k0 k1 k2 k3 hbg hgl
  obtain ⟨q0, q1, q2, q3⟩ := L2.out.c4 1 rfl
  by_cases g0 : goodB l
  rotate_left
  · rw [decide_eq_false g0]
    go_wp2_with fail
    go_ret
    exact ⟨rfl, L2.out.below⟩
  rw [decide_eq_true g0]
  have hl8 := g0.1
  have HR := Lib.hid g0.2.2
  have HI := Lib.hid (goodB_in' g0)
  clear g0
  by_cases g1 : b.pos < 0
  · go_wp2_with fail
    go_ret
    exact ⟨rfl, L2.out.below⟩
  have f1 : decide (b.pos < 0) = false := decide_eq_false g1
  by_cases g2 : 32 ≤ b.pos
  · go_wp2_with fail
    go_ret
    exact ⟨rfl, L2.out.below⟩
  have f2 : decide (32 ≤ b.pos) = false := decide_eq_false g2
  by_cases g3 : 10 < b.data.size
  · have f3 : (10 : Int) < (b.data.size : Int) := by omega
    go_wp2_with fail
    go_ret
    exact ⟨rfl, L2.out.below⟩
  have f3 : decide ((10 : Int) < (b.data.size : Int)) = false := by simp; omega
  clear g1 g2 g3
  cases hp : putB l b (fun _ => false) with
  | none =>
    have Hp := Lib.hid hp
    go_wp2_with fail
    refine (put_none Any l _ b _ _ _ (fun _ => false) _ (H.out.below L2.out.below) HR.out HI.out (none__held _) (by omega) Hp.out).mono ?_
    rintro e w8 ⟨rfl, hb8⟩
    have L8 := Lib.hid (L2.out.step hb8)
    clear hb8 q0 q1 q2 q3 hp
    go_wp2_with fail
    go_ret
    exact ⟨rfl, L8.out.below⟩
  | some m =>
    have Hp := Lib.hid hp
    have Hmok := Lib.hid (put_ok' H.out.2 Hbok.out hp)
    obtain ⟨J, hJ⟩ := put_spec HR.out hl8 hp
    have HJ := Lib.hid hJ
    have hm8 : m.length ≤ 65536 := by have := hJ.len; omega
    clear hp hJ
    go_wp2_with fail
    refine (put_some Any l m _ b _ _ _ (fun _ => false) _ (H.out.below L2.out.below) HR.out HI.out (none__held _) (by omega) Hp.out).mono ?_
    rintro e w5 ⟨v5, rfl, hown5, hb5⟩
    have L5 := Lib.hid (L2.out.step hb5)
    obtain ⟨A5, c5, rfl, _, _⟩ := own_slice hown5
    have Ho5 := Lib.hid hown5
    clear hb5 q0 q1 q2 q3 hown5 L2 f1 f2 f3
    go_wp2_with fail
    go_loopw [8] (fun i wr => ∃ k : Nat, k ≤ l.length ∧ i = .int .i64 k ∧ Hid (Below w5.heap.size w5 wr)) (fun i _ => l.length - (intOf i).toNat)
    case atStart => exact ⟨0, by omega, rfl, Below.refl _ _⟩
    case round =>
      obtain ⟨k, hk, rfl, HB⟩ := hrel
      by_cases hlt : k < l.length
      · have hkl : (k : Int) < (l.length : Int) := by omega
        have HL := Lib.hid (L5.out.step HB.out)
        obtain ⟨bk, off, rfl, _, hbl, hc⟩ := (H.out.below HL.out.below).at_ (by omega)
        have hx : l[k]? = some l[k] := List.getElem?_eq_getElem hlt
        obtain ⟨_, k0, k1, k2, k3⟩ := hc k _ hx
        have Hx := Lib.hid hx
        clear hx hc
        generalize l[k] = x at *
        go_wp2_with fail
        refine (get_any (fun _ => True) m _ x.pos _ (bufs_of_own (fun _ _ => trivial) (own_below Ho5.out HB.out) Hmok.out) HJ.out.rises hm8).mono ?_
        rintro e w6 ⟨rfl, hb6⟩
        have HB6 := Lib.hid (HB.out.trans (hb6.mono HB.out.size))
        clear hb6 k0 k1 k2 k3
        by_cases hkJ : k = J
        · subst hkJ
          obtain ⟨hne, hget, hq1, hq2, hq3, hmin⟩ := HJ.out.gone x Hx.out
          have Hmin := Lib.hid hmin
          rw [hget]
          obtain ⟨g1, hg1⟩ : ∃ g, g = zeroBf := ⟨_, rfl⟩
          rw [← hg1]
          clear hg1 hget hmin hne hq1 hq2 hq3
          go_wp2_with fail
          have LW := (Lay.refl w6).alloc' w6.heap.size #[.int .i64 g1.pos, .string g1.data, .bool g1.dirty, .int .i64 g1.used] 72 rfl
          generalize World.alloc _ _ = w7 at LW ⊢
          have HB7 := Lib.hid (HB6.out.trans (LW.below.mono HB6.out.size))
          clear LW
          obtain ⟨wo, hwo⟩ : ∃ wo : World, wo = wr := ⟨_, rfl⟩
          go_loopw [11] (fun j wr2 => ∃ q : Nat, q ≤ l.length ∧ j = .int .i64 q ∧ Hid (Below w5.heap.size w5 wr2)) (fun j _ => l.length - (intOf j).toNat)
          case atStart => exact ⟨0, by omega, rfl, HB7⟩
          case round =>
            obtain ⟨q, hq, rfl, HB8⟩ := hrel
            by_cases hql : q < l.length
            · have hqi : (q : Int) < (l.length : Int) := by omega
              have HL8 := Lib.hid (L5.out.step HB8.out)
              obtain ⟨bq, off', e, _, hbl', hc⟩ := (H.out.below HL8.out.below).at_ (by omega)
              cases e
              have hy : l[q]? = some l[q] := List.getElem?_eq_getElem hql
              obtain ⟨_, j0, j1, j2, j3⟩ := hc q _ hy
              obtain ⟨_, i0, i1, i2, i3⟩ := hc k _ Hx.out
              have Hy := Lib.hid hy
              clear hy hc i0 i1 i2
              generalize l[q] = y at *
              cases hd : y.dirty with
              | true =>
                rw [hd] at j2
                clear hd
                go_wp2_with fail
                go_quiet (fail)
                go_wp2_with fail
                go_roundw
                case rel => exact ⟨q + 1, by omega, by go_num, (HB8.out.trans (drewN_below' _ _ _) : Below _ _ _)⟩
                case measure => simp [intOf]; omega
              | false =>
                rw [hd] at j2
                have hle : decide (y.used < x.used) = false := by have := Hmin.out q y Hy.out hd (by first | rfl | trivial); simp; omega
                clear hd
                go_wp2_with fail
                go_quiet (fail)
                go_wp2_with fail
                go_roundw
                case rel => exact ⟨q + 1, by omega, by go_num, (HB8.out.trans (drewN_below' _ _ _) : Below _ _ _)⟩
                case measure => simp [intOf]; omega
            · obtain rfl : q = l.length := by omega
              have hi1 : decide ((l.length : Int) < (l.length : Int)) = false := by simp
              go_wp2_with fail
              go_roundw
              case rel =>
                first
                  | exact ⟨k + 1, by omega, by go_num, HB8⟩
                  | ((repeat apply Exists.intro)
                     refine ⟨?rel, ?fr⟩
                     case fr => (repeat' (first | rfl | apply And.intro))
                     case rel => exact ⟨k + 1, by omega, by go_num, HB8⟩)
              case measure => simp [intOf]; omega
        · obtain ⟨y, hget⟩ : ∃ y, getB m x.pos = (y, true) := by
            by_cases hpp : x.pos = b.pos
            · exact ⟨b, by rw [hpp]; exact HJ.out.own⟩
            · exact ⟨x, HJ.out.stay k x Hx.out hpp hkJ⟩
          rw [hget]
          clear hget
          go_wp2_with fail
          have LW := (Lay.refl w6).alloc' w6.heap.size #[.int .i64 y.pos, .string y.data, .bool y.dirty, .int .i64 y.used] 72 rfl
          generalize World.alloc _ _ = w7 at LW ⊢
          have HB7 := Lib.hid (HB6.out.trans (LW.below.mono HB6.out.size))
          clear LW
          go_roundw
          case rel => exact ⟨k + 1, by omega, by go_num, HB7⟩
          case measure => simp [intOf]; omega
      · obtain rfl : k = l.length := by omega
        have hi1 : decide ((l.length : Int) < (l.length : Int)) = false := by simp
        have L9 := Lib.hid (L5.out.step HB.out)
        go_wp2
        go_ret
        exact ⟨rfl, L9.out.below⟩
end Go.Proofs.Ytdhiepcglnbkbaa
