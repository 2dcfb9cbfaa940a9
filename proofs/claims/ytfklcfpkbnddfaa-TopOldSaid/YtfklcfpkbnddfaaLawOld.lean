/- The law TopOld: its walk. -/
import Derived.Test.YtfklcfpkbnddfaaLawElev
namespace Go.Proofs.Ytfklcfpkbnddfaa
open Go.RowKit Go.Sort

theorem old_plain {l : List Rq} {now : Int} (hg : goodReqs l = true) (hne : l ≠ []) :
    ∃ (o : Nat) (ro : Rq) (x1 : Int) (wb : Bool) (g s h : Int), nextV l ⟨false, 0, 0, 0⟩ now = .tuple #[.int .i64 x1, tnV ⟨wb, g, s, h⟩] ∧ oldest l wb = o ∧ l[o]? = some ro ∧ o < l.length ∧ bornOk ro ∧
      (now - ro.born < limit wb ∨ x1 = o) := by
  have hk := turned_kind (t := ⟨false, 0, 0, 0⟩) hne
  obtain ⟨o, ro, ho, hro, how, hol⟩ := oldest_ok hk
  refine ⟨o, ro, pickM l (turnedM l ⟨false, 0, 0, 0⟩) now, (turnedM l ⟨false, 0, 0, 0⟩).write, 1, (turnedM l ⟨false, 0, 0, 0⟩).starved, endOf l (pickM l (turnedM l ⟨false, 0, 0, 0⟩) now), ?_, ho, hro, hol, (good_mem hg hro).born, ?_⟩
  · unfold nextV
    rw [nextM_new (by simp)]
  · by_cases he : limit (turnedM l ⟨false, 0, 0, 0⟩).write ≤ now - ro.born
    · right
      unfold pickM
      rw [ho, Int.toNat_natCast, List.getD_eq_getElem?_getD, hro]
      have : expB ro now = true := by unfold expB; rw [how]; simpa using he
      simp [this]
    · left; omega

set_option maxRecDepth 100000 in
set_option maxHeartbeats 4000000 in
theorem topold_walk (S : Nat → Prop) (l : List Rq) (v : Value) (now : Int) (w : World) (h : ReqsAt S w v l) :
    Calls Try.prog 9 #[v, .int .i64 now] w (Ret (.bool true) w) := by
  have H := Lib.hid h
  obtain ⟨A, cap, rfl, h1, h2⟩ := h.form
  unfold maxLen at h2
  clear h
  by_cases g : lightReqs l = true ∧ goodReqs l = true ∧ l ≠ [] ∧ 0 ≤ now ∧ now ≤ 1000000000
  · obtain ⟨g1, g2, g3, g4, g5⟩ := g
    have hlen : ((l.length : Int) == 0) = false := by simp; exact g3
    have G2 := Lib.hid g2
    obtain ⟨o, ro, x1, wb, xg, xs, xh, en, ho, hro, hol, hbo, hor⟩ := old_plain (now := now) g2 g3
    have En := Lib.hid en
    have Ho := Lib.hid ho
    have Hro := Lib.hid hro
    have b1 := hbo.1
    have b2 := hbo.2
    have hoi : (o : Int) < (l.length : Int) := by omega
    clear en ho hro hbo
    have hT := Below.refl w.heap.size w
    go_enter Try.func9, Try.ntmps9
    go_wp2_with (first
      | (go_at_call 47; refine (went_any _).mono ?_; rintro e w1 ⟨rfl, hb1⟩; have hT1 := hT.trans (hb1.mono hT.size); clear hT hb1; have hT := hT1; clear hT1)
      | (go_at_call 23; refine (lightreqs_any S l _ _ (H.out.below hT)).mono ?_; rintro e w1 ⟨rfl, hb1⟩; have hT1 := hT.trans (hb1.mono hT.size); clear hT hb1; have hT := hT1; clear hT1)
      | (go_at_call 24; refine (goodreqs_any S l _ _ (H.out.below hT)).mono ?_; rintro e w1 ⟨rfl, hb1⟩; have hT1 := hT.trans (hb1.mono hT.size); clear hT hb1; have hT := hT1; clear hT1))
    refine (next_any' S l _ ⟨false, 0, 0, 0⟩ now _ (H.out.below hT) G2.out g3 (by unfold i64; simp) g4 g5).mono ?_
    rintro e w1 ⟨rfl, hb1⟩
    have hT1 := hT.trans (hb1.mono hT.size)
    clear hT hb1
    rw [En.out]
    go_wp2_with fail
    have hb := hT1.alloc hT1.size (Obj.cells #[Value.bool wb, Value.int IntKind.i64 xg, Value.int IntKind.i64 xs, Value.int IntKind.i64 xh] 36)
    refine (oldest_any S l _ wb _ (H.out.below hb)).mono ?_
    rintro e w2 ⟨rfl, hb2⟩
    rw [Ho.out]
    have hk := (hb2.block w1.heap.size (by simp)).trans (heap_alloc_new _ _)
    have n0 := cell_of_row _ _ 0 _ _ _ hk
    simp at n0
    have hT2 := hb.trans (hb2.mono hb.size)
    obtain ⟨b, off, rfl, _, hbl, hc⟩ := (H.out.below hT2).at_ (by omega)
    obtain ⟨_, _, _, _, _, _, _, _, _, _, k5⟩ := hc o ro Hro.out
    clear hc hb hb2 hk hT1
    have e : decide (now - ro.born < limit wb) = true ∨ (x1 == (o : Int)) = true := by
      rcases hor with h | h
      · left; exact decide_eq_true h
      · right; simpa using h
    clear hor
    cases wb with
    | true =>
      have el : decide (now - ro.born < 8) = true ∨ (x1 == (o : Int)) = true := e
      clear e
      by_cases hl : now - ro.born < 8
      · go_wp2
        go_ret
        exact ⟨rfl, hT2⟩
      · have hx := el.resolve_left (by simpa using hl)
        clear el
        go_wp2
        go_ret
        exact ⟨rfl, hT2⟩
    | false =>
      have el : decide (now - ro.born < 4) = true ∨ (x1 == (o : Int)) = true := e
      clear e
      by_cases hl : now - ro.born < 4
      · go_wp2
        go_ret
        exact ⟨rfl, hT2⟩
      · have hx := el.resolve_left (by simpa using hl)
        clear el
        go_wp2
        go_ret
        exact ⟨rfl, hT2⟩
  · by_cases g1 : lightReqs l = true
    · by_cases g2 : goodReqs l = true
      · by_cases g3 : l = []
        · have hlen0 : ((l.length : Int) == 0) = true := by rw [g3]; rfl
          clear g g3
          have hT := Below.refl w.heap.size w
          go_enter Try.func9, Try.ntmps9
          go_wp2_with (first
            | (go_at_call 47; refine (went_any _).mono ?_; rintro e w1 ⟨rfl, hb1⟩; have hT1 := hT.trans (hb1.mono hT.size); clear hT hb1; have hT := hT1; clear hT1)
            | (go_at_call 23; refine (lightreqs_any S l _ _ (H.out.below hT)).mono ?_; rintro e w1 ⟨rfl, hb1⟩; have hT1 := hT.trans (hb1.mono hT.size); clear hT hb1; have hT := hT1; clear hT1)
            | (go_at_call 24; refine (goodreqs_any S l _ _ (H.out.below hT)).mono ?_; rintro e w1 ⟨rfl, hb1⟩; have hT1 := hT.trans (hb1.mono hT.size); clear hT hb1; have hT := hT1; clear hT1))
          go_ret
          exact ⟨rfl, hT⟩
        · have hlen : ((l.length : Int) == 0) = false := by simp; exact g3
          by_cases g4 : now < 0
          · clear g
            have hT := Below.refl w.heap.size w
            go_enter Try.func9, Try.ntmps9
            go_wp2_with (first
              | (go_at_call 47; refine (went_any _).mono ?_; rintro e w1 ⟨rfl, hb1⟩; have hT1 := hT.trans (hb1.mono hT.size); clear hT hb1; have hT := hT1; clear hT1)
              | (go_at_call 23; refine (lightreqs_any S l _ _ (H.out.below hT)).mono ?_; rintro e w1 ⟨rfl, hb1⟩; have hT1 := hT.trans (hb1.mono hT.size); clear hT hb1; have hT := hT1; clear hT1)
              | (go_at_call 24; refine (goodreqs_any S l _ _ (H.out.below hT)).mono ?_; rintro e w1 ⟨rfl, hb1⟩; have hT1 := hT.trans (hb1.mono hT.size); clear hT hb1; have hT := hT1; clear hT1))
            go_ret
            exact ⟨rfl, hT⟩
          · have g5 : 1000000000 < now := by
              rcases Int.lt_or_le 1000000000 now with h | h
              · exact h
              · exact absurd ⟨g1, g2, g3, by omega, h⟩ g
            clear g
            have hT := Below.refl w.heap.size w
            go_enter Try.func9, Try.ntmps9
            go_wp2_with (first
              | (go_at_call 47; refine (went_any _).mono ?_; rintro e w1 ⟨rfl, hb1⟩; have hT1 := hT.trans (hb1.mono hT.size); clear hT hb1; have hT := hT1; clear hT1)
              | (go_at_call 23; refine (lightreqs_any S l _ _ (H.out.below hT)).mono ?_; rintro e w1 ⟨rfl, hb1⟩; have hT1 := hT.trans (hb1.mono hT.size); clear hT hb1; have hT := hT1; clear hT1)
              | (go_at_call 24; refine (goodreqs_any S l _ _ (H.out.below hT)).mono ?_; rintro e w1 ⟨rfl, hb1⟩; have hT1 := hT.trans (hb1.mono hT.size); clear hT hb1; have hT := hT1; clear hT1))
            go_ret
            exact ⟨rfl, hT⟩
      · have g2' : goodReqs l = false := by simpa using g2
        clear g
        have hT := Below.refl w.heap.size w
        go_enter Try.func9, Try.ntmps9
        go_wp2_with (first
          | (go_at_call 47; refine (went_any _).mono ?_; rintro e w1 ⟨rfl, hb1⟩; have hT1 := hT.trans (hb1.mono hT.size); clear hT hb1; have hT := hT1; clear hT1)
          | (go_at_call 23; refine (lightreqs_any S l _ _ (H.out.below hT)).mono ?_; rintro e w1 ⟨rfl, hb1⟩; have hT1 := hT.trans (hb1.mono hT.size); clear hT hb1; have hT := hT1; clear hT1)
          | (go_at_call 24; refine (goodreqs_any S l _ _ (H.out.below hT)).mono ?_; rintro e w1 ⟨rfl, hb1⟩; have hT1 := hT.trans (hb1.mono hT.size); clear hT hb1; have hT := hT1; clear hT1))
        go_ret
        exact ⟨rfl, hT⟩
    · have g1' : lightReqs l = false := by simpa using g1
      clear g
      have hT := Below.refl w.heap.size w
      go_enter Try.func9, Try.ntmps9
      go_wp2_with (first
        | (go_at_call 47; refine (went_any _).mono ?_; rintro e w1 ⟨rfl, hb1⟩; have hT1 := hT.trans (hb1.mono hT.size); clear hT hb1; have hT := hT1; clear hT1)
        | (go_at_call 23; refine (lightreqs_any S l _ _ (H.out.below hT)).mono ?_; rintro e w1 ⟨rfl, hb1⟩; have hT1 := hT.trans (hb1.mono hT.size); clear hT hb1; have hT := hT1; clear hT1)
        | (go_at_call 24; refine (goodreqs_any S l _ _ (H.out.below hT)).mono ?_; rintro e w1 ⟨rfl, hb1⟩; have hT1 := hT.trans (hb1.mono hT.size); clear hT hb1; have hT := hT1; clear hT1))
      go_ret
      exact ⟨rfl, hT⟩
end Go.Proofs.Ytfklcfpkbnddfaa
