/- The law TopElevator: its walk. -/
import Derived.Test.YtfklcfpkbnddfaaLawElev
import Derived.Test.YtfklcfpkbnddfaaTake
import Derived.Test.YtfklcfpkbnddfaaMod3
import Derived.Test.YtfklcfpkbnddfaaMem2
namespace Go.Proofs.Ytfklcfpkbnddfaa
set_option linter.unusedSimpArgs false
set_option linter.unusedVariables false
open Go.RowKit Go.Sort

theorem TnBox.f {B : Nat} {w wr : World} {t : Tn} (h : TnBox B w wr t) : wr.frozen? ⟨B, 0, none⟩ = false ∧ wr.frozen? ⟨B, 1, none⟩ = false ∧ wr.frozen? ⟨B, 2, none⟩ = false ∧ wr.frozen? ⟨B, 3, none⟩ = false :=
  ⟨frozen_of_row _ _ 0 _ _ h.b1, frozen_of_row _ _ 1 _ _ h.b1, frozen_of_row _ _ 2 _ _ h.b1, frozen_of_row _ _ 3 _ _ h.b1⟩
theorem TnBox.put {B : Nat} {w wr : World} {t : Tn} (h : TnBox B w wr t) (t' : Tn) : TnBox B w ((((wr.setCell ⟨B, 0, none⟩ (.bool t'.write)).setCell ⟨B, 1, none⟩ (.int .i64 t'.gone)).setCell ⟨B, 2, none⟩ (.int .i64 t'.starved)).setCell ⟨B, 3, none⟩ (.int .i64 t'.wh)) t' := by
  refine ⟨((((h.below.setCell (Nat.le_refl _) _).setCell (Nat.le_refl _) _).setCell (Nat.le_refl _) _).setCell (Nat.le_refl _) _), by simpa using h.lt, ?_⟩
  have h1 := heap_setCell_same _ _ 0 _ _ (.bool t'.write) h.b1
  have h2 := heap_setCell_same _ _ 1 _ _ (.int .i64 t'.gone) h1
  have h3 := heap_setCell_same _ _ 2 _ _ (.int .i64 t'.starved) h2
  have h4 := heap_setCell_same _ _ 3 _ _ (.int .i64 t'.wh) h3
  rw [h4]; rfl
theorem put_below (B : Nat) (wr : World) (t' : Tn) : Below B wr ((((wr.setCell ⟨B, 0, none⟩ (.bool t'.write)).setCell ⟨B, 1, none⟩ (.int .i64 t'.gone)).setCell ⟨B, 2, none⟩ (.int .i64 t'.starved)).setCell ⟨B, 3, none⟩ (.int .i64 t'.wh)) := by
  repeat ((with_reducible refine Below.setCell ?_ ?hp _); case hp => simp)
  exact Below.refl _ _
theorem put_other (B : Nat) (wr : World) (t' : Tn) (b : Nat) (hb : b ≠ B) : ((((wr.setCell ⟨B, 0, none⟩ (.bool t'.write)).setCell ⟨B, 1, none⟩ (.int .i64 t'.gone)).setCell ⟨B, 2, none⟩ (.int .i64 t'.starved)).setCell ⟨B, 3, none⟩ (.int .i64 t'.wh)).heap[b]? = wr.heap[b]? := by
  repeat (rw [heap_setCell_other _ _ _ _ (by simpa using hb)])
theorem light_len {l : List Rq} (h : lightReqs l = true) : l.length ≤ 10 := by
  unfold lightReqs at h; simp at h; exact h.1

set_option maxRecDepth 100000 in
set_option maxHeartbeats 4000000 in
theorem topelev_good (S : Nat → Prop) (hS : ∀ b, S b) (l : List Rq) (v : Value) (now : Int) (w : World) (h : ReqsAt S w v l) (g1 : lightReqs l = true) (g2 : goodReqs l = true) (g4 : 0 ≤ now) (g5 : now ≤ 1000000000) :
    Calls Try.prog 12 #[v, .int .i64 now] w (Ret (.bool true) w) := by
  have H := Lib.hid h
  obtain ⟨A, cap, rfl, h1, h2⟩ := h.form
  unfold maxLen at h2
  clear h
  have hl10 := light_len g1
  have HS := Lib.hid hS
  clear hS
  have hT := Below.refl w.heap.size w
  have hdec : decide (now < 0) = false := by simp; omega
  have hdec2 : decide (1000000000 < now) = false := by simp; omega
  go_enter Try.func12, Try.ntmps12
  go_wp2_with (first
    | (go_at_call 47; refine (went_any _).mono ?_; rintro e w1 ⟨rfl, hb1⟩; have hT1 := hT.trans (hb1.mono hT.size); clear hT hb1; have hT := hT1; clear hT1)
    | (go_at_call 23; refine (lightreqs_any S l _ _ (H.out.below hT)).mono ?_; rintro e w1 ⟨rfl, hb1⟩; have hT1 := hT.trans (hb1.mono hT.size); clear hT hb1; have hT := hT1; clear hT1)
    | (go_at_call 24; refine (goodreqs_any S l _ _ (H.out.below hT)).mono ?_; rintro e w1 ⟨rfl, hb1⟩; have hT1 := hT.trans (hb1.mono hT.size); clear hT hb1; have hT := hT1; clear hT1))
  have hB := TnBox.start w1 ⟨false, 0, 0, 0⟩
  have hTn := hT.size
  have hTB := Lib.hid hT
  clear hT
  simp only [tnCells] at hB
  generalize hW1 : w1.alloc (Obj.cells #[Value.bool false, Value.int IntKind.i64 0, Value.int IntKind.i64 0, Value.int IntKind.i64 0] 36) = W1 at hB ⊢
  clear hW1
  have HG2 := Lib.hid g2
  have Hl := Lib.hid ((H.out.below (hTB.out)).lt.more (S' := fun b => S b ∧ b ≠ w1.heap.size) (fun b hb => ⟨hb.1, by have := hb.2; omega⟩) |>.below hB.below)
  go_loopw [7, 8, 9, 10] (fun lv n _ _ wr => ∃ (k : Nat) (m : List Rq) (t : Tn), n = .int .i64 k ∧ Hid (m.length + k = l.length) ∧ Hid (goodReqs m = true) ∧ Hid (ReqsAt (fun b => S b ∧ b ≠ w1.heap.size) wr lv m) ∧ Hid (TnBox w1.heap.size w1 wr t) ∧ Hid (0 ≤ t.starved ∧ t.starved ≤ 2) ∧ k ≤ l.length ∧ m.length ≤ 10)
    (fun _ n _ _ _ => l.length - (intOf n).toNat)
  case atStart => exact ⟨0, l, ⟨false, 0, 0, 0⟩, rfl, rfl, HG2, Hl, hB, (by decide : (0 : Int) ≤ 0 ∧ (0 : Int) ≤ 2), by omega, hl10⟩
  case round =>
    obtain ⟨k, m, t, rfl, Hk, Hg, Hm, Ht, Hs, hk, hm10⟩ := hrel
    obtain ⟨A', cap', rfl, c1, c2⟩ := Hm.out.form
    unfold maxLen at c2
    by_cases hne : m = []
    · subst hne
      go_wp2
      go_ret
      exact ⟨rfl, hTB.out.trans (Ht.out.below.mono hTB.out.size)⟩
    · obtain ⟨j, r, t', hn⟩ := next_is t now Hg.out hne
      have hjm := hn.lt
      have hpos : decide (0 < m.length) = true := by simp; omega
      obtain ⟨⟨d0, d1, d2, d3⟩⟩ : Nonempty (wr.cell? ⟨w1.heap.size, 0, none⟩ = some (.bool t.write) ∧ wr.cell? ⟨w1.heap.size, 1, none⟩ = some (.int .i64 t.gone) ∧ wr.cell? ⟨w1.heap.size, 2, none⟩ = some (.int .i64 t.starved) ∧ wr.cell? ⟨w1.heap.size, 3, none⟩ = some (.int .i64 t.wh)) := ⟨Ht.out.c⟩
      have Hn := Lib.hid hn
      have env : Hid (nextV m t now = .tuple #[.int .i64 (j : Int), tnV t']) := by show _ = _; unfold nextV; rw [hn.eq]
      obtain ⟨tw, tg, ts, th⟩ := t'
      obtain ⟨kw, kg, kh, ko⟩ : r.write = tw ∧ (1 ≤ tg ∧ tg ≤ 3) ∧ th = r.lo + r.many ∧ (1 < tg → tw = t.write ∧ t.wh ≤ r.lo) := ⟨hn.kind, hn.gone, hn.wh, hn.on⟩
      obtain ⟨kg1, kg2⟩ := kg
      subst kw
      subst kh
      have hok := good_mem Hg.out hn.get
      obtain ⟨s1, s2, s3, s4, s5⟩ := hok.span
      clear hok hn
      have hs : IntKind.i64.wrap (r.lo + r.many) = r.lo + r.many := IntWalk.i64_in _ (by omega)
      have hji : (j : Int) < (m.length : Int) := by omega
      have hj0 : (0 : Int) ≤ (j : Int) := by omega
      go_wp2_with fail
      refine (next_any' _ m _ t now _ Hm.out Hg.out hne (by have := Hs.out; unfold i64; omega) g4 g5).mono ?_
      rintro e w2 ⟨rfl, hb2⟩
      rw [env.out]
      go_wp2_with fail
      have hB2 := TnBox.start w2 ⟨r.write, tg, ts, r.lo + r.many⟩
      have Ht2 := Lib.hid ((Ht.out.step hb2).step hB2.below)
      have Hm2 := Lib.hid ((Hm.out.below hb2).below hB2.below)
      have hb3 := hb2.trans (hB2.below.mono hb2.size)
      simp only [tnCells] at hB2
      clear d0 d1 d2 d3
      generalize hW2 : w2.alloc (Obj.cells #[Value.bool r.write, Value.int IntKind.i64 tg, Value.int IntKind.i64 ts, Value.int IntKind.i64 (r.lo + r.many)] 36) = w3 at hB2 Ht2 Hm2 hb3 ⊢
      clear hW2
      obtain ⟨⟨d0, d1, d2, d3⟩⟩ : Nonempty (w3.cell? ⟨w1.heap.size, 0, none⟩ = some (.bool t.write) ∧ w3.cell? ⟨w1.heap.size, 1, none⟩ = some (.int .i64 t.gone) ∧ w3.cell? ⟨w1.heap.size, 2, none⟩ = some (.int .i64 t.starved) ∧ w3.cell? ⟨w1.heap.size, 3, none⟩ = some (.int .i64 t.wh)) := ⟨Ht2.out.c⟩
      obtain ⟨⟨e0, e1, e2, e3⟩⟩ : Nonempty (w3.cell? ⟨w2.heap.size, 0, none⟩ = some (.bool r.write) ∧ w3.cell? ⟨w2.heap.size, 1, none⟩ = some (.int .i64 tg) ∧ w3.cell? ⟨w2.heap.size, 2, none⟩ = some (.int .i64 ts) ∧ w3.cell? ⟨w2.heap.size, 3, none⟩ = some (.int .i64 (r.lo + r.many))) := ⟨hB2.c⟩
      obtain ⟨b, off, rfl, _, hbl, hc⟩ := Hm2.out.at_ (by omega)
      obtain ⟨_, _, _, _, _, k0, k1, k2, _, _, _⟩ := hc j r Hn.out.get
      clear hc
      have f1 : decide ((j : Int) < 0) = false := by simp
      have f2 : decide ((m.length : Int) ≤ (j : Int)) = false := by simp; omega
      have f3 : decide (tg < 1) = false := by simp; omega
      have f4 : decide (3 < tg) = false := by simp; omega
      go_quiet (fail)
      generalize hW4 : w3.drewN _ = w4
      have hq : w4.heap = w3.heap := by rw [← hW4]; rfl
      have hb4 : Below w3.heap.size w3 w4 := by rw [← hW4]; exact drewN_below _ _ _
      clear hW4 hq
      have Ht3 := Lib.hid (Ht2.out.step hb4)
      have Hm3 := Lib.hid (Hm2.out.below hb4)
      have hb5 := hb3.trans (hb4.mono hb3.size)
      have hB3 := hB2.step hb4
      clear d0 d1 d2 d3 e0 e1 e2 e3 k0 k1 k2 hB2
      obtain ⟨⟨d0, d1, d2, d3⟩⟩ : Nonempty (w4.cell? ⟨w1.heap.size, 0, none⟩ = some (.bool t.write) ∧ w4.cell? ⟨w1.heap.size, 1, none⟩ = some (.int .i64 t.gone) ∧ w4.cell? ⟨w1.heap.size, 2, none⟩ = some (.int .i64 t.starved) ∧ w4.cell? ⟨w1.heap.size, 3, none⟩ = some (.int .i64 t.wh)) := ⟨Ht3.out.c⟩
      obtain ⟨⟨p0, p1, p2, p3⟩⟩ : Nonempty (w4.frozen? ⟨w1.heap.size, 0, none⟩ = false ∧ w4.frozen? ⟨w1.heap.size, 1, none⟩ = false ∧ w4.frozen? ⟨w1.heap.size, 2, none⟩ = false ∧ w4.frozen? ⟨w1.heap.size, 3, none⟩ = false) := ⟨Ht3.out.f⟩
      obtain ⟨⟨e0, e1, e2, e3⟩⟩ : Nonempty (w4.cell? ⟨w2.heap.size, 0, none⟩ = some (.bool r.write) ∧ w4.cell? ⟨w2.heap.size, 1, none⟩ = some (.int .i64 tg) ∧ w4.cell? ⟨w2.heap.size, 2, none⟩ = some (.int .i64 ts) ∧ w4.cell? ⟨w2.heap.size, 3, none⟩ = some (.int .i64 (r.lo + r.many))) := ⟨hB3.c⟩
      obtain ⟨b', off', e, _, hbl', hc⟩ := Hm3.out.at_ (by omega)
      cases e
      obtain ⟨_, _, _, _, _, k0, k1, k2, _, _, _⟩ := hc j r Hn.out.get
      clear hc
      have hcase : (w4.cell? ⟨w1.heap.size, 0, none⟩ = some (.bool r.write) ∧ decide (r.lo < t.wh) = false ∧ decide (1 < tg) = true) ∨ (w4.cell? ⟨w1.heap.size, 0, none⟩ = some (.bool t.write) ∧ decide (1 < tg) = false) := by
        by_cases hg1 : 1 < tg
        · obtain ⟨ko1, ko2⟩ := ko hg1
          exact .inl ⟨by rw [ko1]; exact d0, by simp; omega, by simp; omega⟩
        · exact .inr ⟨d0, by simp; omega⟩
      clear d0 ko
      rcases hcase with ⟨d0, f6, f7⟩ | ⟨d0, f7⟩
      all_goals
        go_wp2_with fail
        go_quiet (fail)
        generalize hW4 : w4.drewN _ = w5
        have hb6 : Below w4.heap.size w4 w5 := by rw [← hW4]; exact drewN_below _ _ _
        clear hW4
        have Ht5 := Lib.hid (Ht3.out.step hb6)
        have Hm5 := Lib.hid (Hm3.out.below hb6)
        have hb7 := hb5.trans (hb6.mono hb5.size)
        have hB5 := hB3.step hb6
        clear d0 d1 d2 d3 e0 e1 e2 e3 k0 k1 k2 p0 p1 p2 p3 hB3 hb6 hb5 hb3 hb2 hb4
        obtain ⟨⟨d0, d1, d2, d3⟩⟩ : Nonempty (w5.cell? ⟨w1.heap.size, 0, none⟩ = some (.bool t.write) ∧ w5.cell? ⟨w1.heap.size, 1, none⟩ = some (.int .i64 t.gone) ∧ w5.cell? ⟨w1.heap.size, 2, none⟩ = some (.int .i64 t.starved) ∧ w5.cell? ⟨w1.heap.size, 3, none⟩ = some (.int .i64 t.wh)) := ⟨Ht5.out.c⟩
        obtain ⟨⟨p0, p1, p2, p3⟩⟩ : Nonempty (w5.frozen? ⟨w1.heap.size, 0, none⟩ = false ∧ w5.frozen? ⟨w1.heap.size, 1, none⟩ = false ∧ w5.frozen? ⟨w1.heap.size, 2, none⟩ = false ∧ w5.frozen? ⟨w1.heap.size, 3, none⟩ = false) := ⟨Ht5.out.f⟩
        obtain ⟨⟨e0, e1, e2, e3⟩⟩ : Nonempty (w5.cell? ⟨w2.heap.size, 0, none⟩ = some (.bool r.write) ∧ w5.cell? ⟨w2.heap.size, 1, none⟩ = some (.int .i64 tg) ∧ w5.cell? ⟨w2.heap.size, 2, none⟩ = some (.int .i64 ts) ∧ w5.cell? ⟨w2.heap.size, 3, none⟩ = some (.int .i64 (r.lo + r.many))) := ⟨hB5.c⟩
        go_wp2_with fail
        have hP := Ht5.out.put ⟨r.write, tg, ts, r.lo + r.many⟩
        have hPb := put_below w1.heap.size w5 ⟨r.write, tg, ts, r.lo + r.many⟩
        have hPm := Lib.hid (Hm5.out.keep (fun b hb _ => put_other w1.heap.size w5 ⟨r.write, tg, ts, r.lo + r.many⟩ b hb.2))
        generalize hW6 : (((w5.setCell ⟨w1.heap.size, 0, none⟩ (.bool r.write)).setCell ⟨w1.heap.size, 1, none⟩ (.int .i64 tg)).setCell ⟨w1.heap.size, 2, none⟩ (.int .i64 ts)).setCell ⟨w1.heap.size, 3, none⟩ (.int .i64 (r.lo + r.many)) = w6 at hP hPb hPm ⊢
        clear hW6 d0 d1 d2 d3 e0 e1 e2 e3 p0 p1 p2 p3
        refine (take_any _ m _ j r _ hPm.out (fun b hb => ⟨HS.out b, by have := hP.lt; omega⟩) Hn.out.get (by omega)).mono ?_
        rintro e w7 ⟨v7, rv, rfl, hown, hrv, hb8⟩
        have Hm7 := Lib.hid (hown.at_ (fun b hb => ⟨HS.out b, by have := hP.lt; omega⟩))
        have Ht7 := Lib.hid (hP.step hb8)
        have hkl : (k : Int) ≤ (l.length : Int) := by omega
        have hkl2 : decide ((l.length : Int) < (k : Int)) = false := by simp; omega
        clear hown hrv hb8 hPb hb7 hP
        go_wp2_with fail
        go_roundw
        case rel =>
          have hlen := Hk.out
          have he : (m.eraseIdx j).length = m.length - 1 := List.length_eraseIdx_of_lt (by omega)
          exact ⟨k + 1, m.eraseIdx j, ⟨r.write, tg, ts, r.lo + r.many⟩, by go_num, (show _ = _ by omega), good_erase Hg.out j, Hm7.out, Ht7.out, Hn.out.st Hs.out.1 Hs.out.2, by omega, by omega⟩
        case measure =>
          have hlen := Hk.out
          simp [intOf]; omega

set_option maxRecDepth 100000 in
set_option maxHeartbeats 4000000 in
theorem topelev_no (S : Nat → Prop) (l : List Rq) (v : Value) (now : Int) (w : World) (h : ReqsAt S w v l)
    (hn : lightReqs l = false ∨ (lightReqs l = true ∧ goodReqs l = false) ∨ (lightReqs l = true ∧ goodReqs l = true ∧ now < 0) ∨ (lightReqs l = true ∧ goodReqs l = true ∧ 0 ≤ now ∧ 1000000000 < now)) :
    Calls Try.prog 12 #[v, .int .i64 now] w (Ret (.bool true) w) := by
  have H := Lib.hid h
  obtain ⟨A, cap, rfl, h1, h2⟩ := h.form
  unfold maxLen at h2
  clear h
  have hT := Below.refl w.heap.size w
  rcases hn with g1 | ⟨g1, g2⟩ | ⟨g1, g2, g3⟩ | ⟨g1, g2, g3, g4⟩
  all_goals
    go_enter Try.func12, Try.ntmps12
    go_wp2_with (first
      | (go_at_call 47; refine (went_any _).mono ?_; rintro e w1 ⟨rfl, hb1⟩; have hT1 := hT.trans (hb1.mono hT.size); clear hT hb1; have hT := hT1; clear hT1)
      | (go_at_call 23; refine (lightreqs_any S l _ _ (H.out.below hT)).mono ?_; rintro e w1 ⟨rfl, hb1⟩; have hT1 := hT.trans (hb1.mono hT.size); clear hT hb1; have hT := hT1; clear hT1)
      | (go_at_call 24; refine (goodreqs_any S l _ _ (H.out.below hT)).mono ?_; rintro e w1 ⟨rfl, hb1⟩; have hT1 := hT.trans (hb1.mono hT.size); clear hT hb1; have hT := hT1; clear hT1))
    go_ret
    exact ⟨rfl, hT⟩

theorem topelev_walk (S : Nat → Prop) (hS : ∀ b, S b) (l : List Rq) (v : Value) (now : Int) (w : World) (h : ReqsAt S w v l) :
    Calls Try.prog 12 #[v, .int .i64 now] w (Ret (.bool true) w) := by
  cases g1 : lightReqs l with
  | false => exact topelev_no S l v now w h (.inl g1)
  | true =>
    cases g2 : goodReqs l with
    | false => exact topelev_no S l v now w h (.inr (.inl ⟨g1, g2⟩))
    | true =>
      rcases Int.lt_or_le now 0 with g3 | g3
      · exact topelev_no S l v now w h (.inr (.inr (.inl ⟨g1, g2, g3⟩)))
      · rcases Int.lt_or_le 1000000000 now with g4 | g4
        · exact topelev_no S l v now w h (.inr (.inr (.inr ⟨g1, g2, g3, g4⟩)))
        · exact topelev_good S hS l v now w h g1 g2 g3 g4
end Go.Proofs.Ytfklcfpkbnddfaa
