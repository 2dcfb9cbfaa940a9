/- elevator.Next: which one goes, and the turn as it is then. -/
import Derived.Test.YtinknleckppciaaGreatDoorR8
namespace Go.Proofs.YtinknleckppciaaGreatDoor
set_option linter.unusedSimpArgs false
set_option linter.unusedVariables false
open Go.RowKit Go.Sort

def nextV (l : List Rq) (t : Tn) (now : Int) : Value := .tuple #[.int .i64 (nextM l t now).1, tnV (nextM l t now).2]
abbrev zeroTn : Array Value := #[.bool false, .int .i64 0, .int .i64 0, .int .i64 0]
theorem Box2.start (w : World) (t : Tn) : Box2 w.heap.size w ((w.alloc (Obj.cells #[Value.bool t.write, Value.int IntKind.i64 t.gone, Value.int IntKind.i64 t.starved, Value.int IntKind.i64 t.wh] 68)).alloc
    (Obj.cells #[Value.bool false, Value.int IntKind.i64 0, Value.int IntKind.i64 0, Value.int IntKind.i64 0] 68)) (tnCells t) zeroTn :=
  ⟨((Below.refl _ _).alloc (Nat.le_refl _) _).alloc (by simp) _, by simp, heap_alloc2_old _ _ _, heap_alloc2_new _ _ _⟩

set_option maxRecDepth 100000 in
set_option maxHeartbeats 2000000 in
theorem next_on (S : Nat → Prop) (l : List Rq) (v : Value) (t : Tn) (now : Int) (w : World) (h : ReqsAt S w v l) (hg : goodReqs l = true)
    (q1 : 0 < t.gone) (q2 : t.gone < 3) (q3 : 0 ≤ fromI l t.write t.wh) :
    Calls Tryz.prog 46 #[v, tnV t, .int .i64 now] w (Ret (nextV l t now) w) := by
  have H := Lib.hid h
  obtain ⟨A, cap, rfl, h1, h2⟩ := h.form
  unfold maxLen at h2
  clear h
  have ev : nextV l t now = .tuple #[.int .i64 (fromI l t.write t.wh), tnV { t with gone := t.gone + 1, wh := endOf l (fromI l t.write t.wh) }] := by unfold nextV; rw [nextM_on q1 q2 q3]
  obtain ⟨j, r, hj, hr, _, _, hjl⟩ := fromI_ok q3
  have hok := good_mem hg hr
  obtain ⟨s1, s2, s3, s4, s5⟩ := hok.span
  rw [hj, endOf_at hr] at ev
  rw [ev]
  have Hj := Lib.hid hj
  have Hr := Lib.hid hr
  clear ev hj hr q3 hok
  have hji : (j : Int) < (l.length : Int) := by omega
  have hs : IntKind.i64.wrap (r.lo + r.many) = r.lo + r.many := IntWalk.i64_in _ (by omega)
  go_enter Tryz.func46, Tryz.ntmps46
  go_wp2_with fail
  have hT := Box2.start w t
  generalize ((w.alloc (Obj.cells #[Value.bool t.write, Value.int IntKind.i64 t.gone, Value.int IntKind.i64 t.starved, Value.int IntKind.i64 t.wh] 68)).alloc
    (Obj.cells #[Value.bool false, Value.int IntKind.i64 0, Value.int IntKind.i64 0, Value.int IntKind.i64 0] 68)) = W at hT ⊢
  refine (from_any S l _ t.write t.wh _ (H.out.below hT.below)).mono ?_
  rintro e w1 ⟨rfl, hb1⟩
  have hT1 := hT.step hb1
  clear hT hb1
  rw [Hj.out]
  obtain ⟨b, off, rfl, _, hbl, hc⟩ := (H.out.below hT1.below).at_ (by omega)
  obtain ⟨_, _, _, _, _, _, k1, k2, _, _, _⟩ := hc j r Hr.out
  clear hc
  have hbB : b < w.heap.size := by
    obtain ⟨b', off', e, _, hb', _⟩ := H.out.at_ (by omega)
    cases e; exact hb'
  have c0 := hT1.c 0
  have c1 := hT1.c 1
  have c2 := hT1.c 2
  have c3 := hT1.c 3
  have f1 := hT1.fc 1
  have f3 := hT1.fc 3
  have d0 := hT1.d 0
  have d1 := hT1.d 1
  have d2 := hT1.d 2
  have d3 := hT1.d 3
  have e0 := hT1.fd 0
  have e1 := hT1.fd 1
  have e2 := hT1.fd 2
  have e3 := hT1.fd 3
  simp [tnCells, zeroTn] at c0 c1 c2 c3 d0 d1 d2 d3
  go_wp2_with fail
  go_region
  go_wp2_with fail
  go_region
  go_wp2
  refine bodyPost_ret (v := .tuple #[_, tnV _]) (by simp [results, Tryz.results46, go_sem, d0, d1, d2, d3, e0, e1, e2, e3, c0, c1, c2, c3, f1, f3]) rfl ⟨rfl, ?_⟩
  repeat (first | (with_reducible refine Below.drew ?_) | ((with_reducible refine Below.setCell ?_ ?hp _); case hp => simp))
  exact hT1.below

/-- What the rest of Next needs to know: the turn t' that has begun, which one goes (i), and why. -/
structure Goes (l : List Rq) (t' : Tn) (now i : Int) : Prop where
  old : 0 ≤ oldest l t'.write
  pick : pickM l t' now = i
theorem pick_valid {l : List Rq} {t' : Tn} {now : Int} (hg : goodReqs l = true) (h : 0 ≤ oldest l t'.write) : ∃ (j : Nat) (r : Rq), pickM l t' now = j ∧ l[j]? = some r ∧ j < l.length := by
  obtain ⟨o, r, ho, hr, hw, hlt⟩ := oldest_ok h
  unfold pickM
  split
  · exact ⟨o, r, ho, hr, hlt⟩
  · split
    · have h0 : 0 ≤ fromI l t'.write 0 := fromI_some hr hw (good_mem hg hr).span.1
      obtain ⟨j, r', hj, hr', _, _, hl⟩ := fromI_ok h0
      exact ⟨j, r', hj, hr', hl⟩
    · rename_i hn
      obtain ⟨j, r', hj, hr', _, _, hl⟩ := fromI_ok (Int.not_lt.1 hn)
      exact ⟨j, r', hj, hr', hl⟩

set_option maxRecDepth 100000 in
set_option maxHeartbeats 4000000 in
theorem next_new1 (S : Nat → Prop) (l : List Rq) (v : Value) (t : Tn) (now : Int) (w : World) (h : ReqsAt S w v l) (hg : goodReqs l = true) (hne : l ≠ []) (hst : i64 t.starved) (hn1 : 0 ≤ now) (hn2 : now ≤ 1000000000)
    (q : t.gone ≤ 0) :
    Calls Tryz.prog 46 #[v, tnV t, .int .i64 now] w (Ret (nextV l t now) w) := by
  have H := Lib.hid h
  obtain ⟨A, cap, rfl, h1, h2⟩ := h.form
  unfold maxLen at h2
  clear h
  have ev : nextV l t now = .tuple #[.int .i64 (pickM l (turnedM l t) now), tnV { turnedM l t with gone := 1, wh := endOf l (pickM l (turnedM l t) now) }] := by unfold nextV; rw [nextM_new (by omega)]
  go_enter Tryz.func46, Tryz.ntmps46
  go_wp2_with fail
  have hT := Box2.start w t
  generalize ((w.alloc (Obj.cells #[Value.bool t.write, Value.int IntKind.i64 t.gone, Value.int IntKind.i64 t.starved, Value.int IntKind.i64 t.wh] 68)).alloc
    (Obj.cells #[Value.bool false, Value.int IntKind.i64 0, Value.int IntKind.i64 0, Value.int IntKind.i64 0] 68)) = W at hT ⊢
  refine (turned_any S l _ t _ (H.out.below hT.below) hst (kinds hne)).mono ?_
  rintro e w1 ⟨rfl, hb1⟩
  have hT1 := hT.step hb1
  clear hT hb1
  have hold := turned_kind (t := t) hne
  generalize turnedM l t = t' at hold ev ⊢
  have c0 := hT1.c 0
  have c1 := hT1.c 1
  have c2 := hT1.c 2
  have c3 := hT1.c 3
  have f0 := hT1.fc 0
  have f1 := hT1.fc 1
  have f2 := hT1.fc 2
  have f3 := hT1.fc 3
  have d0 := hT1.d 0
  have d1 := hT1.d 1
  have d2 := hT1.d 2
  have d3 := hT1.d 3
  have e0 := hT1.fd 0
  have e1 := hT1.fd 1
  have e2 := hT1.fd 2
  have e3 := hT1.fd 3
  simp [tnCells, zeroTn] at c0 c1 c2 c3 d0 d1 d2 d3
  go_wp2_with fail
  have hT2 := (((hT1.set 0 (.bool t'.write)).set 1 (.int .i64 t'.gone)).set 2 (.int .i64 t'.starved)).set 3 (.int .i64 t'.wh)
  clear c0 c1 c2 c3 d0 d1 d2 d3 f0 f1 f2 f3 e0 e1 e2 e3
  generalize (((w1.setCell ⟨w.heap.size, 0, none⟩ (.bool t'.write)).setCell ⟨w.heap.size, 1, none⟩ (.int .i64 t'.gone)).setCell ⟨w.heap.size, 2, none⟩ (.int .i64 t'.starved)).setCell ⟨w.heap.size, 3, none⟩ (.int .i64 t'.wh) = w2 at hT2 ⊢
  have hT2 : Box2 w.heap.size w w2 (tnCells t') zeroTn := hT2
  have c0 := hT2.c 0
  have c1 := hT2.c 1
  have c2 := hT2.c 2
  have c3 := hT2.c 3
  have f0 := hT2.fc 0
  have f1 := hT2.fc 1
  have f2 := hT2.fc 2
  have f3 := hT2.fc 3
  have d0 := hT2.d 0
  have d1 := hT2.d 1
  have d2 := hT2.d 2
  have d3 := hT2.d 3
  have e0 := hT2.fd 0
  have e1 := hT2.fd 1
  have e2 := hT2.fd 2
  have e3 := hT2.fd 3
  simp [tnCells, zeroTn] at c0 c1 c2 c3 d0 d1 d2 d3
  go_wp2_with fail
  refine (oldest_any S l _ t'.write _ (H.out.below hT2.below)).mono ?_
  rintro e w3 ⟨rfl, hb3⟩
  have hT3 := hT2.step hb3
  clear hT2 hb3
  clear c0 c1 c2 c3 d0 d1 d2 d3 f0 f1 f2 f3 e0 e1 e2 e3
  have c0 := hT3.c 0
  have c1 := hT3.c 1
  have c2 := hT3.c 2
  have c3 := hT3.c 3
  have f0 := hT3.fc 0
  have f1 := hT3.fc 1
  have f2 := hT3.fc 2
  have f3 := hT3.fc 3
  have d0 := hT3.d 0
  have d1 := hT3.d 1
  have d2 := hT3.d 2
  have d3 := hT3.d 3
  have e0 := hT3.fd 0
  have e1 := hT3.fd 1
  have e2 := hT3.fd 2
  have e3 := hT3.fd 3
  simp [tnCells, zeroTn] at c0 c1 c2 c3 d0 d1 d2 d3
  obtain ⟨o, ro, ho, hro, how, hol⟩ := oldest_ok hold
  have hpick : pickM l t' now = if expB ro now then oldest l t'.write else if fromI l t'.write t'.wh < 0 then fromI l t'.write 0 else fromI l t'.write t'.wh := by
    unfold pickM
    rw [ho, Int.toNat_natCast, List.getD_eq_getElem?_getD, hro]; rfl
  rw [ho] at hpick ⊢
  have hbo := (good_mem hg hro).born
  have Hro := Lib.hid hro
  have How := Lib.hid how
  have Ho := Lib.hid ho
  clear hro how ho hold
  obtain ⟨b, off, rfl, _, hbl, hc⟩ := (H.out.below hT3.below).at_ (by omega)
  have hbB : b < w.heap.size := by
    obtain ⟨b', off', e, _, hb', _⟩ := H.out.at_ (by omega)
    cases e; exact hb'
  obtain ⟨Ad, cd, At, ct, hreq, k0, k1, k2, k3, k4, k5⟩ := hc o ro Hro.out
  clear hc
  have hoi : (o : Int) < (l.length : Int) := by omega
  have Hbo := Lib.hid hbo
  clear hbo
  cases hexp : expB ro now with
  | true =>
    rw [hexp, if_pos rfl] at hpick
    rw [hpick, endOf_at Hro.out] at ev
    have EV := Lib.hid ev
    clear ev hpick
    go_wp2_with fail
    refine (expired_any S ro _ now _ hreq hn1 hn2 Hbo.out).mono ?_
    rintro e w4 ⟨rfl, hb4⟩
    have hT4 := hT3.step hb4
    clear hT3 hb4 k0 k1 k2 k3 k4 k5 hreq hbl
    clear c0 c1 c2 c3 d0 d1 d2 d3 f0 f1 f2 f3 e0 e1 e2 e3
    obtain ⟨j, hj⟩ : ∃ j, j = o := ⟨_, rfl⟩
    subst hj
    obtain ⟨r, hr⟩ : ∃ r, r = ro := ⟨_, rfl⟩
    subst hr
    have Hr := Hro
    obtain ⟨s1, s2, s3, s4, s5⟩ := (good_mem hg Hr.out).span
    obtain ⟨b', off', e, _, hbl, hc⟩ := (H.out.below hT4.below).at_ (by omega)
    cases e
    obtain ⟨_, _, _, _, _, _, k1, k2, _, _, _⟩ := hc j r Hr.out
    clear hc
    have hji : (j : Int) < (l.length : Int) := by omega
    have hs : IntKind.i64.wrap (r.lo + r.many) = r.lo + r.many := IntWalk.i64_in _ (by omega)
    have c0 := hT4.c 0
    have c1 := hT4.c 1
    have c2 := hT4.c 2
    have c3 := hT4.c 3
    have f0 := hT4.fc 0
    have f1 := hT4.fc 1
    have f2 := hT4.fc 2
    have f3 := hT4.fc 3
    have d0 := hT4.d 0
    have d1 := hT4.d 1
    have d2 := hT4.d 2
    have d3 := hT4.d 3
    have e0 := hT4.fd 0
    have e1 := hT4.fd 1
    have e2 := hT4.fd 2
    have e3 := hT4.fd 3
    simp [tnCells, zeroTn] at c0 c1 c2 c3 d0 d1 d2 d3
    go_wp2_with fail
    go_region
    go_wp2_with fail
    go_region
    go_wp2
    rw [EV.out]
    refine bodyPost_ret (v := .tuple #[_, tnV _]) (by simp [results, Tryz.results46, go_sem, d0, d1, d2, d3, e0, e1, e2, e3, c0, c1, c2, c3, f0, f1, f2, f3]) rfl ⟨rfl, ?_⟩
    repeat (first | (with_reducible refine Below.drew ?_) | ((with_reducible refine Below.setCell ?_ ?hp _); case hp => simp))
    exact hT4.below
  | false =>
    rw [hexp] at hpick
    have Hpick := Lib.hid hpick
    have Ev := Lib.hid ev
    clear hpick ev
    go_wp2_with fail
    refine (expired_any S ro _ now _ hreq hn1 hn2 Hbo.out).mono ?_
    rintro e w4 ⟨rfl, hb4⟩
    have hT4 := hT3.step hb4
    clear hT3 hb4 k0 k1 k2 k3 k4 k5 hreq hbl
    clear c0 c1 c2 c3 d0 d1 d2 d3 f0 f1 f2 f3 e0 e1 e2 e3
    have c0 := hT4.c 0
    have c1 := hT4.c 1
    have c2 := hT4.c 2
    have c3 := hT4.c 3
    have f0 := hT4.fc 0
    have f1 := hT4.fc 1
    have f2 := hT4.fc 2
    have f3 := hT4.fc 3
    have d0 := hT4.d 0
    have d1 := hT4.d 1
    have d2 := hT4.d 2
    have d3 := hT4.d 3
    have e0 := hT4.fd 0
    have e1 := hT4.fd 1
    have e2 := hT4.fd 2
    have e3 := hT4.fd 3
    simp [tnCells, zeroTn] at c0 c1 c2 c3 d0 d1 d2 d3
    go_wp2_with fail
    refine (from_any S l _ t'.write t'.wh _ (H.out.below hT4.below)).mono ?_
    rintro e w5 ⟨rfl, hb5⟩
    have hT5 := hT4.step hb5
    clear hT4 hb5
    clear c0 c1 c2 c3 d0 d1 d2 d3 f0 f1 f2 f3 e0 e1 e2 e3
    have c0 := hT5.c 0
    have c1 := hT5.c 1
    have c2 := hT5.c 2
    have c3 := hT5.c 3
    have f0 := hT5.fc 0
    have f1 := hT5.fc 1
    have f2 := hT5.fc 2
    have f3 := hT5.fc 3
    have d0 := hT5.d 0
    have d1 := hT5.d 1
    have d2 := hT5.d 2
    have d3 := hT5.d 3
    have e0 := hT5.fd 0
    have e1 := hT5.fd 1
    have e2 := hT5.fd 2
    have e3 := hT5.fd 3
    simp [tnCells, zeroTn] at c0 c1 c2 c3 d0 d1 d2 d3
    by_cases hf : fromI l t'.write t'.wh < 0
    · have h0 : 0 ≤ fromI l t'.write 0 := fromI_some Hro.out How.out (good_mem hg Hro.out).span.1
      obtain ⟨j, r, hj, hr, _, _, hjl⟩ := fromI_ok h0
      have e1 : pickM l t' now = j := by rw [Hpick.out, if_neg (by simp), if_pos hf, hj]
      have ev := Ev.out
      rw [e1, endOf_at hr] at ev
      have EV := Lib.hid ev
      have Hr := Lib.hid hr
      have Hj := Lib.hid hj
      clear ev Hpick Ev hj hr h0 e1
      go_wp2_with fail
      refine (from_any S l _ t'.write 0 _ (H.out.below hT5.below)).mono ?_
      rintro e w6 ⟨rfl, hb6⟩
      have hT6 := hT5.step hb6
      clear hT5 hb6 hf
      rw [Hj.out]
      clear c0 c1 c2 c3 d0 d1 d2 d3 f0 f1 f2 f3 e0 e1 e2 e3
      obtain ⟨s1, s2, s3, s4, s5⟩ := (good_mem hg Hr.out).span
      obtain ⟨b', off', e, _, hbl, hc⟩ := (H.out.below hT6.below).at_ (by omega)
      cases e
      obtain ⟨_, _, _, _, _, _, k1, k2, _, _, _⟩ := hc j r Hr.out
      clear hc
      have hji : (j : Int) < (l.length : Int) := by omega
      have hs : IntKind.i64.wrap (r.lo + r.many) = r.lo + r.many := IntWalk.i64_in _ (by omega)
      have c0 := hT6.c 0
      have c1 := hT6.c 1
      have c2 := hT6.c 2
      have c3 := hT6.c 3
      have f0 := hT6.fc 0
      have f1 := hT6.fc 1
      have f2 := hT6.fc 2
      have f3 := hT6.fc 3
      have d0 := hT6.d 0
      have d1 := hT6.d 1
      have d2 := hT6.d 2
      have d3 := hT6.d 3
      have e0 := hT6.fd 0
      have e1 := hT6.fd 1
      have e2 := hT6.fd 2
      have e3 := hT6.fd 3
      simp [tnCells, zeroTn] at c0 c1 c2 c3 d0 d1 d2 d3
      go_wp2_with fail
      go_region
      go_wp2_with fail
      go_region
      go_wp2
      rw [EV.out]
      refine bodyPost_ret (v := .tuple #[_, tnV _]) (by simp [results, Tryz.results46, go_sem, d0, d1, d2, d3, e0, e1, e2, e3, c0, c1, c2, c3, f0, f1, f2, f3]) rfl ⟨rfl, ?_⟩
      repeat (first | (with_reducible refine Below.drew ?_) | ((with_reducible refine Below.setCell ?_ ?hp _); case hp => simp))
      exact hT6.below
    · obtain ⟨j, r, hj, hr, _, _, hjl⟩ := fromI_ok (Int.not_lt.1 hf)
      have e1 : pickM l t' now = j := by rw [Hpick.out, if_neg (by simp), if_neg hf, hj]
      have ev := Ev.out
      rw [e1, endOf_at hr] at ev
      have EV := Lib.hid ev
      have Hr := Lib.hid hr
      rw [hj]
      clear ev Hpick Ev hj hr e1 hf
      clear c0 c1 c2 c3 d0 d1 d2 d3 f0 f1 f2 f3 e0 e1 e2 e3
      obtain ⟨s1, s2, s3, s4, s5⟩ := (good_mem hg Hr.out).span
      obtain ⟨b', off', e, _, hbl, hc⟩ := (H.out.below hT5.below).at_ (by omega)
      cases e
      obtain ⟨_, _, _, _, _, _, k1, k2, _, _, _⟩ := hc j r Hr.out
      clear hc
      have hji : (j : Int) < (l.length : Int) := by omega
      have hs : IntKind.i64.wrap (r.lo + r.many) = r.lo + r.many := IntWalk.i64_in _ (by omega)
      have c0 := hT5.c 0
      have c1 := hT5.c 1
      have c2 := hT5.c 2
      have c3 := hT5.c 3
      have f0 := hT5.fc 0
      have f1 := hT5.fc 1
      have f2 := hT5.fc 2
      have f3 := hT5.fc 3
      have d0 := hT5.d 0
      have d1 := hT5.d 1
      have d2 := hT5.d 2
      have d3 := hT5.d 3
      have e0 := hT5.fd 0
      have e1 := hT5.fd 1
      have e2 := hT5.fd 2
      have e3 := hT5.fd 3
      simp [tnCells, zeroTn] at c0 c1 c2 c3 d0 d1 d2 d3
      go_wp2_with fail
      go_region
      go_wp2_with fail
      go_region
      go_wp2
      rw [EV.out]
      refine bodyPost_ret (v := .tuple #[_, tnV _]) (by simp [results, Tryz.results46, go_sem, d0, d1, d2, d3, e0, e1, e2, e3, c0, c1, c2, c3, f0, f1, f2, f3]) rfl ⟨rfl, ?_⟩
      repeat (first | (with_reducible refine Below.drew ?_) | ((with_reducible refine Below.setCell ?_ ?hp _); case hp => simp))
      exact hT5.below
set_option maxRecDepth 100000 in
set_option maxHeartbeats 4000000 in
theorem next_new2 (S : Nat → Prop) (l : List Rq) (v : Value) (t : Tn) (now : Int) (w : World) (h : ReqsAt S w v l) (hg : goodReqs l = true) (hne : l ≠ []) (hst : i64 t.starved) (hn1 : 0 ≤ now) (hn2 : now ≤ 1000000000)
    (q : 3 ≤ t.gone) :
    Calls Tryz.prog 46 #[v, tnV t, .int .i64 now] w (Ret (nextV l t now) w) := by
  have H := Lib.hid h
  obtain ⟨A, cap, rfl, h1, h2⟩ := h.form
  unfold maxLen at h2
  clear h
  have ev : nextV l t now = .tuple #[.int .i64 (pickM l (turnedM l t) now), tnV { turnedM l t with gone := 1, wh := endOf l (pickM l (turnedM l t) now) }] := by unfold nextV; rw [nextM_new (by omega)]
  go_enter Tryz.func46, Tryz.ntmps46
  go_wp2_with fail
  have hT := Box2.start w t
  generalize ((w.alloc (Obj.cells #[Value.bool t.write, Value.int IntKind.i64 t.gone, Value.int IntKind.i64 t.starved, Value.int IntKind.i64 t.wh] 68)).alloc
    (Obj.cells #[Value.bool false, Value.int IntKind.i64 0, Value.int IntKind.i64 0, Value.int IntKind.i64 0] 68)) = W at hT ⊢
  refine (turned_any S l _ t _ (H.out.below hT.below) hst (kinds hne)).mono ?_
  rintro e w1 ⟨rfl, hb1⟩
  have hT1 := hT.step hb1
  clear hT hb1
  have hold := turned_kind (t := t) hne
  generalize turnedM l t = t' at hold ev ⊢
  have c0 := hT1.c 0
  have c1 := hT1.c 1
  have c2 := hT1.c 2
  have c3 := hT1.c 3
  have f0 := hT1.fc 0
  have f1 := hT1.fc 1
  have f2 := hT1.fc 2
  have f3 := hT1.fc 3
  have d0 := hT1.d 0
  have d1 := hT1.d 1
  have d2 := hT1.d 2
  have d3 := hT1.d 3
  have e0 := hT1.fd 0
  have e1 := hT1.fd 1
  have e2 := hT1.fd 2
  have e3 := hT1.fd 3
  simp [tnCells, zeroTn] at c0 c1 c2 c3 d0 d1 d2 d3
  go_wp2_with fail
  have hT2 := (((hT1.set 0 (.bool t'.write)).set 1 (.int .i64 t'.gone)).set 2 (.int .i64 t'.starved)).set 3 (.int .i64 t'.wh)
  clear c0 c1 c2 c3 d0 d1 d2 d3 f0 f1 f2 f3 e0 e1 e2 e3
  generalize (((w1.setCell ⟨w.heap.size, 0, none⟩ (.bool t'.write)).setCell ⟨w.heap.size, 1, none⟩ (.int .i64 t'.gone)).setCell ⟨w.heap.size, 2, none⟩ (.int .i64 t'.starved)).setCell ⟨w.heap.size, 3, none⟩ (.int .i64 t'.wh) = w2 at hT2 ⊢
  have hT2 : Box2 w.heap.size w w2 (tnCells t') zeroTn := hT2
  have c0 := hT2.c 0
  have c1 := hT2.c 1
  have c2 := hT2.c 2
  have c3 := hT2.c 3
  have f0 := hT2.fc 0
  have f1 := hT2.fc 1
  have f2 := hT2.fc 2
  have f3 := hT2.fc 3
  have d0 := hT2.d 0
  have d1 := hT2.d 1
  have d2 := hT2.d 2
  have d3 := hT2.d 3
  have e0 := hT2.fd 0
  have e1 := hT2.fd 1
  have e2 := hT2.fd 2
  have e3 := hT2.fd 3
  simp [tnCells, zeroTn] at c0 c1 c2 c3 d0 d1 d2 d3
  go_wp2_with fail
  refine (oldest_any S l _ t'.write _ (H.out.below hT2.below)).mono ?_
  rintro e w3 ⟨rfl, hb3⟩
  have hT3 := hT2.step hb3
  clear hT2 hb3
  clear c0 c1 c2 c3 d0 d1 d2 d3 f0 f1 f2 f3 e0 e1 e2 e3
  have c0 := hT3.c 0
  have c1 := hT3.c 1
  have c2 := hT3.c 2
  have c3 := hT3.c 3
  have f0 := hT3.fc 0
  have f1 := hT3.fc 1
  have f2 := hT3.fc 2
  have f3 := hT3.fc 3
  have d0 := hT3.d 0
  have d1 := hT3.d 1
  have d2 := hT3.d 2
  have d3 := hT3.d 3
  have e0 := hT3.fd 0
  have e1 := hT3.fd 1
  have e2 := hT3.fd 2
  have e3 := hT3.fd 3
  simp [tnCells, zeroTn] at c0 c1 c2 c3 d0 d1 d2 d3
  obtain ⟨o, ro, ho, hro, how, hol⟩ := oldest_ok hold
  have hpick : pickM l t' now = if expB ro now then oldest l t'.write else if fromI l t'.write t'.wh < 0 then fromI l t'.write 0 else fromI l t'.write t'.wh := by
    unfold pickM
    rw [ho, Int.toNat_natCast, List.getD_eq_getElem?_getD, hro]; rfl
  rw [ho] at hpick ⊢
  have hbo := (good_mem hg hro).born
  have Hro := Lib.hid hro
  have How := Lib.hid how
  have Ho := Lib.hid ho
  clear hro how ho hold
  obtain ⟨b, off, rfl, _, hbl, hc⟩ := (H.out.below hT3.below).at_ (by omega)
  have hbB : b < w.heap.size := by
    obtain ⟨b', off', e, _, hb', _⟩ := H.out.at_ (by omega)
    cases e; exact hb'
  obtain ⟨Ad, cd, At, ct, hreq, k0, k1, k2, k3, k4, k5⟩ := hc o ro Hro.out
  clear hc
  have hoi : (o : Int) < (l.length : Int) := by omega
  have Hbo := Lib.hid hbo
  clear hbo
  cases hexp : expB ro now with
  | true =>
    rw [hexp, if_pos rfl] at hpick
    rw [hpick, endOf_at Hro.out] at ev
    have EV := Lib.hid ev
    clear ev hpick
    go_wp2_with fail
    refine (expired_any S ro _ now _ hreq hn1 hn2 Hbo.out).mono ?_
    rintro e w4 ⟨rfl, hb4⟩
    have hT4 := hT3.step hb4
    clear hT3 hb4 k0 k1 k2 k3 k4 k5 hreq hbl
    clear c0 c1 c2 c3 d0 d1 d2 d3 f0 f1 f2 f3 e0 e1 e2 e3
    obtain ⟨j, hj⟩ : ∃ j, j = o := ⟨_, rfl⟩
    subst hj
    obtain ⟨r, hr⟩ : ∃ r, r = ro := ⟨_, rfl⟩
    subst hr
    have Hr := Hro
    obtain ⟨s1, s2, s3, s4, s5⟩ := (good_mem hg Hr.out).span
    obtain ⟨b', off', e, _, hbl, hc⟩ := (H.out.below hT4.below).at_ (by omega)
    cases e
    obtain ⟨_, _, _, _, _, _, k1, k2, _, _, _⟩ := hc j r Hr.out
    clear hc
    have hji : (j : Int) < (l.length : Int) := by omega
    have hs : IntKind.i64.wrap (r.lo + r.many) = r.lo + r.many := IntWalk.i64_in _ (by omega)
    have c0 := hT4.c 0
    have c1 := hT4.c 1
    have c2 := hT4.c 2
    have c3 := hT4.c 3
    have f0 := hT4.fc 0
    have f1 := hT4.fc 1
    have f2 := hT4.fc 2
    have f3 := hT4.fc 3
    have d0 := hT4.d 0
    have d1 := hT4.d 1
    have d2 := hT4.d 2
    have d3 := hT4.d 3
    have e0 := hT4.fd 0
    have e1 := hT4.fd 1
    have e2 := hT4.fd 2
    have e3 := hT4.fd 3
    simp [tnCells, zeroTn] at c0 c1 c2 c3 d0 d1 d2 d3
    go_wp2_with fail
    go_region
    go_wp2_with fail
    go_region
    go_wp2
    rw [EV.out]
    refine bodyPost_ret (v := .tuple #[_, tnV _]) (by simp [results, Tryz.results46, go_sem, d0, d1, d2, d3, e0, e1, e2, e3, c0, c1, c2, c3, f0, f1, f2, f3]) rfl ⟨rfl, ?_⟩
    repeat (first | (with_reducible refine Below.drew ?_) | ((with_reducible refine Below.setCell ?_ ?hp _); case hp => simp))
    exact hT4.below
  | false =>
    rw [hexp] at hpick
    have Hpick := Lib.hid hpick
    have Ev := Lib.hid ev
    clear hpick ev
    go_wp2_with fail
    refine (expired_any S ro _ now _ hreq hn1 hn2 Hbo.out).mono ?_
    rintro e w4 ⟨rfl, hb4⟩
    have hT4 := hT3.step hb4
    clear hT3 hb4 k0 k1 k2 k3 k4 k5 hreq hbl
    clear c0 c1 c2 c3 d0 d1 d2 d3 f0 f1 f2 f3 e0 e1 e2 e3
    have c0 := hT4.c 0
    have c1 := hT4.c 1
    have c2 := hT4.c 2
    have c3 := hT4.c 3
    have f0 := hT4.fc 0
    have f1 := hT4.fc 1
    have f2 := hT4.fc 2
    have f3 := hT4.fc 3
    have d0 := hT4.d 0
    have d1 := hT4.d 1
    have d2 := hT4.d 2
    have d3 := hT4.d 3
    have e0 := hT4.fd 0
    have e1 := hT4.fd 1
    have e2 := hT4.fd 2
    have e3 := hT4.fd 3
    simp [tnCells, zeroTn] at c0 c1 c2 c3 d0 d1 d2 d3
    go_wp2_with fail
    refine (from_any S l _ t'.write t'.wh _ (H.out.below hT4.below)).mono ?_
    rintro e w5 ⟨rfl, hb5⟩
    have hT5 := hT4.step hb5
    clear hT4 hb5
    clear c0 c1 c2 c3 d0 d1 d2 d3 f0 f1 f2 f3 e0 e1 e2 e3
    have c0 := hT5.c 0
    have c1 := hT5.c 1
    have c2 := hT5.c 2
    have c3 := hT5.c 3
    have f0 := hT5.fc 0
    have f1 := hT5.fc 1
    have f2 := hT5.fc 2
    have f3 := hT5.fc 3
    have d0 := hT5.d 0
    have d1 := hT5.d 1
    have d2 := hT5.d 2
    have d3 := hT5.d 3
    have e0 := hT5.fd 0
    have e1 := hT5.fd 1
    have e2 := hT5.fd 2
    have e3 := hT5.fd 3
    simp [tnCells, zeroTn] at c0 c1 c2 c3 d0 d1 d2 d3
    by_cases hf : fromI l t'.write t'.wh < 0
    · have h0 : 0 ≤ fromI l t'.write 0 := fromI_some Hro.out How.out (good_mem hg Hro.out).span.1
      obtain ⟨j, r, hj, hr, _, _, hjl⟩ := fromI_ok h0
      have e1 : pickM l t' now = j := by rw [Hpick.out, if_neg (by simp), if_pos hf, hj]
      have ev := Ev.out
      rw [e1, endOf_at hr] at ev
      have EV := Lib.hid ev
      have Hr := Lib.hid hr
      have Hj := Lib.hid hj
      clear ev Hpick Ev hj hr h0 e1
      go_wp2_with fail
      refine (from_any S l _ t'.write 0 _ (H.out.below hT5.below)).mono ?_
      rintro e w6 ⟨rfl, hb6⟩
      have hT6 := hT5.step hb6
      clear hT5 hb6 hf
      rw [Hj.out]
      clear c0 c1 c2 c3 d0 d1 d2 d3 f0 f1 f2 f3 e0 e1 e2 e3
      obtain ⟨s1, s2, s3, s4, s5⟩ := (good_mem hg Hr.out).span
      obtain ⟨b', off', e, _, hbl, hc⟩ := (H.out.below hT6.below).at_ (by omega)
      cases e
      obtain ⟨_, _, _, _, _, _, k1, k2, _, _, _⟩ := hc j r Hr.out
      clear hc
      have hji : (j : Int) < (l.length : Int) := by omega
      have hs : IntKind.i64.wrap (r.lo + r.many) = r.lo + r.many := IntWalk.i64_in _ (by omega)
      have c0 := hT6.c 0
      have c1 := hT6.c 1
      have c2 := hT6.c 2
      have c3 := hT6.c 3
      have f0 := hT6.fc 0
      have f1 := hT6.fc 1
      have f2 := hT6.fc 2
      have f3 := hT6.fc 3
      have d0 := hT6.d 0
      have d1 := hT6.d 1
      have d2 := hT6.d 2
      have d3 := hT6.d 3
      have e0 := hT6.fd 0
      have e1 := hT6.fd 1
      have e2 := hT6.fd 2
      have e3 := hT6.fd 3
      simp [tnCells, zeroTn] at c0 c1 c2 c3 d0 d1 d2 d3
      go_wp2_with fail
      go_region
      go_wp2_with fail
      go_region
      go_wp2
      rw [EV.out]
      refine bodyPost_ret (v := .tuple #[_, tnV _]) (by simp [results, Tryz.results46, go_sem, d0, d1, d2, d3, e0, e1, e2, e3, c0, c1, c2, c3, f0, f1, f2, f3]) rfl ⟨rfl, ?_⟩
      repeat (first | (with_reducible refine Below.drew ?_) | ((with_reducible refine Below.setCell ?_ ?hp _); case hp => simp))
      exact hT6.below
    · obtain ⟨j, r, hj, hr, _, _, hjl⟩ := fromI_ok (Int.not_lt.1 hf)
      have e1 : pickM l t' now = j := by rw [Hpick.out, if_neg (by simp), if_neg hf, hj]
      have ev := Ev.out
      rw [e1, endOf_at hr] at ev
      have EV := Lib.hid ev
      have Hr := Lib.hid hr
      rw [hj]
      clear ev Hpick Ev hj hr e1 hf
      clear c0 c1 c2 c3 d0 d1 d2 d3 f0 f1 f2 f3 e0 e1 e2 e3
      obtain ⟨s1, s2, s3, s4, s5⟩ := (good_mem hg Hr.out).span
      obtain ⟨b', off', e, _, hbl, hc⟩ := (H.out.below hT5.below).at_ (by omega)
      cases e
      obtain ⟨_, _, _, _, _, _, k1, k2, _, _, _⟩ := hc j r Hr.out
      clear hc
      have hji : (j : Int) < (l.length : Int) := by omega
      have hs : IntKind.i64.wrap (r.lo + r.many) = r.lo + r.many := IntWalk.i64_in _ (by omega)
      have c0 := hT5.c 0
      have c1 := hT5.c 1
      have c2 := hT5.c 2
      have c3 := hT5.c 3
      have f0 := hT5.fc 0
      have f1 := hT5.fc 1
      have f2 := hT5.fc 2
      have f3 := hT5.fc 3
      have d0 := hT5.d 0
      have d1 := hT5.d 1
      have d2 := hT5.d 2
      have d3 := hT5.d 3
      have e0 := hT5.fd 0
      have e1 := hT5.fd 1
      have e2 := hT5.fd 2
      have e3 := hT5.fd 3
      simp [tnCells, zeroTn] at c0 c1 c2 c3 d0 d1 d2 d3
      go_wp2_with fail
      go_region
      go_wp2_with fail
      go_region
      go_wp2
      rw [EV.out]
      refine bodyPost_ret (v := .tuple #[_, tnV _]) (by simp [results, Tryz.results46, go_sem, d0, d1, d2, d3, e0, e1, e2, e3, c0, c1, c2, c3, f0, f1, f2, f3]) rfl ⟨rfl, ?_⟩
      repeat (first | (with_reducible refine Below.drew ?_) | ((with_reducible refine Below.setCell ?_ ?hp _); case hp => simp))
      exact hT5.below
set_option maxRecDepth 100000 in
set_option maxHeartbeats 4000000 in
theorem next_new3 (S : Nat → Prop) (l : List Rq) (v : Value) (t : Tn) (now : Int) (w : World) (h : ReqsAt S w v l) (hg : goodReqs l = true) (hne : l ≠ []) (hst : i64 t.starved) (hn1 : 0 ≤ now) (hn2 : now ≤ 1000000000)
    (q1 : 0 < t.gone) (q2 : t.gone < 3) (q3 : fromI l t.write t.wh < 0) :
    Calls Tryz.prog 46 #[v, tnV t, .int .i64 now] w (Ret (nextV l t now) w) := by
  have H := Lib.hid h
  obtain ⟨A, cap, rfl, h1, h2⟩ := h.form
  unfold maxLen at h2
  clear h
  have ev : nextV l t now = .tuple #[.int .i64 (pickM l (turnedM l t) now), tnV { turnedM l t with gone := 1, wh := endOf l (pickM l (turnedM l t) now) }] := by unfold nextV; rw [nextM_new (by omega)]
  go_enter Tryz.func46, Tryz.ntmps46
  go_wp2_with fail
  have hT := Box2.start w t
  generalize ((w.alloc (Obj.cells #[Value.bool t.write, Value.int IntKind.i64 t.gone, Value.int IntKind.i64 t.starved, Value.int IntKind.i64 t.wh] 68)).alloc
    (Obj.cells #[Value.bool false, Value.int IntKind.i64 0, Value.int IntKind.i64 0, Value.int IntKind.i64 0] 68)) = W at hT ⊢
  refine (from_any S l _ t.write t.wh _ (H.out.below hT.below)).mono ?_
  rintro e w0 ⟨rfl, hb0⟩
  have hT0 := hT.step hb0
  clear hT hb0
  have hT := hT0
  clear hT0
  have c0 := hT.c 0
  have c1 := hT.c 1
  have c2 := hT.c 2
  have c3 := hT.c 3
  simp [tnCells, zeroTn] at c0 c1 c2 c3
  go_wp2_with fail
  clear c0 c1 c2 c3
  refine (turned_any S l _ t _ (H.out.below hT.below) hst (kinds hne)).mono ?_
  rintro e w1 ⟨rfl, hb1⟩
  have hT1 := hT.step hb1
  clear hT hb1
  have hold := turned_kind (t := t) hne
  generalize turnedM l t = t' at hold ev ⊢
  have c0 := hT1.c 0
  have c1 := hT1.c 1
  have c2 := hT1.c 2
  have c3 := hT1.c 3
  have f0 := hT1.fc 0
  have f1 := hT1.fc 1
  have f2 := hT1.fc 2
  have f3 := hT1.fc 3
  have d0 := hT1.d 0
  have d1 := hT1.d 1
  have d2 := hT1.d 2
  have d3 := hT1.d 3
  have e0 := hT1.fd 0
  have e1 := hT1.fd 1
  have e2 := hT1.fd 2
  have e3 := hT1.fd 3
  simp [tnCells, zeroTn] at c0 c1 c2 c3 d0 d1 d2 d3
  go_wp2_with fail
  have hT2 := (((hT1.set 0 (.bool t'.write)).set 1 (.int .i64 t'.gone)).set 2 (.int .i64 t'.starved)).set 3 (.int .i64 t'.wh)
  clear c0 c1 c2 c3 d0 d1 d2 d3 f0 f1 f2 f3 e0 e1 e2 e3
  generalize (((w1.setCell ⟨w.heap.size, 0, none⟩ (.bool t'.write)).setCell ⟨w.heap.size, 1, none⟩ (.int .i64 t'.gone)).setCell ⟨w.heap.size, 2, none⟩ (.int .i64 t'.starved)).setCell ⟨w.heap.size, 3, none⟩ (.int .i64 t'.wh) = w2 at hT2 ⊢
  have hT2 : Box2 w.heap.size w w2 (tnCells t') zeroTn := hT2
  have c0 := hT2.c 0
  have c1 := hT2.c 1
  have c2 := hT2.c 2
  have c3 := hT2.c 3
  have f0 := hT2.fc 0
  have f1 := hT2.fc 1
  have f2 := hT2.fc 2
  have f3 := hT2.fc 3
  have d0 := hT2.d 0
  have d1 := hT2.d 1
  have d2 := hT2.d 2
  have d3 := hT2.d 3
  have e0 := hT2.fd 0
  have e1 := hT2.fd 1
  have e2 := hT2.fd 2
  have e3 := hT2.fd 3
  simp [tnCells, zeroTn] at c0 c1 c2 c3 d0 d1 d2 d3
  go_wp2_with fail
  refine (oldest_any S l _ t'.write _ (H.out.below hT2.below)).mono ?_
  rintro e w3 ⟨rfl, hb3⟩
  have hT3 := hT2.step hb3
  clear hT2 hb3
  clear c0 c1 c2 c3 d0 d1 d2 d3 f0 f1 f2 f3 e0 e1 e2 e3
  have c0 := hT3.c 0
  have c1 := hT3.c 1
  have c2 := hT3.c 2
  have c3 := hT3.c 3
  have f0 := hT3.fc 0
  have f1 := hT3.fc 1
  have f2 := hT3.fc 2
  have f3 := hT3.fc 3
  have d0 := hT3.d 0
  have d1 := hT3.d 1
  have d2 := hT3.d 2
  have d3 := hT3.d 3
  have e0 := hT3.fd 0
  have e1 := hT3.fd 1
  have e2 := hT3.fd 2
  have e3 := hT3.fd 3
  simp [tnCells, zeroTn] at c0 c1 c2 c3 d0 d1 d2 d3
  obtain ⟨o, ro, ho, hro, how, hol⟩ := oldest_ok hold
  have hpick : pickM l t' now = if expB ro now then oldest l t'.write else if fromI l t'.write t'.wh < 0 then fromI l t'.write 0 else fromI l t'.write t'.wh := by
    unfold pickM
    rw [ho, Int.toNat_natCast, List.getD_eq_getElem?_getD, hro]; rfl
  rw [ho] at hpick ⊢
  have hbo := (good_mem hg hro).born
  have Hro := Lib.hid hro
  have How := Lib.hid how
  have Ho := Lib.hid ho
  clear hro how ho hold
  obtain ⟨b, off, rfl, _, hbl, hc⟩ := (H.out.below hT3.below).at_ (by omega)
  have hbB : b < w.heap.size := by
    obtain ⟨b', off', e, _, hb', _⟩ := H.out.at_ (by omega)
    cases e; exact hb'
  obtain ⟨Ad, cd, At, ct, hreq, k0, k1, k2, k3, k4, k5⟩ := hc o ro Hro.out
  clear hc
  have hoi : (o : Int) < (l.length : Int) := by omega
  have Hbo := Lib.hid hbo
  clear hbo
  cases hexp : expB ro now with
  | true =>
    rw [hexp, if_pos rfl] at hpick
    rw [hpick, endOf_at Hro.out] at ev
    have EV := Lib.hid ev
    clear ev hpick
    go_wp2_with fail
    refine (expired_any S ro _ now _ hreq hn1 hn2 Hbo.out).mono ?_
    rintro e w4 ⟨rfl, hb4⟩
    have hT4 := hT3.step hb4
    clear hT3 hb4 k0 k1 k2 k3 k4 k5 hreq hbl
    clear c0 c1 c2 c3 d0 d1 d2 d3 f0 f1 f2 f3 e0 e1 e2 e3
    obtain ⟨j, hj⟩ : ∃ j, j = o := ⟨_, rfl⟩
    subst hj
    obtain ⟨r, hr⟩ : ∃ r, r = ro := ⟨_, rfl⟩
    subst hr
    have Hr := Hro
    obtain ⟨s1, s2, s3, s4, s5⟩ := (good_mem hg Hr.out).span
    obtain ⟨b', off', e, _, hbl, hc⟩ := (H.out.below hT4.below).at_ (by omega)
    cases e
    obtain ⟨_, _, _, _, _, _, k1, k2, _, _, _⟩ := hc j r Hr.out
    clear hc
    have hji : (j : Int) < (l.length : Int) := by omega
    have hs : IntKind.i64.wrap (r.lo + r.many) = r.lo + r.many := IntWalk.i64_in _ (by omega)
    have c0 := hT4.c 0
    have c1 := hT4.c 1
    have c2 := hT4.c 2
    have c3 := hT4.c 3
    have f0 := hT4.fc 0
    have f1 := hT4.fc 1
    have f2 := hT4.fc 2
    have f3 := hT4.fc 3
    have d0 := hT4.d 0
    have d1 := hT4.d 1
    have d2 := hT4.d 2
    have d3 := hT4.d 3
    have e0 := hT4.fd 0
    have e1 := hT4.fd 1
    have e2 := hT4.fd 2
    have e3 := hT4.fd 3
    simp [tnCells, zeroTn] at c0 c1 c2 c3 d0 d1 d2 d3
    go_wp2_with fail
    go_region
    go_wp2_with fail
    go_region
    go_wp2
    rw [EV.out]
    refine bodyPost_ret (v := .tuple #[_, tnV _]) (by simp [results, Tryz.results46, go_sem, d0, d1, d2, d3, e0, e1, e2, e3, c0, c1, c2, c3, f0, f1, f2, f3]) rfl ⟨rfl, ?_⟩
    repeat (first | (with_reducible refine Below.drew ?_) | ((with_reducible refine Below.setCell ?_ ?hp _); case hp => simp))
    exact hT4.below
  | false =>
    rw [hexp] at hpick
    have Hpick := Lib.hid hpick
    have Ev := Lib.hid ev
    clear hpick ev
    go_wp2_with fail
    refine (expired_any S ro _ now _ hreq hn1 hn2 Hbo.out).mono ?_
    rintro e w4 ⟨rfl, hb4⟩
    have hT4 := hT3.step hb4
    clear hT3 hb4 k0 k1 k2 k3 k4 k5 hreq hbl
    clear c0 c1 c2 c3 d0 d1 d2 d3 f0 f1 f2 f3 e0 e1 e2 e3
    have c0 := hT4.c 0
    have c1 := hT4.c 1
    have c2 := hT4.c 2
    have c3 := hT4.c 3
    have f0 := hT4.fc 0
    have f1 := hT4.fc 1
    have f2 := hT4.fc 2
    have f3 := hT4.fc 3
    have d0 := hT4.d 0
    have d1 := hT4.d 1
    have d2 := hT4.d 2
    have d3 := hT4.d 3
    have e0 := hT4.fd 0
    have e1 := hT4.fd 1
    have e2 := hT4.fd 2
    have e3 := hT4.fd 3
    simp [tnCells, zeroTn] at c0 c1 c2 c3 d0 d1 d2 d3
    go_wp2_with fail
    refine (from_any S l _ t'.write t'.wh _ (H.out.below hT4.below)).mono ?_
    rintro e w5 ⟨rfl, hb5⟩
    have hT5 := hT4.step hb5
    clear hT4 hb5
    clear c0 c1 c2 c3 d0 d1 d2 d3 f0 f1 f2 f3 e0 e1 e2 e3
    have c0 := hT5.c 0
    have c1 := hT5.c 1
    have c2 := hT5.c 2
    have c3 := hT5.c 3
    have f0 := hT5.fc 0
    have f1 := hT5.fc 1
    have f2 := hT5.fc 2
    have f3 := hT5.fc 3
    have d0 := hT5.d 0
    have d1 := hT5.d 1
    have d2 := hT5.d 2
    have d3 := hT5.d 3
    have e0 := hT5.fd 0
    have e1 := hT5.fd 1
    have e2 := hT5.fd 2
    have e3 := hT5.fd 3
    simp [tnCells, zeroTn] at c0 c1 c2 c3 d0 d1 d2 d3
    by_cases hf : fromI l t'.write t'.wh < 0
    · have h0 : 0 ≤ fromI l t'.write 0 := fromI_some Hro.out How.out (good_mem hg Hro.out).span.1
      obtain ⟨j, r, hj, hr, _, _, hjl⟩ := fromI_ok h0
      have e1 : pickM l t' now = j := by rw [Hpick.out, if_neg (by simp), if_pos hf, hj]
      have ev := Ev.out
      rw [e1, endOf_at hr] at ev
      have EV := Lib.hid ev
      have Hr := Lib.hid hr
      have Hj := Lib.hid hj
      clear ev Hpick Ev hj hr h0 e1
      go_wp2_with fail
      refine (from_any S l _ t'.write 0 _ (H.out.below hT5.below)).mono ?_
      rintro e w6 ⟨rfl, hb6⟩
      have hT6 := hT5.step hb6
      clear hT5 hb6 hf
      rw [Hj.out]
      clear c0 c1 c2 c3 d0 d1 d2 d3 f0 f1 f2 f3 e0 e1 e2 e3
      obtain ⟨s1, s2, s3, s4, s5⟩ := (good_mem hg Hr.out).span
      obtain ⟨b', off', e, _, hbl, hc⟩ := (H.out.below hT6.below).at_ (by omega)
      cases e
      obtain ⟨_, _, _, _, _, _, k1, k2, _, _, _⟩ := hc j r Hr.out
      clear hc
      have hji : (j : Int) < (l.length : Int) := by omega
      have hs : IntKind.i64.wrap (r.lo + r.many) = r.lo + r.many := IntWalk.i64_in _ (by omega)
      have c0 := hT6.c 0
      have c1 := hT6.c 1
      have c2 := hT6.c 2
      have c3 := hT6.c 3
      have f0 := hT6.fc 0
      have f1 := hT6.fc 1
      have f2 := hT6.fc 2
      have f3 := hT6.fc 3
      have d0 := hT6.d 0
      have d1 := hT6.d 1
      have d2 := hT6.d 2
      have d3 := hT6.d 3
      have e0 := hT6.fd 0
      have e1 := hT6.fd 1
      have e2 := hT6.fd 2
      have e3 := hT6.fd 3
      simp [tnCells, zeroTn] at c0 c1 c2 c3 d0 d1 d2 d3
      go_wp2_with fail
      go_region
      go_wp2_with fail
      go_region
      go_wp2
      rw [EV.out]
      refine bodyPost_ret (v := .tuple #[_, tnV _]) (by simp [results, Tryz.results46, go_sem, d0, d1, d2, d3, e0, e1, e2, e3, c0, c1, c2, c3, f0, f1, f2, f3]) rfl ⟨rfl, ?_⟩
      repeat (first | (with_reducible refine Below.drew ?_) | ((with_reducible refine Below.setCell ?_ ?hp _); case hp => simp))
      exact hT6.below
    · obtain ⟨j, r, hj, hr, _, _, hjl⟩ := fromI_ok (Int.not_lt.1 hf)
      have e1 : pickM l t' now = j := by rw [Hpick.out, if_neg (by simp), if_neg hf, hj]
      have ev := Ev.out
      rw [e1, endOf_at hr] at ev
      have EV := Lib.hid ev
      have Hr := Lib.hid hr
      rw [hj]
      clear ev Hpick Ev hj hr e1 hf
      clear c0 c1 c2 c3 d0 d1 d2 d3 f0 f1 f2 f3 e0 e1 e2 e3
      obtain ⟨s1, s2, s3, s4, s5⟩ := (good_mem hg Hr.out).span
      obtain ⟨b', off', e, _, hbl, hc⟩ := (H.out.below hT5.below).at_ (by omega)
      cases e
      obtain ⟨_, _, _, _, _, _, k1, k2, _, _, _⟩ := hc j r Hr.out
      clear hc
      have hji : (j : Int) < (l.length : Int) := by omega
      have hs : IntKind.i64.wrap (r.lo + r.many) = r.lo + r.many := IntWalk.i64_in _ (by omega)
      have c0 := hT5.c 0
      have c1 := hT5.c 1
      have c2 := hT5.c 2
      have c3 := hT5.c 3
      have f0 := hT5.fc 0
      have f1 := hT5.fc 1
      have f2 := hT5.fc 2
      have f3 := hT5.fc 3
      have d0 := hT5.d 0
      have d1 := hT5.d 1
      have d2 := hT5.d 2
      have d3 := hT5.d 3
      have e0 := hT5.fd 0
      have e1 := hT5.fd 1
      have e2 := hT5.fd 2
      have e3 := hT5.fd 3
      simp [tnCells, zeroTn] at c0 c1 c2 c3 d0 d1 d2 d3
      go_wp2_with fail
      go_region
      go_wp2_with fail
      go_region
      go_wp2
      rw [EV.out]
      refine bodyPost_ret (v := .tuple #[_, tnV _]) (by simp [results, Tryz.results46, go_sem, d0, d1, d2, d3, e0, e1, e2, e3, c0, c1, c2, c3, f0, f1, f2, f3]) rfl ⟨rfl, ?_⟩
      repeat (first | (with_reducible refine Below.drew ?_) | ((with_reducible refine Below.setCell ?_ ?hp _); case hp => simp))
      exact hT5.below

theorem next_any' (S : Nat → Prop) (l : List Rq) (v : Value) (t : Tn) (now : Int) (w : World) (h : ReqsAt S w v l) (hg : goodReqs l = true) (hne : l ≠ []) (hst : i64 t.starved) (hn1 : 0 ≤ now) (hn2 : now ≤ 1000000000) :
    Calls Tryz.prog 46 #[v, tnV t, .int .i64 now] w (Ret (nextV l t now) w) := by
  by_cases q1 : 0 < t.gone
  · by_cases q2 : t.gone < 3
    · by_cases q3 : 0 ≤ fromI l t.write t.wh
      · exact next_on S l v t now w h hg q1 q2 q3
      · exact next_new3 S l v t now w h hg hne hst hn1 hn2 q1 q2 (by omega)
    · exact next_new2 S l v t now w h hg hne hst hn1 hn2 (by omega)
  · exact next_new1 S l v t now w h hg hne hst hn1 hn2 (by omega)
end Go.Proofs.YtinknleckppciaaGreatDoor
