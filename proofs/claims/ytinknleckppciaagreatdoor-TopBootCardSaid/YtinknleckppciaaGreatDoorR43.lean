/- stack.New; the pump: Quiet, Round, Settle. The pump: Round, Settle. -/
import Derived.Test.YtinknleckppciaaGreatDoorR38
import Derived.Test.YtinknleckppciaaGreatDoorR41
import Derived.Test.YtinknleckppciaaGreatDoorR42
namespace Go.Proofs.YtinknleckppciaaGreatDoor
set_option linter.unusedSimpArgs false
set_option linter.unusedVariables false
open Go.RowKit Go.Sort

/-- It returns a new stack over the disk. -/
def RetNew (T : Tys) (F : Nat → Prop) (w : World) (bd : Nat) (d : Dv) : Ending → World → Prop :=
  fun e w' => ∃ (b : Nat) (col : Nat → Nat) (y : Sv), e = .returned (.pointer (some ⟨b, 0, none⟩)) ∧ StAt T col w' b bd 0 y (St.new d) ∧ Below w.heap.size w w' ∧ (∀ k, Fl col k → F k ∨ w.heap.size ≤ k) ∧ w.heap.size ≤ b
set_option maxRecDepth 100000 in
set_option maxHeartbeats 1000000 in
theorem stnew_any (S F : Nat → Prop) (w : World) (bd : Nat) (d : Dv) (h : DevAt TDp TPp S F w bd d) (hF : ∀ k, F k → k < w.heap.size) (hSlt : ∀ k, S k → k < w.heap.size) (hSF : ∀ k, S k → ¬ F k) :
    Calls Tryz.prog 19 #[.pointer (some ⟨bd, 0, none⟩)] w (RetNew Ts F w bd d) := by
  classical
  have H := Lib.hid h
  have HF := Lib.hid hF
  have Hlt := Lib.hid hSlt
  have HSF := Lib.hid hSF
  clear h hF hSlt hSF
  go_enter Tryz.func19, Tryz.ntmps19
  go_wp2_with fail
  refine (drvnew_any S F w bd d H.out HF.out Hlt.out).mono ?_
  rintro e w1 ⟨rfl, hp, hb1, hs1⟩
  obtain ⟨bv, hbv⟩ : ∃ n, w.heap.size + 1 = n := ⟨_, rfl⟩
  have Hbv := Lib.hid hbv
  rw [hbv] at hp ⊢
  have Hp := Lib.hid hp
  have HB1 := Lib.hid hb1
  have Hs1 := Lib.hid hs1
  obtain ⟨x, hx⟩ : ∃ x : Sv, x = ⟨bv, w.heap.size, 0, .slice none 0 0, .slice none 0 0, .pointer none, .pointer none, .pointer none, noB, noB, noB, 0, 0, 0⟩ := ⟨_, rfl⟩
  clear hp hb1 hs1 hbv
  go_wp2_with fail
  go_ret
  obtain ⟨o, ho⟩ : ∃ o : Obj, o = .cells (x.row (St.new d) bd) Ts.S := ⟨_, rfl⟩
  have hoe : o = .cells (x.row (St.new d) bd) Ts.S := ho
  have hA : Below w1.heap.size w1 (w1.alloc o) := (Below.refl _ _).alloc (Nat.le_refl _) _
  have hnew : (w1.alloc o).heap[w1.heap.size]? = some o := heap_alloc_new _ _
  have hsz : (w1.alloc o).heap.size = w1.heap.size + 1 := by simp
  have hs1 := Hs1.out
  have hbv := Hbv.out
  have hwo : w1.alloc (.cells #[.pointer (some ⟨bd, 0, none⟩), .pointer (some ⟨bv, 0, none⟩), .slice none 0 0, .slice none 0 0, .bool false, .int .i64 0, .int .i64 0, .int .i64 0, .int .i64 0, .int .i64 0, .int .i64 0, .pointer none, .pointer none, .pointer none, .string ⟨#[]⟩, .string ⟨#[]⟩, .string ⟨#[]⟩, .int .i64 0, .int .i64 0, .int .i64 0, .bool false] 74) = w1.alloc o := by rw [hoe, hx]; rfl
  rw [hwo]
  generalize w1.alloc o = w2 at hA hnew hsz
  rw [hoe] at hnew
  obtain ⟨col, hcol⟩ : ∃ f : Nat → Nat, ∀ k, f k = if k = w1.heap.size then 1 else if k = bv then 2 else if k = w.heap.size then 3 else if F k then 4 else 0 := ⟨_, fun _ => rfl⟩
  have c1 : col w1.heap.size = 1 := by rw [hcol, if_pos rfl]
  have c2 : col bv = 2 := by rw [hcol, if_neg (by omega), if_pos rfl]
  have c3 : col w.heap.size = 3 := by rw [hcol, if_neg (by omega), if_neg (by omega), if_pos rfl]
  have c4 : ∀ k, F k → col k = 4 := fun k hk => by have := HF.out k hk; rw [hcol, if_neg (by omega), if_neg (by omega), if_neg (by omega), if_pos hk]
  have c0 : ∀ k, S k → col k = 0 := fun k hk => by have := Hlt.out k hk; rw [hcol, if_neg (by omega), if_neg (by omega), if_neg (by omega), if_neg (HSF.out k hk)]
  have hdrv := Hp.out.below hA
  have e1 : x.bv = bv := by rw [hx]
  have e2 : x.bt = w.heap.size := by rw [hx]
  have e3 : x.n = 0 := by rw [hx]
  have e4 : x.bufs = .slice none 0 0 := by rw [hx]
  have e5 : x.wait = .slice none 0 0 := by rw [hx]
  refine ⟨w1.heap.size, col, x, rfl, ⟨hnew, ?_, by rw [e3]; exact Nat.le_refl _, ?_, ?_, rfl, fun c hc => ?_, by rw [hx]; rfl, by rw [hx]; rfl, c1, by rw [e1]; exact c2, by rw [e2]; exact c3, fun k hk => ?_⟩, HB1.out.trans (hA.mono HB1.out.size), fun k hk => ?_, HB1.out.size⟩
  · rw [e1, e2, e3]
    refine ⟨hdrv.row, hdrv.map, (hdrv.dev.mono c4).more (fun k hk => ⟨by have := Hlt.out k hk; omega, c0 k hk⟩), ?_, ?_, ?_⟩
    · intro h1; have h2 : col bv = 4 := h1; rw [c2] at h2; cases h2
    · intro h1; have h2 : col w.heap.size = 4 := h1; rw [c3] at h2; cases h2
    · intro k hk
      constructor
      · rintro rfl; have h2 := hk.2; rw [c2] at h2; cases h2
      · rintro rfl; have h2 := hk.2; rw [c3] at h2; cases h2
  · rw [e4]; exact BufsAt.nil
  · rw [e5]; exact ⟨[], rfl, Rd.nil, by simp⟩
  · match c, hc with
    | 0, _ => show x.a0 = _; rw [hx]
    | 1, _ => show x.a1 = _; rw [hx]
    | 2, _ => show x.a2 = _; rw [hx]
  · rw [hcol] at hk
    split at hk
    · omega
    · split at hk
      · omega
      · split at hk
        · omega
        · split at hk
          · rename_i hf; have := HF.out k hf; omega
          · exact absurd rfl hk
  · have h1 : col k ≠ 0 := hk.1
    rw [hcol] at h1
    split at h1
    · right; omega
    · split at h1
      · right; omega
      · split at h1
        · right; omega
        · split at h1
          · rename_i hf; exact .inl hf
          · exact absurd rfl h1
theorem quiet_iff {s : St} (h3 : s.asks.length = 3) : s.quiet = true ↔ (∀ c, c < 3 → s.askAt c = none) ∧ s.wait = [] ∧ s.v.d.l = [] := by
  unfold St.quiet St.askAt
  obtain ⟨v, bf, wt, tn, nw, us, tg, aks, dn, er, dd⟩ := s
  match aks, h3 with
  | [a0, a1, a2], _ =>
    simp only [List.all_cons, List.all_nil, Bool.and_true, Bool.and_eq_true, Option.isNone_iff_eq_none, List.isEmpty_iff]
    constructor
    · rintro ⟨⟨⟨h0, h1, h2⟩, h4⟩, h5⟩
      refine ⟨fun c hc => ?_, h4, h5⟩
      match c, hc with
      | 0, _ => exact h0
      | 1, _ => exact h1
      | 2, _ => exact h2
    · rintro ⟨h1, h4, h5⟩
      exact ⟨⟨⟨h1 0 (by omega), h1 1 (by omega), h1 2 (by omega)⟩, h4⟩, h5⟩
set_option maxRecDepth 100000 in
set_option maxHeartbeats 1000000 in
theorem quiet_any (col : Nat → Nat) (w : World) (b bd N : Nat) (x : Sv) (s : St) (h : StAt Ts col w b bd N x s) (hI : Inv s) :
    Calls Tryz.prog 10 #[.pointer (some ⟨b, 0, none⟩)] w (Ret (.bool s.quiet) w) := by
  have H := Lib.hid h
  have HI := Lib.hid hI
  clear h hI
  go_enter Tryz.func10, Tryz.ntmps10
  go_wp2_with fail
  go_loop [4] (fun i => ∃ k : Nat, k ≤ 3 ∧ i = .int .i64 k ∧ Hid (∀ j, j < k → s.askAt j = none)) (fun i => 3 - (intOf i).toNat)
  case atStart => exact ⟨0, by omega, rfl, fun j hj => by omega⟩
  case round =>
    obtain ⟨k, hk, rfl, HN⟩ := hrel
    by_cases h3 : k < 3
    · have h3' : (k : Int) < 3 := by omega
      go_wp2_with fail
      refine (waits_any col w b bd N x s k H.out h3).mono ?_
      rintro e w1 ⟨rfl, rfl⟩
      cases ho : s.askAt k with
      | some a =>
        have HQ : Hid (s.quiet = false) := show _ = _ by
          rw [Bool.eq_false_iff]
          intro hq
          rw [((quiet_iff H.out.asks).1 hq).1 k h3] at ho
          cases ho
        clear ho
        simp only [Option.isSome_some]
        go_wp2_with fail
        go_ret
        rw [HQ.out]
        exact ⟨rfl, Below.refl _ _⟩
      | none =>
        have Ho := Lib.hid ho
        clear ho
        simp only [Option.isSome_none]
        go_wp2_with fail
        go_round
        case rel =>
          refine ⟨k + 1, by omega, by go_num, fun j hj => ?_⟩
          rcases Nat.lt_or_ge j k with h | h
          · exact HN.out j h
          · obtain rfl : j = k := by omega
            exact Ho.out
        case measure => simp [intOf]; omega
    · obtain rfl : k = 3 := by omega
      have h3' : ((3 : Nat) : Int) = 3 := rfl
      go_wp2_with fail
      refine (stqueue_any col w b bd N x s H.out HI.out.wait6).mono ?_
      rintro e w1 ⟨v1, rfl, hv1, hb1⟩
      obtain ⟨A1, c1, e1, _, _⟩ := hv1.form
      subst e1
      have HB1 := Lib.hid hb1
      clear hv1 hb1
      by_cases hw : s.wait = []
      · have hl : s.wait.length = 0 := by rw [hw]; rfl
        have Hw := Lib.hid hw
        rw [hl]
        clear hw hl
        go_wp2_with fail
        refine (stbusy_any col w1 b bd N x s (H.out.below HB1.out) HI.out.dv.two).mono ?_
        rintro e w2 ⟨v2, rfl, hv2, hb2⟩
        obtain ⟨A2, c2, e2, _, _⟩ := hv2.form
        subst e2
        have HB2 := Lib.hid hb2
        clear hv2 hb2
        by_cases hl : s.v.d.l = []
        · have HQ : Hid (s.quiet = true) := show _ = _ from (quiet_iff H.out.asks).2 ⟨HN.out, Hw.out, hl⟩
          have hn : s.v.d.l.length = 0 := by rw [hl]; rfl
          rw [hn]
          clear hl hn
          go_wp2_with fail
          go_ret
          rw [HQ.out]
          exact ⟨rfl, HB1.out.trans (HB2.out.mono HB1.out.size)⟩
        · have HQ : Hid (s.quiet = false) := show _ = _ by
            rw [Bool.eq_false_iff]
            intro hq
            exact hl ((quiet_iff H.out.asks).1 hq).2.2
          have hn : (((s.v.d.l.length : Nat) : Int) == 0) = false := by simp only [beq_eq_false_iff_ne]; have := List.length_pos_iff.2 hl; omega
          go_wp2_with fail
          go_ret
          rw [HQ.out]
          exact ⟨rfl, HB1.out.trans (HB2.out.mono HB1.out.size)⟩
      · have HQ : Hid (s.quiet = false) := show _ = _ by
          rw [Bool.eq_false_iff]
          intro hq
          exact hw ((quiet_iff H.out.asks).1 hq).2.1
        have hn : (((s.wait.length : Nat) : Int) == 0) = false := by simp only [beq_eq_false_iff_ne]; have := List.length_pos_iff.2 hw; omega
        go_wp2_with fail
        go_ret
        rw [HQ.out]
        exact ⟨rfl, HB1.out⟩
end Go.Proofs.YtinknleckppciaaGreatDoor
namespace Go.Proofs.YtinknleckppciaaGreatDoor
set_option linter.unusedSimpArgs false
set_option linter.unusedVariables false
open Go.RowKit Go.Sort

/-- So many requests have gone to the disk. -/
def goN (s : St) : Nat → St
  | 0 => s
  | n + 1 => (goN s n).dispatch.1
theorem Inv.goN {s : St} (h : Inv s) : ∀ n, Inv (Go.Proofs.YtinknleckppciaaGreatDoor.goN s n)
  | 0 => h
  | n + 1 => (Inv.goN h n).dispatch
theorem Bd.goN {K : Int} {s : St} (h : Bd K s) : ∀ n, Bd K (Go.Proofs.YtinknleckppciaaGreatDoor.goN s n)
  | 0 => h
  | n + 1 => (Bd.goN h n).dispatch
theorem dispatch_false {s : St} (h : s.dispatch.2 = false) : s.dispatch.1 = s := by
  unfold St.dispatch at *
  split at h
  · rename_i hn; rw [if_pos hn]
  · cases h
theorem dispatch_len {s : St} (h : Inv s) (hd : s.dispatch.2 = true) : s.dispatch.1.v.d.l.length = s.v.d.l.length + 1 := by
  by_cases hn : s.wait = [] ∨ 2 ≤ s.v.d.l.length
  · rw [Inv.dispatch_no hn] at hd; cases hd
  · simp only [not_or] at hn
    obtain ⟨j, r, t', hx, e⟩ := h.dispatched hn.1 (by omega)
    rw [e]
    show (s.v.d.l ++ [r]).length = _
    simp
/-- When no more goes, as much went as can. -/
theorem goN_end {s : St} (h : Inv s) {n : Nat} (hn : ∀ j, j < n → (goN s j).dispatch.2 = true) (he : (goN s n).dispatch.2 = false) : goN s n = s.go := by
  have hl : ∀ j, j ≤ n → (goN s j).v.d.l.length = s.v.d.l.length + j := by
    intro j
    induction j with
    | zero => intro _; rfl
    | succ j ih =>
      intro hj
      rw [goN, dispatch_len (h.goN j) (hn j (by omega)), ih (by omega)]
      omega
  have h2 : n ≤ 2 := by have := hl n (Nat.le_refl _); have := (h.goN n).dv.two; omega
  have hs := dispatch_false he
  match n, h2 with
  | 0, _ =>
    show s = s.dispatch.1.dispatch.1
    have e : s.dispatch.1 = s := hs
    rw [e, e]
  | 1, _ =>
    show s.dispatch.1 = s.dispatch.1.dispatch.1
    exact hs.symm
  | 2, _ => rfl
theorem goN_true {s : St} (h : Inv s) {n : Nat} (hn : ∀ j, j < n → (goN s j).dispatch.2 = true) (he : (goN s n).dispatch.2 = true) : n < 2 := by
  have hl : ∀ j, j ≤ n → (goN s j).v.d.l.length = s.v.d.l.length + j := by
    intro j
    induction j with
    | zero => intro _; rfl
    | succ j ih =>
      intro hj
      rw [goN, dispatch_len (h.goN j) (hn j (by omega)), ih (by omega)]
      omega
  have h1 := dispatch_len (h.goN n) he
  have h3 := ((h.goN n).dispatch).dv.two
  have h4 := hl n (Nat.le_refl _)
  omega
theorem Ret5.after {T : Tys} {col col' : Nat → Nat} {w w1 w' : World} {b bd N : Nat} {t : St} {v : Value} {e : Ending} (hr : Ret5 T col' w1 b bd N t v e w') (hc : Chg (Fl col) w w1) (hrec : Rec col col' w w1) : Ret5 T col w b bd N t v e w' := by
  obtain ⟨c2, z, h1, h2, h3, h4⟩ := hr
  exact ⟨c2, z, h1, h2, hc.recol h3 hrec.grow, hrec.trans h4 hc.size⟩
theorem StAt.moreN {T : Tys} {col : Nat → Nat} {w : World} {b bd N M : Nat} {x : Sv} {s : St} (h : StAt T col w b bd N x s) (hm : N ≤ M) : StAt T col w b bd M x s :=
  ⟨h.row, h.drv, Nat.le_trans h.n hm, h.bufs, h.wait, h.asks, h.ask, h.done, h.errs, h.cb, h.cv, h.ct, h.lt⟩
/-- How many requests the disk has yet room for, as memory tells. -/
def roomAt (bd : Nat) (w : World) : Nat := match w.cell? ⟨bd, 65, none⟩ with
  | some (.slice _ n _) => 3 - n
  | _ => 0
theorem StAt.room {T : Tys} {col : Nat → Nat} {w : World} {b bd N : Nat} {x : Sv} {s : St} (h : StAt T col w b bd N x s) : roomAt bd w = 3 - s.v.d.l.length := by
  obtain ⟨_, h1, h2, wv, lv, cs, hrow, hw, hl, hcs, hok⟩ := h.drv.dev
  obtain ⟨A, cap, rfl, _, _⟩ := hl.form
  unfold roomAt
  rw [cell_of_row _ _ 65 _ _ _ hrow]
  have := devCells_at_l s.v.d wv (.slice A cs.length cap) h1 h2
  rw [List.getElem?_toArray, this]
  simp only
  rw [← hcs, List.length_map]
set_option maxRecDepth 100000 in
set_option maxHeartbeats 2000000 in
theorem round_any (col : Nat → Nat) (w : World) (b bd N : Nat) (x : Sv) (s : St) (K : Int) (h : StAt Ts col w b bd N x s) (hI : Inv s) (hB : Bd K s) (h0 : 0 ≤ K) (hK : K ≤ 600000000) (hN : N ≤ 900000000) :
    Calls Tryz.prog 27 #[.pointer (some ⟨b, 0, none⟩)] w (Ret5 Ts col w b bd (N + 1) s.round (.tuple #[])) := by
  have H := Lib.hid h
  have HI := Lib.hid hI
  have HB := Lib.hid hB
  clear h hI hB
  go_enter Tryz.func27, Tryz.ntmps27
  go_wp2_with fail
  refine (tick_any col w b bd N x s K H.out HI.out HB.out h0 (by omega)).mono ?_
  rintro e w1 ⟨y1, rfl, hst1, hc1, _⟩
  have Hst1 := Lib.hid hst1
  have HC1 := Lib.hid hc1
  have HI1 := Lib.hid HI.out.tick
  have HB1 := Lib.hid (HB.out.tick h0)
  clear hst1 hc1
  go_wp2_with fail
  refine (clean_st col w1 b bd N y1 s.tick Hst1.out HI1.out ⟨by have := HB1.out.use; omega, by have := HB1.out.tag; omega⟩).mono ?_
  rintro e w2 ⟨y2, rfl, hst2, hc2, _⟩
  have Hst2 := Lib.hid hst2
  have HC2 := Lib.hid (HC1.out.two (Hst1.out.chg1 hc2))
  have HI2 := Lib.hid HI1.out.clean
  have HB2 := Lib.hid HB1.out.clean
  clear hst2 hc2
  go_wp2_with fail
  go_loopw [] (fun wr => ∃ (k : Nat) (col' : Nat → Nat) (y : Sv), Hid (StAt Ts col' wr b bd N y (goN s.tick.clean.1 k)) ∧ Hid (Chg (Fl col) w wr) ∧ Hid (Rec col col' w wr) ∧ Hid (∀ j, j < k → (goN s.tick.clean.1 j).dispatch.2 = true)) (fun wr => roomAt bd wr)
  case atStart => exact ⟨0, col, y2, Hst2.out, HC2.out, .refl, fun j hj => by omega⟩
  case round =>
    obtain ⟨k, col', y, HS, HC, HR, HD⟩ := hrel
    have HIk := Lib.hid (HI2.out.goN k)
    have HBk := Lib.hid (HB2.out.goN k)
    go_wp2_with fail
    refine (dispatch_any col' wr b bd N y _ HS.out HIk.out).mono ?_
    rintro e w3 ⟨c3, y3, rfl, hst3, hc3, hr3⟩
    have HC3 := Lib.hid (HC.out.recol hc3 HR.out.grow)
    have HR3 := Lib.hid (HR.out.trans hr3 HC.out.size)
    cases hd : (goN s.tick.clean.1 k).dispatch.2 with
    | true =>
      have Hst3 : Hid (StAt Ts c3 w3 b bd N y3 (goN s.tick.clean.1 (k + 1))) := hst3
      have HD3 : Hid (∀ j, j < k + 1 → (goN s.tick.clean.1 j).dispatch.2 = true) := fun j hj => by
        rcases Nat.lt_or_ge j k with h | h
        · exact HD.out j h
        · obtain rfl : j = k := by omega
          exact hd
      have Hm : Hid (roomAt bd w3 < roomAt bd wr) := show _ < _ by
        rw [Hst3.out.room, HS.out.room]
        have h1 := dispatch_len HIk.out hd
        have h2 := (HI2.out.goN (k + 1)).dv.two
        show 3 - (goN s.tick.clean.1 k).dispatch.1.v.d.l.length < _
        have h2' : (goN s.tick.clean.1 k).dispatch.1.v.d.l.length ≤ 2 := h2
        omega
      clear hd hst3 hc3 hr3
      go_wp2_with fail
      go_roundw
      case rel => exact ⟨k + 1, c3, y3, Hst3.out, HC3.out, HR3.out, HD3.out⟩
      case measure => exact Hm.out
    | false =>
      have He := Lib.hid (goN_end HI2.out HD.out hd)
      have hst4 := hst3
      rw [dispatch_false hd, He.out] at hst4
      have Hst4 := Lib.hid hst4
      have HI4 := Lib.hid (HI2.out.go)
      have HB4 : Hid (Bd (K + 3 + 1) s.tick.clean.1.go) := He.out ▸ HBk.out
      clear hd hst3 hc3 hr3 hst4
      go_wp2_with fail
      refine (end_any c3 w3 b bd N y3 s.tick.clean.1.go 0 false (K + 3 + 1) Hst4.out HI4.out HB4.out (by omega) (by omega) hN).mono ?_
      rintro e w4 hr4
      have Hr4 := Lib.hid (Ret5.after hr4 HC3.out HR3.out)
      obtain ⟨c4, y4, rfl, _⟩ := hr4
      go_wp2_with fail
      go_end0
      obtain ⟨c5, y5, _, h5, h6, h7⟩ := Hr4.out
      exact ⟨c5, y5, rfl, h5, h6, h7⟩
/-- Rounds, from where some were already. -/
theorem settle_quiet {s : St} (h : s.quiet = true) : ∀ n, St.settle n s = (s, 0)
  | 0 => rfl
  | n + 1 => by unfold St.settle; rw [if_pos h]
theorem settle_step {s : St} (h : s.quiet = false) (n : Nat) : St.settle (n + 1) s = ((St.settle n s.round).1, (St.settle n s.round).2 + 1) := by
  rw [St.settle, if_neg (by rw [h]; decide)]
set_option maxRecDepth 100000 in
set_option maxHeartbeats 2000000 in
theorem settle_any (col : Nat → Nat) (w : World) (b bd N : Nat) (x : Sv) (s : St) (K : Int) (most : Nat) (h : StAt Ts col w b bd N x s) (hI : Inv s) (hB : Bd K s) (h0 : 0 ≤ K) (hK : K + 15 * most ≤ 600000000) (hN : N + most ≤ 900000000) (hm : most ≤ 1000000) :
    Calls Tryz.prog 16 #[.pointer (some ⟨b, 0, none⟩), .int .i64 (most : Int)] w (Ret5 Ts col w b bd (N + most) (St.settle most s).1 (.tuple #[.int .i64 ((St.settle most s).2 : Nat), .bool (St.settle most s).1.quiet])) := by
  have H := Lib.hid h
  have HI := Lib.hid hI
  have HB := Lib.hid hB
  clear h hI hB
  go_enter Tryz.func16, Tryz.ntmps16
  go_wp2_with fail
  go_loopw [6] (fun i wr => ∃ (k : Nat) (col' : Nat → Nat) (y : Sv) (t : St), k ≤ most ∧ i = .int .i64 k ∧ Hid (StAt Ts col' wr b bd (N + k) y t) ∧ Hid (Chg (Fl col) w wr) ∧ Hid (Rec col col' w wr) ∧ Hid (Inv t) ∧ Hid (Bd (K + 15 * k) t) ∧ Hid (St.settle most s = ((St.settle (most - k) t).1, (St.settle (most - k) t).2 + k))) (fun i _ => most - (intOf i).toNat)
  case atStart => exact ⟨0, col, x, s, by omega, rfl, H.out, Chg.refl, .refl, HI.out, HB.out.mono (by omega), rfl⟩
  case round =>
    obtain ⟨k, col', y, t, hk, rfl, HS, HC, HR, HIt, HBt, HE⟩ := hrel
    go_wp2_with fail
    refine (quiet_any col' wr b bd (N + k) y t HS.out HIt.out).mono ?_
    rintro e w1 ⟨rfl, hb1⟩
    have HB1 := Lib.hid hb1
    have HS1 := Lib.hid (HS.out.below hb1)
    have HC1 := Lib.hid (HC.out.two (Chg.of_below hb1))
    clear hb1
    by_cases hq : t.quiet = true
    · have HX : Hid (St.settle most s = (t, k)) := show _ = _ by rw [HE.out, settle_quiet hq]; simp
      have Hq := Lib.hid hq
      rw [hq]
      clear hq
      go_wp2_with fail
      refine (quiet_any col' w1 b bd (N + k) y t HS1.out HIt.out).mono ?_
      rintro e w2 ⟨rfl, hb2⟩
      have HB2 := Lib.hid hb2
      clear hb2
      go_wp2_with fail
      go_ret2
      rw [HX.out]
      exact ⟨col', y, rfl, (HS1.out.below HB2.out).moreN (by omega), HC1.out.two (Chg.of_below HB2.out), HR.out.old, HR.out.grow⟩
    · have hq' : t.quiet = false := by simpa using hq
      rw [hq']
      by_cases hlt : k < most
      · have hlt2 : (k : Int) < (most : Int) := by omega
        have hkk : (k : Int) < 1000000 := by omega
        have HX : Hid (St.settle most s = ((St.settle (most - (k + 1)) t.round).1, (St.settle (most - (k + 1)) t.round).2 + (k + 1))) := show _ = _ by
          rw [HE.out, show most - k = (most - (k + 1)) + 1 by omega, settle_step hq']
          simp only [Prod.mk.injEq, true_and]
          omega
        clear hq hq'
        go_wp2_with fail
        refine (round_any col' w1 b bd (N + k) y t (K + 15 * k) HS1.out HIt.out HBt.out (by omega) (by omega) (by omega)).mono ?_
        rintro e w2 hr2
        have Hr2 := Lib.hid (Ret5.after hr2 HC1.out ⟨HR.out.old, HR.out.grow⟩)
        obtain ⟨c2, y2, rfl, _⟩ := hr2
        obtain ⟨c3, y3, _, h3, h4, h5⟩ := Hr2.out
        have HS3 := Lib.hid h3
        have HC3 := Lib.hid h4
        have HR3 := Lib.hid h5
        have HI3 := Lib.hid HIt.out.round
        have HB3 := Lib.hid (HBt.out.round (by omega) HIt.out)
        clear h3 h4 h5 Hr2
        go_wp2_with fail
        go_roundw
        case rel => exact ⟨k + 1, c3, y3, _, by omega, by go_num, HS3.out, HC3.out, HR3.out, HI3.out, HB3.out.mono (by omega), HX.out⟩
        case measure => simp [intOf]; omega
      · obtain rfl : k = most := by omega
        have hlt2 : ¬ (k : Int) < (k : Int) := by omega
        have HX : Hid (St.settle k s = (t, k)) := show _ = _ by rw [HE.out, Nat.sub_self]; simp [St.settle]
        have Hq := Lib.hid hq'
        clear hq hq'
        go_wp2_with fail
        refine (quiet_any col' w1 b bd (N + k) y t HS1.out HIt.out).mono ?_
        rintro e w2 ⟨rfl, hb2⟩
        have HB2 := Lib.hid hb2
        clear hb2
        go_wp2_with fail
        go_ret2
        rw [HX.out]
        exact ⟨col', y, rfl, HS1.out.below HB2.out, HC1.out.two (Chg.of_below HB2.out), HR.out.old, HR.out.grow⟩
end Go.Proofs.YtinknleckppciaaGreatDoor
