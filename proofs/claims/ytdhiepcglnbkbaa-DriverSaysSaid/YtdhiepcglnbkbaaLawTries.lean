
/- The law TopTries: its walk. -/
import Derived.Test.YtdhiepcglnbkbaaOneV
import Derived.Test.YtdhiepcglnbkbaaLawEnds
namespace Go.Proofs.Ytdhiepcglnbkbaa
set_option linter.unusedSimpArgs false
set_option linter.unusedVariables false
open Go.RowKit

theorem Dr.begin {W0 w5 w6 w7 : World} {l : List (Nat × TypeId × Array Value)} (L : Lay W0 w5 l) (hd6 : DevAt TDp TPp (fun k => k < W0.heap.size) (fun k => k = w5.heap.size) w6 w5.heap.size Dv.new) (hb6 : Below w5.heap.size w5 w6) (hs6 : w6.heap.size = w5.heap.size + 1)
    (hp : DrvAt TDp TPp TVp (fun k => k < W0.heap.size) (fun k => k = w5.heap.size) w7 (w6.heap.size + 1) w5.heap.size w6.heap.size 0 ⟨Dv.new, fun _ => 0⟩) (hb7 : Below w6.heap.size w6 w7) (hs7 : w7.heap.size = w6.heap.size + 2) :
    Dr TDp TPp TVp W0 w7 (fun k => k < W0.heap.size) (fun k => k = w5.heap.size) (w6.heap.size + 1) w5.heap.size w6.heap.size 0 ⟨Dv.new, fun _ => 0⟩ l := by
  have hz := L.size
  refine ⟨(L.step hb6).step hb7, hp, fun k hk => by omega, by omega, by omega, fun k hk => by omega, fun k hk => by omega, fun k hk => hk, DvOk.new, fun j => by simp, fun x hx => ?_⟩
  have h1 := L.lt hx
  have h2 := L.own x hx
  refine ⟨?_, ?_, ?_, ?_⟩ <;> omega
theorem again_d {d : Dv} {r : Rq} (h : d.l = [r]) : (d.drop 0).start r = (d, 0) := by
  unfold Dv.start Dv.drop
  rw [if_neg (by rw [h]; simp), h]
  have : d.l.eraseIdx 0 ++ [r] = d.l := by rw [h]; rfl
  rw [← h] at this ⊢
  obtain ⟨a1, a2, a3, a4⟩ := d
  simp only at h this ⊢
  rw [h] at this ⊢
  rfl
set_option maxRecDepth 100000 in
set_option maxHeartbeats 4000000 in
theorem tries_walk (r : Rq) (rv : Value) (faults : Int) (w : World) (hr : ReqAt (fun _ => True) w rv r) : Calls Try.prog 9 #[rv, .int .i64 faults] w (Ret (.bool true) w) := by
  obtain ⟨Ad, cd, At, ct, rfl, _, _, _, _, _, _, _⟩ := hr.opened
  obtain ⟨K, hK, hand⟩ := and7 faults
  have Hr := Lib.hid (hr.lt.more (S' := fun k => k < w.heap.size) (fun b hb => hb.2))
  clear hr
  go_enter Try.func9, Try.ntmps9
  go_wp2_with fail
  have L := (Lay.refl w).alloc' w.heap.size #[Value.bool r.write, Value.int IntKind.i64 r.lo, Value.int IntKind.i64 r.many, Value.slice Ad r.data.length cd, Value.slice At r.tags.length ct, Value.int IntKind.i64 r.born] 38 rfl
  generalize World.alloc _ _ = W at L ⊢
  refine (devnew_any _).mono ?_
  rintro e w2 ⟨rfl, hd2, hb2, hs2⟩
  go_wp2_with fail
  refine (drvnew_any (fun k => k < w.heap.size) (fun k => k = W.heap.size) w2 _ _ (hd2 _) (fun k hk => by omega) (fun k hk => by have := L.size; omega)).mono ?_
  rintro e w3 ⟨rfl, hp3, hb3, hs3⟩
  have hO := Dr.begin L (hd2 _) hb2 hs2 hp3 hb3 hs3
  obtain ⟨bv, hbv⟩ : ∃ x, w2.heap.size + 1 = x := ⟨_, rfl⟩
  obtain ⟨bd, hbd⟩ : ∃ x, W.heap.size = x := ⟨_, rfl⟩
  obtain ⟨bt, hbt⟩ : ∃ x, w2.heap.size = x := ⟨_, rfl⟩
  rw [hbv, hbd, hbt] at hO
  rw [hbv]
  have HO3 := Lib.hid hO
  clear hO L hd2 hb2 hs2 hp3 hb3 hs3
  go_wp2_with fail
  refine (drvroom_any _ _ _ bv bd bt _ _ HO3.out.p (by simp [Dv.new])).mono ?_
  rintro e w4 ⟨rfl, hb4⟩
  rw [show (decide (Dv.new.l.length < 2)) = true from rfl]
  have HO4 := Lib.hid (HO3.out.step hb4)
  clear HO3 hb4
  obtain ⟨c0, c1, c2, c3, c4, c5⟩ := HO4.out.lay.c6 0 rfl
  go_wp2_with fail
  refine (lightreq_any _ r _ _ (Hr.out.below HO4.out.lay.below)).mono ?_
  rintro e w5 ⟨rfl, hb5⟩
  have HO5 := Lib.hid (HO4.out.step hb5)
  clear HO4 hb5 c0 c1 c2 c3 c4 c5
  obtain ⟨c0, c1, c2, c3, c4, c5⟩ := HO5.out.lay.c6 0 rfl
  rcases Bool.eq_false_or_eq_true (lightReq r) with g1 | g1
  rotate_left
  · have hb := Lib.hid HO5.out.lay.below
    go_wp2_with fail
    go_ret
    exact ⟨rfl, hb.out⟩
  go_wp2_with fail
  refine (reqcheck_any _ r _ _ (Hr.out.below HO5.out.lay.below)).mono ?_
  rintro e w6 ⟨rfl, hb6⟩
  have HO6 := Lib.hid (HO5.out.step hb6)
  clear HO5 hb6 c0 c1 c2 c3 c4 c5 g1
  obtain ⟨c0, c1, c2, c3, c4, c5⟩ := HO6.out.lay.c6 0 rfl
  by_cases hf : reqF r = 0
  rotate_left
  · have g1 : (reqF r == 0) = false := by simpa using hf
    have hb := Lib.hid HO6.out.lay.below
    go_wp2_with fail
    go_ret
    exact ⟨rfl, hb.out⟩
  rw [hf]
  have Hf := Lib.hid hf
  have HR := Lib.hid (reqF_zero hf)
  clear hf
  go_wp2_with fail
  refine (drvstart_any _ _ _ bv bd bt _ _ r _ HO6.out.p (Hr.out.below HO6.out.lay.below) HO6.out.flt HO6.out.sf HO6.out.sl (by simp [Dv.new])).mono ?_
  have hst : Dv.new.start r = ({ Dv.new with l := [r] }, 0) := rfl
  have hok1 := HO6.out.ok.start Hf.out
  rw [hst] at hok1 ⊢
  rintro e w7 ⟨rfl, hp7, hc7⟩
  have HO7 := Lib.hid (HO6.out.started hp7 hc7 hok1 rfl)
  clear hp7 hc7 hok1 hst c0 c1 c2 c3 c4 c5
  go_wp2_with fail
  go_loopw [7] (fun j wr => ∃ (i : Nat) (S F : Nat → Prop) (v : Drv) (n : Nat), 1 ≤ i ∧ i ≤ 3 ∧ i ≤ K + 1 ∧ j = .int .i64 i ∧ Hid (Dr TDp TPp TVp w wr S F bv bd bt n v [(w.heap.size, 38, #[Value.bool r.write, Value.int IntKind.i64 r.lo, Value.int IntKind.i64 r.many, Value.slice Ad r.data.length cd, Value.slice At r.tags.length ct, Value.int IntKind.i64 r.born])]) ∧ Hid (v.d.l = [r]) ∧ Hid (v.d.waits = []) ∧ Hid (v.tries (tagOf r) = (i : Int) - 1) ∧ n ≤ 10 * i) (fun j _ => (9 - intOf j).toNat)
  case atStart => exact ⟨1, _, _, _, 0, by omega, by omega, by omega, rfl, HO7.out, rfl, rfl, rfl, by omega⟩
  case round =>
    obtain ⟨i, S, F, v, n, hi1, hi3, hiK, rfl, hO, hl, hwt, htg, hn⟩ := hrel
    have hk : Hid (v.d.l[0]? = some r) := by show v.d.l[0]? = some r; rw [hl.out]; rfl
    by_cases hle : i ≤ K
    · have hle2 : (i : Int) ≤ (K : Int) := by omega
      have hF := drvend_any S F wr bv bd bt n v 0 true hO.out.p hO.out.ok (by rw [hwt.out]; simp) (by omega) hO.out.tri hO.out.flt hO.out.sf hO.out.sl
      have hok1 := Drv.endAt_ok hO.out.ok hO.out.tr 0 true
      by_cases h3 : i < 3
      · have he : v.endAt 0 true = (⟨v.d, upd v.tries (tagOf r) (v.tries (tagOf r) + 1)⟩, zeroRs, false, 0) := by
          have := drvEndAt_again v 0 r hk.out (by rw [hl.out]; simp) (by rw [htg.out]; omega)
          rw [again_d hl.out] at this
          exact this
        rw [he] at hF hok1
        have HF := Lib.hid hF
        have Hok1 := Lib.hid hok1
        clear hF hok1 he
        go_wp2_with fail
        refine HF.out.mono ?_
        rintro e w8 ⟨x8, F8, S8, rfl, hrs, hp8, hc8, hF8, hSS8, hS8, hSF8⟩
        have HO8 := Lib.hid (hO.out.did hp8 hc8 hF8 hSS8 hS8 hSF8 Hok1.out.1 Hok1.out.2.1)
        obtain ⟨rc, ov, rfl, erc, hrc, hov⟩ := hrs
        obtain ⟨rr, rdv, rtv⟩ := rc
        simp only at erc
        subst erc
        obtain ⟨Bd, bd7, e1, _, _⟩ := hrc.data.form
        obtain ⟨Bt, bt7, e2, _, _⟩ := hrc.tags.form
        obtain ⟨Bo, bo7, e3, _, _⟩ := hov.form
        simp only at e1 e2
        subst e1 e2 e3
        clear hrc hov hp8 hc8 hF8 hSS8 hS8 hSF8 HF hO
        have hni : ¬ (i : Int) = 3 := by omega
        go_wp2_with fail
        have HO9 := Lib.hid (HO8.out.step ((Below.refl w8.heap.size w8).alloc (Nat.le_refl _) (Obj.cells #[Value.bool zeroRs.req.write, Value.int IntKind.i64 zeroRs.req.lo, Value.int IntKind.i64 zeroRs.req.many, Value.slice Bd zeroRs.req.data.length bd7, Value.slice Bt zeroRs.req.tags.length bt7, Value.int IntKind.i64 zeroRs.req.born, Value.slice Bo zeroRs.data.length bo7, Value.int IntKind.i64 zeroRs.err] 49)))
        have htg2 : upd v.tries (tagOf r) (v.tries (tagOf r) + 1) (tagOf r) = ((i + 1 : Nat) : Int) - 1 := by
          unfold upd
          rw [if_pos rfl, htg.out]
          omega
        go_roundw
        case rel => exact ⟨i + 1, _, _, _, _, by omega, by omega, by omega, by go_num, HO9.out, hl.out, hwt.out, htg2, by omega⟩
        case measure => simp [intOf]; omega
      · obtain rfl : i = 3 := by omega
        have he : v.endAt 0 true = (⟨v.d.drop 0, upd v.tries (tagOf r) 0⟩, ⟨r, [], 8⟩, true, 0) :=
          drvEndAt_gone v 0 r hk.out (by rw [htg.out]; omega)
        rw [he] at hF hok1
        have HF := Lib.hid hF
        have Hok1 := Lib.hid hok1
        clear hF hok1 he
        have hi' : ((3 : Nat) : Int) = 3 := rfl
        go_wp2_with fail
        refine HF.out.mono ?_
        rintro e w8 ⟨x8, F8, S8, rfl, hrs, hp8, hc8, hF8, hSS8, hS8, hSF8⟩
        have HO8 := Lib.hid (hO.out.did hp8 hc8 hF8 hSS8 hS8 hSF8 Hok1.out.1 Hok1.out.2.1)
        obtain ⟨rc, ov, ev, erc, hrc, hov⟩ := hrs
        obtain ⟨rr, rdv, rtv⟩ := rc
        simp only at erc ev hov
        subst erc
        obtain ⟨Bd, bd7, e1, _, _⟩ := hrc.data.form
        obtain ⟨Bt, bt7, e2, _, _⟩ := hrc.tags.form
        obtain ⟨Bo, bo7, e3, _, _⟩ := hov.form
        simp only at e1 e2
        subst e1 e2 e3 ev
        have Hrc := Lib.hid hrc
        clear hrc hov hp8 hc8 hF8 hSS8 hS8 hSF8 HF hO
        go_wp2_with fail
        have hO9 := HO8.out.alloc w8.heap.size #[.bool rr.write, .int .i64 rr.lo, .int .i64 rr.many, .slice Bd rr.data.length bd7, .slice Bt rr.tags.length bt7, .int .i64 rr.born, .slice Bo (0 : Nat) bo7, .int .i64 8] 49 rfl
        generalize hW : World.alloc _ _ = W8
        have hb8 : Below w8.heap.size w8 W8 := hW ▸ (Below.refl _ _).alloc (Nat.le_refl _) _
        have hO9' : Dr TDp TPp TVp w W8 S8 F8 bv bd bt (n + 1) ⟨v.d.drop 0, upd v.tries (tagOf rr) 0⟩ _ := hW ▸ hO9
        have HO9 := Lib.hid hO9'
        have Hrc9 := Lib.hid (Hrc.out.below hb8)
        have hl0 : (v.d.drop 0).l.length = 0 := by unfold Dv.drop; rw [hl.out]; rfl
        have hFF := drvend_any S8 F8 W8 bv bd bt (n + 1) ⟨v.d.drop 0, upd v.tries (tagOf rr) 0⟩ 0 true HO9.out.p HO9.out.ok (by show (v.d.drop 0).waits.length ≤ _; show v.d.waits.length ≤ _; rw [hwt.out]; simp) (by omega) HO9.out.tri HO9.out.flt HO9.out.sf HO9.out.sl
        have hok2 := Drv.endAt_ok HO9.out.ok HO9.out.tr 0 true
        rw [drvEndAt_none _ 0 true (.inr (by show ((v.d.drop 0).l.length : Int) ≤ 0; omega))] at hFF hok2
        have HFF := Lib.hid hFF
        have Hok2 := Lib.hid hok2
        clear hO9 hO9' hb8 hFF hok2 HO8 Hrc hW
        go_wp2_with fail
        refine HFF.out.mono ?_
        rintro e w9 ⟨x9, F9, S9, rfl, _, hp9, hc9, hF9, hSS9, hS9, hSF9⟩
        have HOa := Lib.hid (HO9.out.did hp9 hc9 hF9 hSS9 hS9 hSF9 Hok2.out.1 Hok2.out.2.1)
        have Hrca := Lib.hid (Hrc9.out.keep (fun k hk hlt => hc9.block k hlt (fun hf => hf.elim (HO9.out.sf k hk) (HO9.out.p.sv k hk).2)))
        clear hp9 hc9 hF9 hSS9 hS9 hSF9 HFF HO9
        obtain ⟨y0, y1, y2, y3, y4, y5, y6, y7⟩ := HOa.out.lay.c8 0 rfl
        obtain ⟨c0, c1, c2, c3, c4, c5⟩ := HOa.out.lay.c6 1 rfl
        go_wp2_with fail
        refine (samereq_any (fun _ => True) rr rr _ _ _ (Hrca.out.more (fun _ _ => trivial)).req ((Hr.out.below HOa.out.lay.below).more (fun _ _ => trivial))).mono ?_
        rintro e wa ⟨rfl, hba⟩
        have HOb := Lib.hid (HOa.out.step hba)
        rw [sameB_true.2 rfl]
        go_wp2_with fail
        refine (number_any 5 _).mono ?_
        rintro e wb ⟨rfl, rfl⟩
        have hb := Lib.hid HOb.out.lay.below
        go_wp2_with fail
        go_ret
        exact ⟨rfl, hb.out⟩
    · obtain rfl : i = K + 1 := by omega
      have hle2 : ¬ ((K + 1 : Nat) : Int) ≤ (K : Int) := by omega
      have hF := drvend_any S F wr bv bd bt n v 0 false hO.out.p hO.out.ok (by rw [hwt.out]; simp) (by omega) hO.out.tri hO.out.flt hO.out.sf hO.out.sl
      have hok1 := Drv.endAt_ok hO.out.ok hO.out.tr 0 false
      have he : v.endAt 0 false = (⟨(v.d.ended r 0 false).1, upd v.tries (tagOf r) 0⟩, (v.d.ended r 0 false).2, true, 0) := drvEndAt_ok v 0 r hk.out
      rw [he] at hF hok1
      obtain ⟨he0, her⟩ := ended_ok_err v.d r 0
      obtain ⟨dn, hdn⟩ : ∃ x, v.d.ended r 0 false = x := ⟨_, rfl⟩
      rw [hdn] at hF hok1 he0 her
      obtain ⟨dn, rq, dl, er⟩ := dn
      simp only at hF hok1 he0 her
      subst he0 her
      have HF := Lib.hid hF
      have Hok1 := Lib.hid hok1
      clear hF hok1 he hdn
      go_wp2_with fail
      refine HF.out.mono ?_
      rintro e w8 ⟨x8, F8, S8, rfl, hrs, hp8, hc8, hF8, hSS8, hS8, hSF8⟩
      have HO8 := Lib.hid (hO.out.did hp8 hc8 hF8 hSS8 hS8 hSF8 Hok1.out.1 Hok1.out.2.1)
      obtain ⟨rc, ov, ev, erc, hrc, hov⟩ := hrs
      obtain ⟨rr, rdv, rtv⟩ := rc
      simp only at erc ev hov
      subst erc
      obtain ⟨Bd, bd7, e1, _, _⟩ := hrc.data.form
      obtain ⟨Bt, bt7, e2, _, _⟩ := hrc.tags.form
      obtain ⟨Bo, bo7, e3, _, _⟩ := hov.form
      simp only at e1 e2
      subst e1 e2 e3 ev
      have Hrc := Lib.hid (hrc.more (S' := fun _ => True) (fun _ _ => trivial))
      clear hrc hov hp8 hc8 hF8 hSS8 hS8 hSF8 HF hO
      have hwlt : w.heap.size < w8.heap.size := HO8.out.lay.lt (x := (w.heap.size, 38, #[Value.bool rr.write, Value.int IntKind.i64 rr.lo, Value.int IntKind.i64 rr.many, Value.slice Ad rr.data.length cd, Value.slice At rr.tags.length ct, Value.int IntKind.i64 rr.born])) (by simp)
      obtain ⟨c0, c1, c2, c3, c4, c5⟩ := HO8.out.lay.c6 0 rfl
      have d0 : ∀ o, (w8.alloc o).cell? ⟨w.heap.size, 0, none⟩ = _ := fun o => (World.cell?_alloc_lt _ _ _ hwlt).trans c0
      have d1 : ∀ o, (w8.alloc o).cell? ⟨w.heap.size, 1, none⟩ = _ := fun o => (World.cell?_alloc_lt _ _ _ hwlt).trans c1
      have d2 : ∀ o, (w8.alloc o).cell? ⟨w.heap.size, 2, none⟩ = _ := fun o => (World.cell?_alloc_lt _ _ _ hwlt).trans c2
      have d3 : ∀ o, (w8.alloc o).cell? ⟨w.heap.size, 3, none⟩ = _ := fun o => (World.cell?_alloc_lt _ _ _ hwlt).trans c3
      have d4 : ∀ o, (w8.alloc o).cell? ⟨w.heap.size, 4, none⟩ = _ := fun o => (World.cell?_alloc_lt _ _ _ hwlt).trans c4
      have d5 : ∀ o, (w8.alloc o).cell? ⟨w.heap.size, 5, none⟩ = _ := fun o => (World.cell?_alloc_lt _ _ _ hwlt).trans c5
      have HO9 : ∀ o, Below w8.heap.size w8 (w8.alloc o) := fun o => (Below.refl w8.heap.size w8).alloc (Nat.le_refl _) o
      have HB9 := Lib.hid HO9
      clear c0 c1 c2 c3 c4 c5 HO9
      go_wp2_with fail
      refine (samereq_any (fun _ => True) rr rr _ _ _ (Hrc.out.below (HB9.out _)).req ((Hr.out.below (HO8.out.lay.below.trans ((HB9.out _).mono HO8.out.lay.size))).more (fun _ _ => trivial))).mono ?_
      rintro e wa ⟨rfl, hba⟩
      have HOb := Lib.hid ((HO8.out.step (HB9.out _)).step hba)
      rw [sameB_true.2 rfl]
      have hb := Lib.hid HOb.out.lay.below
      go_wp2_with fail
      go_ret
      exact ⟨rfl, hb.out⟩
end Go.Proofs.Ytdhiepcglnbkbaa
