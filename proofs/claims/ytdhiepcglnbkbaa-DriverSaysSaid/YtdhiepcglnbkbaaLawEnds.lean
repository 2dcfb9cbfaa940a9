
/- The law TopEnds: its walk. -/
import Derived.Test.YtdhiepcglnbkbaaTwoP
import Derived.Test.YtdhiepcglnbkbaaCheck2
namespace Go.Proofs.Ytdhiepcglnbkbaa
set_option linter.unusedSimpArgs false
set_option linter.unusedVariables false
open Go.RowKit

theorem number_any (n : Nat) (w : World) : Calls Try.prog 55 #[errV n] w (RetSame (.int .i64 (n : Int)) w) := by
  by_cases h : n = 0
  · subst h
    rw [errV_zero]
    go_enter Try.func55, Try.ntmps55
    go_wp2
    go_ret
    exact ⟨rfl, rfl⟩
  · rw [errV_pos h]
    go_enter Try.func55, Try.ntmps55
    go_wp2
    go_ret
    exact ⟨rfl, rfl⟩
theorem start0 (a : Rq) : Dv.new.start a = ({ Dv.new with l := [a] }, 0) := rfl
theorem start1 (a b : Rq) : (Dv.start { Dv.new with l := [a] } b) = ({ Dv.new with l := [a, b] }, 0) := rfl
theorem start2 (a b c : Rq) : (Dv.start { Dv.new with l := [a, b] } c) = ({ Dv.new with l := [a, b] }, 7) := rfl
theorem ok1_ {a : Rq} (h : reqF a = 0) : DvOk { Dv.new with l := [a] } := DvOk.new.start h
theorem ok2_ {a b : Rq} (h : reqF a = 0) (hb : reqF b = 0) : DvOk { Dv.new with l := [a, b] } := (ok1_ h).start hb
theorem end_l (d : Dv) (r : Rq) (i : Nat) (f : Bool) : (d.ended r i f).1.l = d.l.eraseIdx i := by
  unfold Dv.ended
  split
  · rfl
  · split
    · exact (Dv.wrote_same _ _ _).2.1
    · rfl

set_option maxRecDepth 100000 in
set_option maxHeartbeats 4000000 in
theorem ends_walk (a b : Rq) (va vb : Value) (w : World) (ha : ReqAt (fun _ => True) w va a) (hb : ReqAt (fun _ => True) w vb b) : Calls Try.prog 6 #[va, vb] w (Ret (.bool true) w) := by
  have ha := ha.lt.more (S' := fun k => k < w.heap.size) (fun k hk => hk.2)
  have hb := hb.lt.more (S' := fun k => k < w.heap.size) (fun k hk => hk.2)
  obtain ⟨Ad, cd, At, ct, rfl, _, _, _, _, _, _, _⟩ := ha.opened
  obtain ⟨Bd, dd, Bt, dt, rfl, _, _, _, _, _, _, _⟩ := hb.opened
  have Ha := Lib.hid ha
  have Hb := Lib.hid hb
  clear ha hb
  have hm : ∀ w, Calls Try.prog 54 #[spanV 0 2, spanV 1 1] w (Ret (.bool true) w) := fun w => meet_any 0 2 1 1 w (by omega) (by omega) (by omega) (by omega) (by omega) (by omega) (by omega) (by omega)
  go_enter Try.func6, Try.ntmps6
  go_wp2_with fail
  have L := ((Lay.refl w).alloc' w.heap.size #[Value.bool a.write, Value.int IntKind.i64 a.lo, Value.int IntKind.i64 a.many, Value.slice Ad a.data.length cd, Value.slice At a.tags.length ct, Value.int IntKind.i64 a.born] 38 rfl).alloc' (w.heap.size + 1) #[Value.bool b.write, Value.int IntKind.i64 b.lo, Value.int IntKind.i64 b.many, Value.slice Bd b.data.length dd, Value.slice Bt b.tags.length dt, Value.int IntKind.i64 b.born] 38 (by simp)
  generalize World.alloc _ _ = W at L ⊢
  refine (lightreq_any _ a _ _ (Ha.out.below L.below)).mono ?_
  rintro e w1 ⟨rfl, hb1⟩
  have L1 := L.step hb1
  clear L hb1
  obtain ⟨c0, c1, c2, c3, c4, c5⟩ := L1.c6 1 rfl
  obtain ⟨d0, d1, d2, d3, d4, d5⟩ := L1.c6 0 rfl
  rcases Bool.eq_false_or_eq_true (lightReq a) with g1 | g1
  rotate_left
  · go_wp2_with (go_at_call 54; refine (hm _).mono ?_; rintro e wz ⟨rfl, hbz⟩)
    go_ret
    exact ⟨rfl, (L1.step hbz).below⟩
  go_wp2_with fail
  refine (lightreq_any _ b _ _ (Hb.out.below L1.below)).mono ?_
  rintro e w2 ⟨rfl, hb2⟩
  have L2 := L1.step hb2
  clear L1 hb2 c0 c1 c2 c3 c4 c5 d0 d1 d2 d3 d4 d5 g1
  obtain ⟨c0, c1, c2, c3, c4, c5⟩ := L2.c6 1 rfl
  obtain ⟨d0, d1, d2, d3, d4, d5⟩ := L2.c6 0 rfl
  rcases Bool.eq_false_or_eq_true (lightReq b) with g1 | g1
  rotate_left
  · go_wp2_with (go_at_call 54; refine (hm _).mono ?_; rintro e wz ⟨rfl, hbz⟩)
    go_ret
    exact ⟨rfl, (L2.step hbz).below⟩
  go_wp2_with fail
  refine (reqcheck_any _ a _ _ (Ha.out.below L2.below)).mono ?_
  rintro e w3 ⟨rfl, hb3⟩
  have L3 := L2.step hb3
  clear L2 hb3 c0 c1 c2 c3 c4 c5 d0 d1 d2 d3 d4 d5 g1
  obtain ⟨c0, c1, c2, c3, c4, c5⟩ := L3.c6 1 rfl
  obtain ⟨d0, d1, d2, d3, d4, d5⟩ := L3.c6 0 rfl
  by_cases f1 : reqF a = 0
  rotate_left
  · have g1 : (reqF a == 0) = false := by simpa using f1
    go_wp2_with (go_at_call 54; refine (hm _).mono ?_; rintro e wz ⟨rfl, hbz⟩)
    go_ret
    exact ⟨rfl, (L3.step hbz).below⟩
  rw [f1]
  have F1 := Lib.hid f1
  clear f1
  go_wp2_with fail
  refine (reqcheck_any _ b _ _ (Hb.out.below L3.below)).mono ?_
  rintro e w4 ⟨rfl, hb4⟩
  have L4 := L3.step hb4
  clear L3 hb4 c0 c1 c2 c3 c4 c5 d0 d1 d2 d3 d4 d5
  obtain ⟨c0, c1, c2, c3, c4, c5⟩ := L4.c6 1 rfl
  obtain ⟨d0, d1, d2, d3, d4, d5⟩ := L4.c6 0 rfl
  by_cases f1 : reqF b = 0
  rotate_left
  · have g1 : (reqF b == 0) = false := by simpa using f1
    go_wp2_with (go_at_call 54; refine (hm _).mono ?_; rintro e wz ⟨rfl, hbz⟩)
    go_ret
    exact ⟨rfl, (L4.step hbz).below⟩
  rw [f1]
  have F2 := Lib.hid f1
  clear f1
  have Ra := Lib.hid (reqF_zero F1.out)
  have Rb := Lib.hid (reqF_zero F2.out)
  go_wp2_with fail
  have hsa := Ra.out.span
  have hsb := Rb.out.span
  unfold SpanOk at hsa hsb
  refine (meet_any a.lo a.many b.lo b.many _ (by omega) (by omega) (by omega) (by omega) (by omega) (by omega) (by omega) (by omega)).mono ?_
  rintro e w5 ⟨rfl, hb5⟩
  have L5 := L4.step hb5
  clear L4 hb5 c0 c1 c2 c3 c4 c5 d0 d1 d2 d3 d4 d5 hsa hsb
  rcases Bool.eq_false_or_eq_true (meetB a.lo a.many b.lo b.many) with g1 | g1
  · go_wp2_with (go_at_call 54; refine (hm _).mono ?_; rintro e wz ⟨rfl, hbz⟩)
    go_ret
    exact ⟨rfl, (L5.step hbz).below⟩
  have Hap := Lib.hid g1
  rw [g1]
  have Hm := Lib.hid hm
  clear g1 hm
  go_wp2_with fail
  refine (devnew_any _).mono ?_
  rintro e w6 ⟨rfl, hd6, hb6, hs6⟩
  obtain ⟨bd, hbd⟩ : ∃ x, w5.heap.size = x := ⟨_, rfl⟩
  have hd6 := hd6 (fun k => k < w.heap.size)
  have L6 := L5.step hb6
  have Hs6 := Lib.hid hs6
  clear hs6
  go_wp2_with fail
  refine (devnew_any _).mono ?_
  rintro e w7 ⟨rfl, hd7, hb7, hs7⟩
  obtain ⟨bm, hbm⟩ : ∃ x, w6.heap.size = x := ⟨_, rfl⟩
  have hd7 := hd7 (fun k => k < w.heap.size)
  have hT := TwoP.begin L5 hd6 hb6 Hs6.out hd7 hb7 hs7
  rw [hbd, hbm] at hT
  have HT := Lib.hid hT
  clear hT hd6 hd7 L5 L6 hb6 hb7 hs7
  obtain ⟨c0, c1, c2, c3, c4, c5⟩ := HT.out.lay.c6 1 rfl
  go_wp2_with fail
  refine (devstart_any _ _ _ bd _ a _ HT.out.p (Ha.out.below HT.out.below) HT.out.flt HT.out.sf (by simp [Dv.new])).mono ?_
  rw [start0]
  rintro e u1 ⟨rfl, hd, hc⟩
  simp only at hd ⊢
  have HT1 := Lib.hid (HT.out.prog hd hc (fun _ h => h) (ok1_ F1.out))
  clear hd hc HT c0 c1 c2 c3 c4 c5
  obtain ⟨c0, c1, c2, c3, c4, c5⟩ := HT1.out.lay.c6 0 rfl
  go_wp2_with fail
  refine (devstart_any _ _ _ bd _ b _ HT1.out.p (Hb.out.below HT1.out.below) HT1.out.flt HT1.out.sf (by simp [Dv.new])).mono ?_
  rw [start1]
  rintro e u2 ⟨rfl, hd, hc⟩
  simp only at hd ⊢
  have HT2 := Lib.hid (HT1.out.prog hd hc (fun _ h => h) (ok2_ F1.out F2.out))
  clear hd hc HT1 c0 c1 c2 c3 c4 c5
  obtain ⟨c0, c1, c2, c3, c4, c5⟩ := HT2.out.lay.c6 1 rfl
  go_wp2_with fail
  refine (devstart_any _ _ _ bm _ a _ HT2.out.r (Ha.out.below HT2.out.below) HT2.out.glt HT2.out.sg (by simp [Dv.new])).mono ?_
  rw [start0]
  rintro e u3 ⟨rfl, hd, hc⟩
  simp only at hd ⊢
  have HT3 := Lib.hid (HT2.out.ref hd hc (fun _ h => h) (ok1_ F1.out))
  clear hd hc HT2 c0 c1 c2 c3 c4 c5
  obtain ⟨c0, c1, c2, c3, c4, c5⟩ := HT3.out.lay.c6 0 rfl
  go_wp2_with fail
  refine (devstart_any _ _ _ bm _ b _ HT3.out.r (Hb.out.below HT3.out.below) HT3.out.glt HT3.out.sg (by simp [Dv.new])).mono ?_
  rw [start1]
  rintro e u4 ⟨rfl, hd, hc⟩
  simp only at hd ⊢
  have HT4 := Lib.hid (HT3.out.ref hd hc (fun _ h => h) (ok2_ F1.out F2.out))
  clear hd hc HT3 c0 c1 c2 c3 c4 c5
  obtain ⟨c0, c1, c2, c3, c4, c5⟩ := HT4.out.lay.c6 1 rfl
  go_wp2_with fail
  refine (devstart_any _ _ _ bd _ a _ HT4.out.p (Ha.out.below HT4.out.below) HT4.out.flt HT4.out.sf (by simp [Dv.new])).mono ?_
  rw [start2]
  rintro e u5 ⟨rfl, hd, hc⟩
  simp only at hd ⊢
  have HT5 := Lib.hid (HT4.out.prog hd hc (fun _ h => h) (ok2_ F1.out F2.out))
  clear hd hc HT4 c0 c1 c2 c3 c4 c5
  obtain ⟨c0, c1, c2, c3, c4, c5⟩ := HT5.out.lay.c6 0 rfl
  go_wp2_with fail
  refine (number_any 7 _).mono ?_
  rintro e u6 ⟨rfl, rfl⟩
  clear c0 c1 c2 c3 c4 c5
  have hw0 : (Dv.waits { Dv.new with l := [a, b] }).length = 0 := rfl
  have hwa : Hid ((Dv.ended { Dv.new with l := [a, b] } a 0 false).1.waits.length ≤ 4) := (HT5.out.ok1.ended Ra.out 0 false).2
  have hwb : Hid ((Dv.ended { Dv.new with l := [a, b] } b 1 false).1.waits.length ≤ 4) := (HT5.out.ok1.ended Rb.out 1 false).2
  have hl1 : Hid ((Dv.ended { Dv.new with l := [a, b] } a 0 false).1.l = [b]) := by show _ = _; rw [end_l]; rfl
  have hl3 : Hid ((Dv.ended { Dv.new with l := [a, b] } b 1 false).1.l = [a]) := by show _ = _; rw [end_l]; rfl
  generalize hD2 : ({ Dv.new with l := [a, b] } : Dv) = d2 at *
  go_wp2_with fail
  refine (devend_some _ _ _ bd d2 0 a false HT5.out.p (by rw [← hD2]; rfl) Ra.out HT5.out.ok1.two (by have := hw0; omega) HT5.out.ok1.nowM HT5.out.flt HT5.out.sf HT5.out.slt).mono ?_
  rintro e u6 ⟨v6, F6, S6, rfl, hrs, hd, hc, _, hF, _, hS, hSF⟩
  have HT6a := Lib.hid (HT5.out.prog hd hc hF (HT5.out.ok1.ended Ra.out 0 false).1)
  have Hx := Lib.hid hrs
  have Hxs : Hid (Apart2 S6 F6 _ u6) := fun q hq => ⟨(hS q hq).elim (fun h => HT6a.out.slt q h) (·.2), hSF q hq, fun hg => (hS q hq).elim (fun h => HT5.out.sg q h hg) (fun h => by have := HT5.out.glt q hg; omega)⟩
  obtain ⟨Bd6, bd6, Bt6, bt6, Bo6, bo6, rfl⟩ := hrs.opened
  have Hr6 := Lib.hid hrs
  clear hrs hd hc hF hS hSF HT5
  obtain ⟨x1, hx1⟩ : ∃ x, d2.ended a 0 false = x := ⟨_, rfl⟩
  obtain ⟨x3, hx3⟩ : ∃ x, d2.ended b 1 false = x := ⟨_, rfl⟩
  rw [hx1] at HT6a Hx Hr6 hwa hl1 ⊢
  rw [hx3] at hwb hl3
  go_wp2_with fail
  have hT := HT6a.out.alloc u6.heap.size #[.bool x1.2.req.write, .int .i64 x1.2.req.lo, .int .i64 x1.2.req.many, .slice Bd6 x1.2.req.data.length bd6, .slice Bt6 x1.2.req.tags.length bt6, .int .i64 x1.2.req.born, .slice Bo6 x1.2.data.length bo6, .int .i64 (x1.2.err : Int)] 49 rfl
  generalize hW : World.alloc _ _ = W6 at hT
  have hbW : Below u6.heap.size u6 W6 := hW ▸ (Below.refl _ _).alloc (Nat.le_refl _) _
  have HT6 := Lib.hid hT
  have Hx6 := Lib.hid (Hx.out.below hbW)
  have Hxs6 := Lib.hid (Hxs.out.step hbW.size)
  clear hT hW hbW HT6a Hx Hxs Hr6
  go_wp2_with fail
  refine (devend_some _ _ _ bd x1.1 0 b false HT6.out.p (by rw [hl1.out]; rfl) Rb.out HT6.out.ok1.two (by have := hwa.out; omega) HT6.out.ok1.nowM HT6.out.flt HT6.out.sf HT6.out.slt).mono ?_
  rintro e u7 ⟨v7, F7, S7, rfl, hrs, hd, hc, _, hF, _, hS, hSF⟩
  have HT7a := Lib.hid (HT6.out.prog hd hc hF (HT6.out.ok1.ended Rb.out 0 false).1)
  have Hx7 := Lib.hid (Hx6.out.keep (w' := u7) (fun q hq hlt => hc.block q hlt (Hxs6.out q hq).2.1))
  have Hxs7 := Lib.hid (Hxs6.out.prog hc hF)
  clear Hx6 Hxs6
  obtain ⟨Bd7, bd7, Bt7, bt7, Bo7, bo7, rfl⟩ := hrs.opened
  have Hr7 := Lib.hid hrs
  clear hrs hd hc hF hS hSF HT6
  obtain ⟨x2, hx2⟩ : ∃ x, x1.1.ended b 0 false = x := ⟨_, rfl⟩
  rw [hx2] at HT7a Hr7 ⊢
  go_wp2_with fail
  have hT := HT7a.out.alloc u7.heap.size #[.bool x2.2.req.write, .int .i64 x2.2.req.lo, .int .i64 x2.2.req.many, .slice Bd7 x2.2.req.data.length bd7, .slice Bt7 x2.2.req.tags.length bt7, .int .i64 x2.2.req.born, .slice Bo7 x2.2.data.length bo7, .int .i64 (x2.2.err : Int)] 49 rfl
  generalize hW : World.alloc _ _ = W7 at hT
  have hbW : Below u7.heap.size u7 W7 := hW ▸ (Below.refl _ _).alloc (Nat.le_refl _) _
  have HT7 := Lib.hid hT
  have Hx7' := Lib.hid (Hx7.out.below hbW)
  have Hxs7' := Lib.hid (Hxs7.out.step hbW.size)
  clear hT hW hbW HT7a Hx7 Hxs7 Hr7
  go_wp2_with fail
  refine (devend_some _ _ _ bm d2 1 b false HT7.out.r (by rw [← hD2]; rfl) Rb.out HT7.out.ok2.two (by have := hw0; omega) HT7.out.ok2.nowM HT7.out.glt HT7.out.sg HT7.out.slt).mono ?_
  rintro e u8 ⟨v8, F8, S8, rfl, hrs, hd, hc, _, hF, _, hS, hSF⟩
  have HT8a := Lib.hid (HT7.out.ref hd hc hF (HT7.out.ok2.ended Rb.out 1 false).1)
  have Hx8 := Lib.hid (Hx7'.out.keep (w' := u8) (fun q hq hlt => hc.block q hlt (Hxs7'.out q hq).2.2))
  have Hxs8 := Lib.hid (Hxs7'.out.ref hc hF)
  clear Hx7' Hxs7'
  obtain ⟨Bd8, bd8, Bt8, bt8, Bo8, bo8, rfl⟩ := hrs.opened
  have Hr8 := Lib.hid hrs
  clear hrs hd hc hF hS hSF HT7
  rw [hx3] at HT8a Hr8 ⊢
  go_wp2_with fail
  have hT := HT8a.out.alloc u8.heap.size #[.bool x3.2.req.write, .int .i64 x3.2.req.lo, .int .i64 x3.2.req.many, .slice Bd8 x3.2.req.data.length bd8, .slice Bt8 x3.2.req.tags.length bt8, .int .i64 x3.2.req.born, .slice Bo8 x3.2.data.length bo8, .int .i64 (x3.2.err : Int)] 49 rfl
  generalize hW : World.alloc _ _ = W8 at hT
  have hbW : Below u8.heap.size u8 W8 := hW ▸ (Below.refl _ _).alloc (Nat.le_refl _) _
  have HT8 := Lib.hid hT
  have Hx8' := Lib.hid (Hx8.out.below hbW)
  have Hxs8' := Lib.hid (Hxs8.out.step hbW.size)
  clear hT hW hbW HT8a Hx8 Hxs8 Hr8
  go_wp2_with fail
  refine (devend_some _ _ _ bm x3.1 0 a false HT8.out.r (by rw [hl3.out]; rfl) Ra.out HT8.out.ok2.two (by have := hwb.out; omega) HT8.out.ok2.nowM HT8.out.glt HT8.out.sg HT8.out.slt).mono ?_
  rintro e u9 ⟨v9, F9, S9, rfl, hrs, hd, hc, _, hF, _, hS, hSF⟩
  have HT9a := Lib.hid (HT8.out.ref hd hc hF (HT8.out.ok2.ended Ra.out 0 false).1)
  have Hx9 := Lib.hid (Hx8'.out.keep (w' := u9) (fun q hq hlt => hc.block q hlt (Hxs8'.out q hq).2.2))
  have Hxs9 := Lib.hid (Hxs8'.out.ref hc hF)
  clear Hx8' Hxs8'
  obtain ⟨Bd9, bd9, Bt9, bt9, Bo9, bo9, rfl⟩ := hrs.opened
  have Hr9 := Lib.hid hrs
  clear hrs hd hc hF hS hSF HT8
  obtain ⟨x4, hx4⟩ : ∃ x, x3.1.ended a 0 false = x := ⟨_, rfl⟩
  have he : Hid (x4.2 = x1.2) := by show _ = _; rw [← hx4, ← hx3, ← hx1]; exact (ended_apart Ra.out Rb.out Hap.out 0 1 0 0).symm
  have hsw : Hid (∀ q, x2.1.now[q]? = x4.1.now[q]?) := fun q => by rw [← hx2, ← hx4, ← hx3, ← hx1]; exact ended_swap Ra.out Rb.out Hap.out 0 0 1 0 q
  rw [hx4] at HT9a Hr9 ⊢
  go_wp2_with fail
  have hT := HT9a.out.alloc u9.heap.size #[.bool x4.2.req.write, .int .i64 x4.2.req.lo, .int .i64 x4.2.req.many, .slice Bd9 x4.2.req.data.length bd9, .slice Bt9 x4.2.req.tags.length bt9, .int .i64 x4.2.req.born, .slice Bo9 x4.2.data.length bo9, .int .i64 (x4.2.err : Int)] 49 rfl
  generalize hW : World.alloc _ _ = W9 at hT
  have hbW : Below u9.heap.size u9 W9 := hW ▸ (Below.refl _ _).alloc (Nat.le_refl _) _
  have HT9 := Lib.hid hT
  have Hx9' := Lib.hid ((Hx9.out.below hbW).more (S' := fun _ => True) (fun _ _ => trivial))
  have Hy9 := Lib.hid ((Hr9.out.below hbW).more (S' := fun _ => True) (fun _ _ => trivial))
  clear hT hW hbW HT9a Hx9 Hxs9 Hr9 hw0 hwa hwb hl1 hl3 hx1 hx2 hx3 hx4 hD2
  go_loop [15] (fun j => ∃ q : Nat, q ≤ 32 ∧ j = .int .i64 q) (fun j => 32 - (intOf j).toNat)
  case atStart => exact ⟨0, by omega, rfl⟩
  case round =>
    obtain ⟨q, hq, rfl⟩ := hrel
    by_cases hq2 : q < 32
    · have hpe : x4.1.peek q = x2.1.peek q := by unfold Dv.peek; rw [List.getD_eq_getElem?_getD, List.getD_eq_getElem?_getD, hsw.out q]
      have Hpe := Lib.hid hpe
      have hq3 : (q : Int) < 32 := by omega
      clear hpe
      go_wp2_with fail
      refine (devpeek_any _ _ _ bd _ q hq2 HT9.out.p).mono ?_
      rintro e u1 ⟨rfl, rfl⟩
      go_wp2_with fail
      refine (devpeek_any _ _ _ bm _ q hq2 HT9.out.r).mono ?_
      rintro e u1 ⟨rfl, rfl⟩
      rw [Hpe.out]
      go_wp2_with fail
      go_roundw
      case rel => exact ⟨q + 1, by omega, by go_num⟩
      case measure => simp [intOf]; omega
    · obtain rfl : q = 32 := by omega
      obtain ⟨y0, y1, y2, y3, y4, y5, y6, y7⟩ := HT9.out.lay.c8 3 rfl
      obtain ⟨z0, z1, z2, z3, z4, z5, z6, z7⟩ := HT9.out.lay.c8 0 rfl
      have hbl := Lib.hid HT9.out.lay.below
      rw [he.out] at Hy9 z0 z1 z2 z3 z4 z5 z6 z7
      go_wp2_with (go_at_call 22; refine (sameresult_any _ x1.2 _ _ _ Hx9'.out Hy9.out).mono ?_; rintro e uz ⟨rfl, hbz⟩)
      go_ret
      exact ⟨rfl, hbl.out.trans (hbz.mono hbl.out.size)⟩
end Go.Proofs.Ytdhiepcglnbkbaa
