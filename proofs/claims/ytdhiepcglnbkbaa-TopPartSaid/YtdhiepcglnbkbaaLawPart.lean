
/- The law TopPart: its walk. -/
import Derived.Test.YtdhiepcglnbkbaaOne
import Derived.Test.YtdhiepcglnbkbaaPart0
namespace Go.Proofs.Ytdhiepcglnbkbaa
set_option linter.unusedSimpArgs false
set_option linter.unusedVariables false
open Go.RowKit

def litP : Rq := ⟨false, 3, 1, [], [], 0⟩
theorem part_lit : partM 3 1 [sX] 3 = (sX, true) := by decide
theorem strs_sX {S : Nat → Prop} {w : World} {b : Nat} {T : TypeId} (h : w.heap[b]? = some (.cells #[.string sX] T (0, 0))) (hS : S b) : StrsAt S w (.slice (some ⟨b, 0, none⟩) 1 1) [sX] :=
  ⟨⟨_, 1, rfl, Nat.le_refl _, by simp [maxLen], rfl, fun _ => ⟨b, 0, rfl, hS, fun j u hu => by rw [cell_of_row _ _ _ _ _ _ h]; simpa using hu⟩⟩, by simp [maxLen]; decide⟩
theorem reads_get {d : Dv} {p n j : Nat} : (d.reads p n)[j]? = if j < n then d.now[p + j]? else none := by
  unfold Dv.reads
  rw [List.getElem?_take]
  split
  · rw [List.getElem?_drop]
  · rfl
/-- Of what was read each sector has its own. -/
theorem part_tells {d : Dv} {r : Rq} (hr : ReqOk r) (hn : d.now.length = 32) (at_ : Int) : (partM r.lo r.many (d.reads r.lo.toNat r.many.toNat) at_).2 = hasB r.lo r.many at_ ∧ (hasB r.lo r.many at_ = true → ∃ q : Nat, at_ = (q : Int) ∧ q < 32 ∧ (partM r.lo r.many (d.reads r.lo.toNat r.many.toNat) at_).1 = d.peek q) := by
  have hs := hr.span
  unfold SpanOk at hs
  unfold partM
  cases hh : hasB r.lo r.many at_ with
  | false => simp
  | true =>
    have h1 := hasB_iff0.1 hh
    rw [if_pos rfl, reads_get, if_pos (by omega)]
    have e : r.lo.toNat + (at_ - r.lo).toNat = at_.toNat := by omega
    rw [e, List.getElem?_eq_getElem (by omega)]
    refine ⟨rfl, fun _ => ⟨at_.toNat, by omega, by omega, ?_⟩⟩
    unfold Dv.peek
    rw [List.getD_eq_getElem?_getD, List.getElem?_eq_getElem (by omega)]
    rfl

set_option maxRecDepth 100000 in
set_option maxHeartbeats 4000000 in
theorem part_walk (l : List Ac) (r : Rq) (v rv : Value) (w : World) (h : ActsAt (fun _ => True) w v l) (hr : ReqAt (fun _ => True) w rv r) : Calls Try.prog 7 #[v, rv] w (Ret (.bool true) w) := by
  obtain ⟨A, cap, rfl, hc1, hc2⟩ := h.1.form
  unfold maxLen at hc2
  obtain ⟨Ad, cd, At, ct, rfl, _, _, _, _, _, _, _⟩ := hr.opened
  have H := Lib.hid (h.lt.more (S' := fun k => k < w.heap.size) (fun b hb => hb.2))
  have Hr := Lib.hid (hr.lt.more (S' := fun k => k < w.heap.size) (fun b hb => hb.2))
  clear h hr
  go_enter Try.func7, Try.ntmps7
  go_wp2_with fail
  have L := ((Lay.refl w).alloc' w.heap.size #[Value.bool r.write, Value.int IntKind.i64 r.lo, Value.int IntKind.i64 r.many, Value.slice Ad r.data.length cd, Value.slice At r.tags.length ct, Value.int IntKind.i64 r.born] 38 rfl).alloc' (w.heap.size + 1) #[Value.string sX] 9 (by simp)
  unfold sX at L
  generalize World.alloc _ _ = W at L ⊢
  have hst : StrsAt (fun _ => True) W (.slice (some ⟨w.heap.size + 1, 0, none⟩) 1 1) [sX] := strs_sX (L.at_ 0 rfl) trivial
  refine (part_any (fun _ => True) litP none none 0 0 0 0 _ [sX] 3 W hst (by simp [litP]) (by simp [litP]) (by unfold i64; omega) (by simp [litP])).mono ?_
  rintro e w1 ⟨rfl, hb1⟩
  rw [show partM litP.lo litP.many [sX] 3 = (sX, true) from part_lit]
  have L1 := L.step hb1
  clear L hb1 hst
  unfold sX
  go_wp2_with fail
  refine (devnew_any _).mono ?_
  rintro e w2 ⟨rfl, hd2, hb2, hs2⟩
  obtain ⟨bd, hbd⟩ : ∃ x, w1.heap.size = x := ⟨_, rfl⟩
  have hO := One.begin L1 (hd2 _) hb2 hs2
  rw [hbd] at hO
  have HO2 := Lib.hid hO
  clear hO L1 hd2 hb2 hs2
  go_wp2_with fail
  refine (lightacts_any _ l 30 _ _ (H.out.below HO2.out.lay.below) (by omega)).mono ?_
  rintro e w3 ⟨rfl, hb3⟩
  have HO3 := Lib.hid (HO2.out.step hb3)
  clear HO2 hb3
  obtain ⟨c0, c1, c2, c3, c4, c5⟩ := HO3.out.lay.c6 1 rfl
  cases g1 : lightActs l 30 with
  | false =>
    have hb := Lib.hid HO3.out.lay.below
    go_wp2_with fail
    go_ret
    exact ⟨rfl, hb.out⟩
  | true =>
    have hlen : l.length ≤ 30 := by unfold lightActs at g1; simp at g1; exact g1.1
    clear g1
    go_wp2_with fail
    refine (lightreq_any _ r _ _ (Hr.out.below HO3.out.lay.below)).mono ?_
    rintro e w4 ⟨rfl, hb4⟩
    have HO4 := Lib.hid (HO3.out.step hb4)
    clear HO3 hb4 c0 c1 c2 c3 c4 c5
    obtain ⟨c0, c1, c2, c3, c4, c5⟩ := HO4.out.lay.c6 1 rfl
    rcases Bool.eq_false_or_eq_true (lightReq r) with g1 | g1
    rotate_left
    · have hb := Lib.hid HO4.out.lay.below
      go_wp2_with fail
      go_ret
      exact ⟨rfl, hb.out⟩
    go_wp2_with fail
    refine (reqcheck_any _ r _ _ (Hr.out.below HO4.out.lay.below)).mono ?_
    rintro e w5 ⟨rfl, hb5⟩
    have HO5 := Lib.hid (HO4.out.step hb5)
    clear HO4 hb5 c0 c1 c2 c3 c4 c5 g1
    obtain ⟨c0, c1, c2, c3, c4, c5⟩ := HO5.out.lay.c6 1 rfl
    by_cases hf : reqF r = 0
    rotate_left
    · have g1 : (reqF r == 0) = false := by simpa using hf
      have hb := Lib.hid HO5.out.lay.below
      go_wp2_with fail
      go_ret
      exact ⟨rfl, hb.out⟩
    rw [hf]
    have Hf := Lib.hid hf
    have HR := Lib.hid (reqF_zero hf)
    clear hf
    rcases Bool.eq_false_or_eq_true r.write with hwr | hwr
    · have hb := Lib.hid HO5.out.lay.below
      go_wp2_with fail
      go_ret
      exact ⟨rfl, hb.out⟩
    have Hwr := Lib.hid hwr
    go_wp2_with fail
    clear c0 c1 c2 c3 c4 c5
    go_loopw [8] (fun j wr => ∃ (i : Nat) (F : Nat → Prop) (d : Dv), i ≤ l.length ∧ j = .int .i64 i ∧ Hid (One w wr bd F d [(w.heap.size + 1, 9, #[Value.string ⟨#[120]⟩]), (w.heap.size, 38, #[Value.bool r.write, Value.int IntKind.i64 r.lo, Value.int IntKind.i64 r.many, Value.slice Ad r.data.length cd, Value.slice At r.tags.length ct, Value.int IntKind.i64 r.born])]) ∧ Hid (d.l = []) ∧ d.waits.length ≤ 4 * i) (fun j _ => l.length - (intOf j).toNat)
    case atStart => exact ⟨0, _, Dv.new, by omega, rfl, HO5.out, rfl, by simp [Dv.new]⟩
    case round =>
      obtain ⟨i, F, d, hi, rfl, hO, hl, hwl⟩ := hrel
      by_cases hlt : i < l.length
      · have hx : l[i]? = some l[i] := List.getElem?_eq_getElem hlt
        generalize l[i] = a at hx
        obtain ⟨b, off, rfl, _, _, k0, k1, k2, k3, k4, k5, k6, k7, k8⟩ := (H.out.below hO.out.lay.below).at_ hx
        have hok := H.out.2 a (List.mem_of_getElem? hx)
        obtain ⟨Bd, dd, e1, _, _⟩ := hok.rc.data.form
        obtain ⟨Bt, dt, e2, _, _⟩ := hok.rc.tags.form
        have hW := written_any _ F wr bd d a hO.out.p hO.out.ok hl.out (by omega) (hok.keep (fun k hk hlt => hO.out.lay.below.block k hlt)) hO.out.flt hO.out.sf hO.out.slt
        have ecells : a.cells.toArray = #[Value.string a.kind, Value.bool a.c.r.write, Value.int IntKind.i64 a.c.r.lo, Value.int IntKind.i64 a.c.r.many, Value.slice Bd a.c.r.data.length dd, Value.slice Bt a.c.r.tags.length dt, Value.int IntKind.i64 a.c.r.born, Value.int IntKind.i64 a.n, Value.int IntKind.u64 (a.k : Int)] := by
          simp [Ac.cells, Rc.cells, e1, e2]
        rw [ecells] at hW
        rw [e1] at k4
        rw [e2] at k5
        have HW := Lib.hid hW
        have hi1 : (i : Int) < (l.length : Int) := by omega
        clear hx hok e1 e2 ecells hW
        go_wp2_with fail
        refine HW.out.mono ?_
        rintro e w6 ⟨F6, rfl, hd6, hc6, hF6⟩
        have hwo := writtenM_ok hO.out.ok hl.out a.c.r
        have HO6 := Lib.hid (hO.out.prog hd6 hc6 hF6 hwo.1)
        have Hwo := Lib.hid hwo
        clear hd6 hc6 hF6 hwo HW k0 k1 k2 k3 k4 k5 k6 k7 k8
        go_wp2_with fail
        go_roundw
        case rel => exact ⟨i + 1, F6, _, by omega, by go_num, HO6.out, Hwo.out.2.1, by have := Hwo.out.2.2; omega⟩
        case measure => simp [intOf]; omega
      · obtain rfl : i = l.length := by omega
        obtain ⟨c0, c1, c2, c3, c4, c5⟩ := hO.out.lay.c6 1 rfl
        go_wp2_with fail
        rw [← hwr]
        refine (devstart_any _ _ wr bd d r _ hO.out.p (Hr.out.below hO.out.lay.below) hO.out.flt hO.out.sf hO.out.ok.two).mono ?_
        have hst : d.start r = ({ d with l := [r] }, 0) := by unfold Dv.start; rw [if_neg (by rw [hl.out]; simp), hl.out]; rfl
        have hok1 := hO.out.ok.start Hf.out
        rw [hst] at hok1 ⊢
        rintro e w6 ⟨rfl, hd6, hc6⟩
        simp only at hd6 ⊢
        have HO6 := Lib.hid (hO.out.prog hd6 hc6 (fun _ h => h) hok1)
        clear hd6 hc6 c0 c1 c2 c3 c4 c5 hst hok1 hO
        go_wp2_with fail
        refine (devend_some _ _ w6 bd _ 0 r false HO6.out.p rfl HR.out (by simp) (by simp only; omega) HO6.out.ok.nowM HO6.out.flt HO6.out.sf HO6.out.slt).mono ?_
        have hen : Dv.ended { d with l := [r] } r 0 false = (Dv.drop { d with l := [r] } 0, ⟨r, d.reads r.lo.toNat r.many.toNat, 0⟩) := by
          unfold Dv.ended
          rw [if_neg (by simp), if_neg (by rw [Hwr.out]; simp)]
          rfl
        have hok2 := (HO6.out.ok.ended HR.out 0 false).1
        rw [hen] at hok2 ⊢
        rintro e w7 ⟨v7, F7, S7, rfl, hrs, hd7, hc7, _, hF7, _, hS7, hSF7⟩
        have HO7 := Lib.hid (HO6.out.prog hd7 hc7 hF7 hok2)
        obtain ⟨rc, ov, ev, erc, hrc, hov⟩ := hrs
        obtain ⟨rr, rdv, rtv⟩ := rc
        simp only at erc ev hov
        subst erc
        obtain ⟨Bd, bd7, e1, _, _⟩ := hrc.data.form
        obtain ⟨Bt, bt7, e2, _, _⟩ := hrc.tags.form
        obtain ⟨Bo, bo7, e3, _, _⟩ := hov.form
        simp only at e1 e2
        subst e1 e2 e3 ev
        have Hov := Lib.hid hov
        clear hrc hov hd7 hc7 hF7 hS7 HO6 hok2 hen
        go_wp2_with fail
        obtain ⟨dl, hdl⟩ : ∃ x, d.reads rr.lo.toNat rr.many.toNat = x := ⟨_, rfl⟩
        have hO8 := HO7.out.alloc w7.heap.size #[.bool rr.write, .int .i64 rr.lo, .int .i64 rr.many, .slice Bd rr.data.length bd7, .slice Bt rr.tags.length bt7, .int .i64 rr.born, .slice Bo (d.reads rr.lo.toNat rr.many.toNat).length bo7, .int .i64 0] 49 rfl
        rw [hwr] at hO8
        generalize hW : World.alloc _ _ = W8
        have hb8 : Below w7.heap.size w7 W8 := hW ▸ (Below.refl _ _).alloc (Nat.le_refl _) _
        rw [hW] at hO8
        have HO8 := Lib.hid hO8
        have Hov8 := Lib.hid ((Hov.out.below hb8).more (S' := fun _ => True) (fun _ _ => trivial))
        clear hO8 hb8 hW Hov HO7 hdl
        go_loopw [11] (fun j wr => ∃ (q : Nat), q ≤ 34 ∧ j = .int .i64 ((q : Int) - 1) ∧ Hid (Below W8.heap.size W8 wr)) (fun j _ => (33 - intOf j).toNat)
        case atStart => exact ⟨0, by omega, rfl, Below.refl _ _⟩
        case round =>
          obtain ⟨q, hq, rfl, hB⟩ := hrel
          have HOq := Lib.hid (HO8.out.step hB.out)
          by_cases hq2 : q < 34
          · have hq3 : (q : Int) - 1 ≤ 32 := by omega
            have hqw : IntKind.i64.wrap ((q : Int) - 1 + 1) = (q : Int) := by rw [IntWalk.i64_in _ (by omega)]; omega
            have hs := HR.out.span
            unfold SpanOk at hs
            obtain ⟨y0, y1, y2, y3, y4, y5, y6, y7⟩ := HOq.out.lay.c8 0 rfl
            have hpt := part_tells (d := d) HR.out (HO8.out.p.now : (Dv.drop { d with l := [rr] } 0).now.length = 32) ((q : Int) - 1)
            have HP := Lib.hid (part_any (fun _ => True) rr Bd Bt rr.data.length bd7 rr.tags.length bt7 (.slice Bo (d.reads rr.lo.toNat rr.many.toNat).length bo7) (d.reads rr.lo.toNat rr.many.toNat) ((q : Int) - 1) _ (Hov8.out.below hB.out) (by omega) (by omega) (by unfold i64; omega) (by omega))
            have Hpt := Lib.hid hpt
            clear hpt
            simp only [resV, hwr] at HP
            go_wp2_with fail
            refine HP.out.mono ?_
            rintro e u1 ⟨rfl, hb1⟩
            have hB1 := Lib.hid (hB.out.trans (hb1.mono hB.out.size))
            have HOr := Lib.hid (HOq.out.step hb1)
            obtain ⟨pt, hpt⟩ : ∃ x, partM rr.lo rr.many (d.reads rr.lo.toNat rr.many.toNat) ((q : Int) - 1) = x := ⟨_, rfl⟩
            rw [hpt] at Hpt ⊢
            obtain ⟨ps, pb⟩ := pt
            simp only at Hpt ⊢
            clear HOq hb1 y0 y1 y2 y3 y4 y5 y6 y7 HP hB hpt
            obtain ⟨c0, c1, c2, c3, c4, c5⟩ := HOr.out.lay.c6 2 rfl
            go_wp2_with fail
            refine (has_any rr.lo rr.many ((q : Int) - 1) _ (by omega) (by omega) (by omega) (by omega)).mono ?_
            rintro e u2 ⟨rfl, hb2⟩
            have hB2 := Lib.hid (hB1.out.trans (hb2.mono hB1.out.size))
            have HOs := Lib.hid (HOr.out.step hb2)
            have hpb : pb = hasB rr.lo rr.many ((q : Int) - 1) := Hpt.out.1
            rw [← hpb]
            clear hB1 HOr hb2 c0 c1 c2 c3 c4 c5 hs
            cases pb with
            | false =>
              clear hpb
              go_wp2_with fail
              go_roundw
              case rel => exact ⟨q + 1, by omega, by go_num, hB2.out⟩
              case measure => simp [intOf]; omega
            | true =>
              obtain ⟨q', e1, hq', e2⟩ := Hpt.out.2 hpb.symm
              have He2 := Lib.hid e2
              clear hpb e2
              have hqw2 : IntKind.i64.wrap ((q' : Int) + 1) = (q : Int) := by rw [IntWalk.i64_in _ (by omega)]; omega
              rw [e1]
              go_wp2_with fail
              refine (devpeek_any _ _ _ bd _ q' hq' HOs.out.p).mono ?_
              rintro e u3 ⟨rfl, rfl⟩
              rw [show (Dv.drop { d with l := [rr] } 0).peek q' = ps from He2.out.symm]
              go_wp2_with fail
              go_roundw
              case rel => exact ⟨q + 1, by omega, by go_num, hB2.out⟩
              case measure => simp [intOf]; omega
          · obtain rfl : q = 34 := by omega
            have hb := Lib.hid HOq.out.lay.below
            go_wp2_with fail
            go_ret
            exact ⟨rfl, hb.out⟩
end Go.Proofs.Ytdhiepcglnbkbaa
