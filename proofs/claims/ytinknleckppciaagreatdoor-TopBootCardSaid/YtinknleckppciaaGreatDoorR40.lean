/- End: a request that the disk ends, or has a fault in; the cases in which nothing comes back. End: a request that writes is done. -/
import Derived.Test.YtinknleckppciaaGreatDoorR39
import Derived.Test.YtinknleckppciaaGreatDoorR36
import Derived.Test.YtinknleckppciaaGreatDoorR29
namespace Go.Proofs.YtinknleckppciaaGreatDoor
set_option linter.unusedSimpArgs false
set_option linter.unusedVariables false
open Go.RowKit Go.Sort

/-- The driver's End, called with the stack around it. -/
def RetSe (T : Tys) (col : Nat → Nat) (w : World) (b bd N : Nat) (x : Sv) (s : St) (v' : Drv) (rs : Rs) (done : Bool) (ev : Value) : Ending → World → Prop :=
  fun e w' => ∃ (col' : Nat → Nat) (c : Rc) (ov : Value), e = .returned (.tuple #[.agg (rsCells c ov rs.err), .bool done, ev]) ∧ c.r = rs.req ∧ RcOk (Im w' col') w' c ∧ StrsAt (Im w' col') w' ov rs.data ∧
    StAt T col' w' b bd (N + 1) { x with n := x.n + 1 } { s with v := v' } ∧ Chg (Fl col) w w' ∧ Rec col col' w w'
theorem stend_any (col : Nat → Nat) (w : World) (b bd N : Nat) (x : Sv) (s : St) (i : Int) (f : Bool) (h : StAt Ts col w b bd N x s) (hI : Inv s) (hw : s.v.d.waits.length ≤ 900000000) (hN : N ≤ 900000000) :
    Calls Tryz.prog 49 #[.pointer (some ⟨x.bv, 0, none⟩), .int .i64 i, .bool f] w (RetSe Ts col w b bd N x s (s.v.endAt i f).1 (s.v.endAt i f).2.1 (s.v.endAt i f).2.2.1 (errV (s.v.endAt i f).2.2.2)) := by
  have hn := h.n
  refine (drvend_any (Im w col) (Fd col) w x.bv bd x.bt x.n s.v i f h.drv hI.dv hw (by omega) (fun j _ => hI.tries j) (fun k (hk : col k = 4) => h.lt k (by omega)) StAt.imfd (fun k hk => hk.1)).mono ?_
  rintro e w' ⟨v, F', S', rfl, ⟨c, ov, rfl, hc, hok, hov⟩, hp, hch, hF, hSS, hS, hSF⟩
  obtain ⟨col', hst, hrec, him⟩ := h.drvd hp hch hF hS hSF (show x.n + 1 ≤ N + 1 by omega)
  exact ⟨col', c, ov, rfl, hc, hok.more him, hov.more him, hst, hch.mono (fun k hk => hk.elim (Fl.of_d k) (fun e => by subst e; show col x.bt ≠ 0 ∧ col x.bt ≠ 9; rw [h.ct]; decide)), hrec⟩
theorem Ret4.five {T : Tys} {col col' : Nat → Nat} {w w1 w' : World} {b bd N : Nat} {y : Sv} {t : St} {v : Value} {e : Ending} (hr : Ret4 T col' w1 b bd N y t v e w') (hc : Chg (Fl col) w w1) (hrec : Rec col col' w w1) : Ret5 T col w b bd N t v e w' := by
  obtain ⟨z, h1, h2, h3, _⟩ := hr
  exact ⟨col', z, h1, h2, hc.recol h3 hrec.grow, hrec.old, hrec.grow⟩
set_option maxRecDepth 100000 in
set_option maxHeartbeats 2000000 in
theorem end_none (col : Nat → Nat) (w : World) (b bd N : Nat) (x : Sv) (s : St) (i : Int) (f : Bool) (h : StAt Ts col w b bd N x s) (hI : Inv s) (hw : s.v.d.waits.length ≤ 900000000) (hN : N ≤ 900000000) (hi : i < 0 ∨ (s.v.d.l.length : Int) ≤ i) :
    Calls Tryz.prog 26 #[.pointer (some ⟨b, 0, none⟩), .int .i64 i, .bool f] w (Ret5 Ts col w b bd (N + 1) (s.end_ i f).1 (errV (s.end_ i f).2)) := by
  have hcall := stend_any col w b bd N x s i f h hI hw hN
  rw [drvEndAt_none _ _ _ hi] at hcall
  have He : Hid (s.end_ i f = (s, 5)) := St.end_none s f hi
  have Hcall := Lib.hid hcall
  have H := Lib.hid h
  have c1 : w.cell? ⟨b, 1, none⟩ = some (.pointer (some ⟨x.bv, 0, none⟩)) := h.cell 1
  clear h hI hw hN hi hcall
  go_enter Tryz.func26, Tryz.ntmps26
  go_wp2_with fail
  refine Hcall.out.mono ?_
  rintro e w1 ⟨col', c, ov, rfl, hc, hok, hov, hst, hch, hrec⟩
  obtain ⟨Ad, cd, e1, _, _⟩ := hok.data.form
  obtain ⟨At, ct, e2, _, _⟩ := hok.tags.form
  obtain ⟨Ao, co, e3, _, _⟩ := hov.form
  obtain ⟨rr, rdv, rtv⟩ := c
  simp only at e1 e2 hc
  subst e1 e2 e3
  have Hst := Lib.hid hst
  have Hch := Lib.hid hch
  have Hrec := Lib.hid hrec
  clear hc hok hov hst hch hrec c1
  unfold rsCells
  go_wp2_with fail
  go_ret
  rw [He.out]
  have hb1 := fun o => (Below.refl w1.heap.size w1).alloc (Nat.le_refl _) o
  exact ⟨col', _, rfl, Hst.out.below (hb1 _), Hch.out.two (Chg.of_below (hb1 _)), Hrec.out.old, Hrec.out.grow⟩
set_option maxRecDepth 100000 in
set_option maxHeartbeats 2000000 in
theorem end_again (col : Nat → Nat) (w : World) (b bd N : Nat) (x : Sv) (s : St) (k : Nat) (r : Rq) (h : StAt Ts col w b bd N x s) (hI : Inv s) (hw : s.v.d.waits.length ≤ 900000000) (hN : N ≤ 900000000) (hk : s.v.d.l[k]? = some r) (h3 : s.v.tries (tagOf r) + 1 < 3) :
    Calls Tryz.prog 26 #[.pointer (some ⟨b, 0, none⟩), .int .i64 (k : Int), .bool true] w (Ret5 Ts col w b bd (N + 1) (s.end_ k true).1 (errV (s.end_ k true).2)) := by
  have hcall := stend_any col w b bd N x s k true h hI hw hN
  rw [drvEndAt_again _ _ _ hk hI.dv.two h3, St.start_again hk hI.dv.two] at hcall
  have He : Hid (s.end_ k true = (s.again k r, 0)) := St.end_again hk hI.dv.two h3
  have Hcall := Lib.hid hcall
  have H := Lib.hid h
  have c1 : w.cell? ⟨b, 1, none⟩ = some (.pointer (some ⟨x.bv, 0, none⟩)) := h.cell 1
  clear h hI hw hN hk h3 hcall
  go_enter Tryz.func26, Tryz.ntmps26
  go_wp2_with fail
  refine Hcall.out.mono ?_
  rintro e w1 ⟨col', c, ov, rfl, hc, hok, hov, hst, hch, hrec⟩
  obtain ⟨Ad, cd, e1, _, _⟩ := hok.data.form
  obtain ⟨At, ct, e2, _, _⟩ := hok.tags.form
  obtain ⟨Ao, co, e3, _, _⟩ := hov.form
  obtain ⟨rr, rdv, rtv⟩ := c
  simp only at e1 e2 hc
  subst e1 e2 e3
  have Hst := Lib.hid hst
  have Hch := Lib.hid hch
  have Hrec := Lib.hid hrec
  clear hc hok hov hst hch hrec c1
  unfold rsCells
  go_wp2_with fail
  go_ret
  rw [He.out]
  have hb1 := fun o => (Below.refl w1.heap.size w1).alloc (Nat.le_refl _) o
  exact ⟨col', _, rfl, Hst.out.below (hb1 _), Hch.out.two (Chg.of_below (hb1 _)), Hrec.out.old, Hrec.out.grow⟩
set_option maxRecDepth 100000 in
set_option maxHeartbeats 2000000 in
theorem end_gone (col : Nat → Nat) (w : World) (b bd N : Nat) (x : Sv) (s : St) (k : Nat) (r : Rq) (K : Int) (h : StAt Ts col w b bd N x s) (hI : Inv s) (hB : Bd K s) (h0 : 0 ≤ K) (hK : K ≤ 800000000) (hN : N ≤ 900000000) (hk : s.v.d.l[k]? = some r) (h3 : ¬ s.v.tries (tagOf r) + 1 < 3) :
    Calls Tryz.prog 26 #[.pointer (some ⟨b, 0, none⟩), .int .i64 (k : Int), .bool true] w (Ret5 Ts col w b bd (N + 1) (s.end_ k true).1 (errV (s.end_ k true).2)) := by
  have hcall := stend_any col w b bd N x s k true h hI (by have := hB.waits; omega) hN
  rw [drvEndAt_gone _ _ _ hk h3] at hcall
  have He : Hid (s.end_ k true = (((s.gone k r).wrong r).serve, 0)) := St.end_gone hk h3
  have HIg : Hid (Inv (s.gone k r)) := hI.gone hk
  have HBg : Hid (Bd K (s.gone k r)) := show Bd _ _ from ⟨hB.use, hB.tag, hB.waits⟩
  have Hrok : Hid (ReqOk r) := reqF_zero (hI.dv.l r (List.mem_of_getElem? hk))
  have Hcall := Lib.hid hcall
  have H := Lib.hid h
  have c1 : w.cell? ⟨b, 1, none⟩ = some (.pointer (some ⟨x.bv, 0, none⟩)) := h.cell 1
  clear h hI hB hN hk h3 hcall
  go_enter Tryz.func26, Tryz.ntmps26
  go_wp2_with fail
  refine Hcall.out.mono ?_
  rintro e w1 ⟨col', c, ov, rfl, hc, hok, hov, hst, hch, hrec⟩
  obtain ⟨Ad, cd, e1, _, _⟩ := hok.data.form
  obtain ⟨At, ct, e2, _, _⟩ := hok.tags.form
  obtain ⟨Ao, co, e3, _, _⟩ := hov.form
  obtain ⟨rr, rdv, rtv⟩ := c
  simp only at e1 e2 hc
  subst e1 e2 e3
  subst hc
  have Hst := Lib.hid hst
  have Hch := Lib.hid hch
  have Hrec := Lib.hid hrec
  have Hok := Lib.hid hok
  have hb1 := fun o => (Below.refl w1.heap.size w1).alloc (Nat.le_refl _) o
  have HB1 := Lib.hid hb1
  clear hok hov hst hch hrec c1 hb1
  unfold rsCells
  go_wp2_with fail
  have HB2 := Lib.hid (HB1.out (.cells #[.bool rr.write, .int .i64 rr.lo, .int .i64 rr.many, .slice Ad rr.data.length cd, .slice At rr.tags.length ct, .int .i64 rr.born, .slice Ao (0 : Nat) co, .int .i64 8] 102))
  clear HB1
  refine (wrong_any col' _ b bd (N + 1) _ (s.gone k rr) (Im w1 col') _ rr (Hst.out.below HB2.out) HIg.out (Hok.out.below HB2.out).req Hrok.out).mono ?_
  rintro e w3 ⟨y3, rfl, hst3, hc3, _⟩
  have Hst3 := Lib.hid hst3
  have HC3 : Hid (Chg (Fl col) w w3) := show Chg _ _ _ from (Hch.out.two (Chg.of_below HB2.out)).recol (hst3.chg1 hc3) Hrec.out.grow
  have HIw := Lib.hid (HIg.out.wrong rr)
  have HBw := Lib.hid (HBg.out.wrong rr)
  clear hst3 hc3
  go_wp2_with fail
  refine (serve_any col' w3 b bd (N + 1) _ _ K Hst3.out HIw.out HBw.out h0 hK).mono ?_
  rintro e w4 ⟨y4, rfl, hst4, hc4, _⟩
  have Hst4 := Lib.hid hst4
  have HC4 := Lib.hid (HC3.out.recol hc4 Hrec.out.grow)
  clear hst4 hc4
  go_wp2_with fail
  go_ret
  rw [He.out]
  exact ⟨col', _, rfl, Hst4.out, HC4.out, Hrec.out.old, Hrec.out.grow⟩
end Go.Proofs.YtinknleckppciaaGreatDoor
namespace Go.Proofs.YtinknleckppciaaGreatDoor
set_option linter.unusedSimpArgs false
set_option linter.unusedVariables false
open Go.RowKit Go.Sort

theorem strs_cell {S : Nat → Prop} {w : World} {A : Option Addr} {n cap k : Nat} {l : List ByteArray} (h : StrsAt S w (.slice A n cap) l) (hk : k < l.length) : ∃ g off, A = some ⟨g, off, none⟩ ∧ S g ∧ g < w.heap.size ∧ w.cell? ⟨g, off + k, none⟩ = some (.string (l.getD k noB)) := by
  obtain ⟨g, off, e, hS, hlt, hc⟩ := h.at_ (by omega)
  refine ⟨g, off, e, hS, hlt, ?_⟩
  have hx : l[k]? = some (l.getD k noB) := by rw [List.getD_eq_getElem?_getD, List.getElem?_eq_getElem hk]; rfl
  exact (hc k _ hx).1
theorem im_chg {col : Nat → Nat} {w w' : World} (h : Chg (Fl col) w w') {k : Nat} (hk : Im w col k) : w'.heap[k]? = w.heap[k]? := h.block k hk.1 (fun hf => hf.1 hk.2)
set_option maxRecDepth 100000 in
set_option maxHeartbeats 4000000 in
theorem end_ok_w (col : Nat → Nat) (w : World) (b bd N : Nat) (x : Sv) (s : St) (k : Nat) (r : Rq) (K : Int) (h : StAt Ts col w b bd N x s) (hI : Inv s) (hB : Bd K s) (h0 : 0 ≤ K) (hK : K ≤ 700000000) (hN : N ≤ 900000000) (hk : s.v.d.l[k]? = some r) (hwr : r.write = true) :
    Calls Tryz.prog 26 #[.pointer (some ⟨b, 0, none⟩), .int .i64 (k : Int), .bool false] w (Ret5 Ts col w b bd (N + 1) (s.end_ k false).1 (errV (s.end_ k false).2)) := by
  have hcall := stend_any col w b bd N x s k false h hI (by have := hB.waits; omega) hN
  rw [drvEndAt_ok _ _ _ hk, St.ended_res] at hcall
  have He : Hid (s.end_ k false = (((s.did k r).endedN r.write r.lo (s.outs r) r.many.toNat).serve, 0)) := St.end_ok hk
  have Hrok : Hid (ReqOk r) := reqF_zero (hI.dv.l r (List.mem_of_getElem? hk))
  have Hdb : Hid (Bd (K + 4) (s.did k r)) := show Bd _ _ from by
    have h1 := (hI.dv.ended Hrok.out k false).2
    exact ⟨by have := hB.use; show s.use ≤ _; omega, by have := hB.tag; show s.tag ≤ _; omega, by have := hB.waits; show ((s.v.d.ended r k false).1.waits.length : Int) ≤ _; omega⟩
  have HIn : Hid (∀ n, n ≤ r.many.toNat → Inv ((s.did k r).endedN r.write r.lo (s.outs r) n)) := fun n hn => hI.endedN hk n hn
  have Hout : Hid (s.outs r = r.data) := show _ = _ by unfold St.outs; rw [if_pos hwr]
  have Hcall := Lib.hid hcall
  have H := Lib.hid h
  have c1 : w.cell? ⟨b, 1, none⟩ = some (.pointer (some ⟨x.bv, 0, none⟩)) := h.cell 1
  clear h hI hB hN hk hcall
  go_enter Tryz.func26, Tryz.ntmps26
  go_wp2_with fail
  refine Hcall.out.mono ?_
  rintro e w1 ⟨col', c, ov, rfl, hc, hok, hov, hst, hch, hrec⟩
  obtain ⟨Ad, cd, e1, _, _⟩ := hok.data.form
  obtain ⟨At, ct, e2, _, _⟩ := hok.tags.form
  obtain ⟨Ao, co, e3, _, _⟩ := hov.form
  obtain ⟨rr, rdv, rtv⟩ := c
  simp only at e1 e2 hc
  subst e1 e2 e3
  subst hc
  have Hwr := Lib.hid hwr
  have Hst := Lib.hid hst
  have Hch := Lib.hid hch
  have Hrec := Lib.hid hrec
  have Hok := Lib.hid hok
  have hb1 := fun o => (Below.refl w1.heap.size w1).alloc (Nat.le_refl _) o
  have HB1 := Lib.hid hb1
  clear hok hov hst hch hrec c1 hb1 hwr
  unfold rsCells
  simp only [Hwr.out]
  go_wp2_with fail
  obtain ⟨B, hBz⟩ : ∃ B, w1.heap.size = B := ⟨_, rfl⟩
  have HB2 := Lib.hid (HB1.out (.cells #[.bool true, .int .i64 rr.lo, .int .i64 rr.many, .slice Ad rr.data.length cd, .slice At rr.tags.length ct, .int .i64 rr.born, .slice Ao (0 : Nat) co, .int .i64 0] 102))
  have HX : Hid ((w1.alloc (.cells #[.bool true, .int .i64 rr.lo, .int .i64 rr.many, .slice Ad rr.data.length cd, .slice At rr.tags.length ct, .int .i64 rr.born, .slice Ao (0 : Nat) co, .int .i64 0] 102)).heap[B]? = some (.cells #[.bool true, .int .i64 rr.lo, .int .i64 rr.many, .slice Ad rr.data.length cd, .slice At rr.tags.length ct, .int .i64 rr.born, .slice Ao (0 : Nat) co, .int .i64 0] 102 (0, 0))) := show _ = _ from hBz ▸ heap_alloc_new w1 _
  have HcB : Hid (col' B = 0) := show _ = _ by
    rcases Nat.eq_zero_or_pos (col' B) with h1 | h1
    · exact h1
    · have := Hst.out.lt B (by omega); omega
  rw [hBz]
  have Hst2 := Lib.hid (Hst.out.below HB2.out)
  have Hch2 := Lib.hid (Hch.out.two (Chg.of_below HB2.out))
  have Hok2 := Lib.hid ((Hok.out.below HB2.out).data)
  clear HB1 HB2 hBz
  generalize World.alloc _ _ = w2 at HX Hst2 Hch2 Hok2 ⊢
  obtain ⟨n, hn⟩ : ∃ n : Nat, rr.many.toNat = n := ⟨_, rfl⟩
  obtain ⟨a1, a2, a3, a4, a5⟩ := Hrok.out.span
  have hmn : rr.many = (n : Int) := by omega
  have Hmn := Lib.hid hmn
  have Hn := Lib.hid hn
  have Hlen : Hid (rr.data.length = n) := show _ = _ by have := Hrok.out.len Hwr.out; omega
  have hn4 : n ≤ 4 := by omega
  clear hmn hn
  go_loopw [47] (fun i wr => ∃ (m : Nat) (y : Sv), m ≤ n ∧ i = .int .i64 m ∧ Hid (StAt Ts col' wr b bd (N + 1) y ((s.did k rr).endedN rr.write rr.lo (s.outs rr) m)) ∧ Hid (Chg (Fl col') w2 wr)) (fun i _ => n - (intOf i).toNat)
  case atStart => exact ⟨0, _, by omega, rfl, Hst2.out, Chg.refl⟩
  case round =>
    obtain ⟨m, y, hm, rfl, HS, HC⟩ := hrel
    have HXr : Hid (wr.heap[B]? = _) := show _ = _ from (HC.out.block B (Array.getElem?_eq_some_iff.1 HX.out).1 (fun hf => hf.1 HcB.out)).trans HX.out
    have d0 : wr.cell? ⟨B, 0, none⟩ = some (.bool true) := cell_of_row _ _ 0 _ _ _ HXr.out
    have d1 : wr.cell? ⟨B, 1, none⟩ = some (.int .i64 rr.lo) := cell_of_row _ _ 1 _ _ _ HXr.out
    have d3 : wr.cell? ⟨B, 3, none⟩ = some (.slice Ad rr.data.length cd) := cell_of_row _ _ 3 _ _ _ HXr.out
    by_cases hlt : m < n
    · have hlt2 : (m : Int) < rr.many := by rw [Hmn.out]; omega
      obtain ⟨g, off, eA, hSg, hgl, hgc⟩ := strs_cell (k := m) Hok2.out (by rw [Hlen.out]; exact hlt)
      subst eA
      have hmd : m < rr.data.length := by rw [Hlen.out]; exact hlt
      have dg : wr.cell? ⟨g, off + m, none⟩ = some (.string (rr.data.getD m noB)) := by
        rw [← hgc]
        exact World.cell?_of_block (HC.out.block g hgl (fun hf => by have h1 := hSg.2; exact hf.1 h1))
      obtain ⟨sd, hsd⟩ : ∃ z, rr.data.getD m noB = z := ⟨_, rfl⟩
      rw [hsd] at dg
      have Hsd := Lib.hid hsd
      clear hsd
      have HE : Hid ((s.did k rr).endedN rr.write rr.lo (s.outs rr) (m + 1) = { (s.did k rr).endedN rr.write rr.lo (s.outs rr) m with bufs := cleanB ((s.did k rr).endedN rr.write rr.lo (s.outs rr) m).bufs (rr.lo + (m : Int)) sd }) := show _ = _ by
        rw [St.endedN, Hout.out, Hsd.out]
        unfold St.ended1
        rw [if_pos Hwr.out]
      have hwrap : IntKind.i64.wrap (rr.lo + (m : Int)) = rr.lo + (m : Int) := IntWalk.i64_in _ (by omega)
      have c2 : wr.cell? ⟨b, 2, none⟩ = some y.bufs := HS.out.cell 2
      have f2 := HS.out.frozen 2
      have HIm := Lib.hid (HIn.out m (by rw [Hn.out]; omega))
      have HIm1 := Lib.hid (HIn.out (m + 1) (by rw [Hn.out]; omega))
      have HSd := Lib.hid (HS.out.below (Below.refl _ _).drew)
      have Hln : Hid (((s.did k rr).endedN rr.write rr.lo (s.outs rr) m).bufs.length ≤ 65536) := show _ ≤ _ by have := HIm.out.len8; omega
      clear hgc hgl hSg
      go_wp2_with fail
      go_region_law
        (first
          | (go_simp
             go_at_call 51
             (with_reducible refine (clean_any (Im wr.drew col') _ y.bufs (rr.lo + (m : Int)) sd wr.drew HSd.out.bufs HIm.out.rises Hln.out).mono ?_)
             rintro e u2 ⟨v2, rfl, ho2, hb2⟩
             obtain ⟨A2, n2, m2, e2, en⟩ := own_slice' ho2
             subst e2
             subst en
             have Ho2 := Lib.hid ho2
             have HB2 := Lib.hid hb2
             have Hst3 := Lib.hid (HSd.out.below hb2)
             have f3 := Hst3.out.frozen 2
             have q3 : u2.cell? ⟨b, 2, none⟩ = some y.bufs := cell_b hb2 c2
             clear ho2 hb2)
          | fail)
      all_goals
        have hS3 := (Same1.refl (b := b) (w := u2)).setCell 2 (.slice A2 (cleanB ((s.did k rr).endedN rr.write rr.lo (s.outs rr) m).bufs (rr.lo + (m : Int)) sd).length m2)
        have hI3 := HIm1.out
        rw [HE.out] at hI3
        have hv3 : BufsAt (S0 col') u2 (.slice A2 (cleanB ((s.did k rr).endedN rr.write rr.lo (s.outs rr) m).bufs (rr.lo + (m : Int)) sd).length m2) (cleanB ((s.did k rr).endedN rr.write rr.lo (s.outs rr) m).bufs (rr.lo + (m : Int)) sd) := bufs_of_own (fun k hk => HSd.out.s0 k hk) Ho2.out (hI3.bok (by have := (Hdb.out.endedN rr.write rr.lo (s.outs rr) m).use; show ((s.did k rr).endedN rr.write rr.lo (s.outs rr) m).use ≤ _; omega))
        have Hst4 := Lib.hid (Hst3.out.bufd hS3 hv3 (heap_setCell_same _ _ 2 _ _ _ Hst3.out.row))
        have HC4 : Hid (Chg (Fl col') w2 (u2.setCell ⟨b, 2, none⟩ (.slice A2 (cleanB ((s.did k rr).endedN rr.write rr.lo (s.outs rr) m).bufs (rr.lo + (m : Int)) sd).length m2))) := show Chg _ _ _ from (HC.out.drew.two (Chg.of_below HB2.out)).two (HSd.out.chg1 (hS3.chg (F := fun k => k = b) rfl))
        clear hS3 hI3 hv3 f3 q3 c2 f2 dg d0 d1 d3 hwrap
        generalize World.setCell _ _ _ = u3 at Hst4 HC4 ⊢
        go_wp2_with fail
        go_roundw
        case rel => exact ⟨m + 1, _, by omega, by go_num, HE.out ▸ Hst4.out, HC4.out⟩
        case measure => simp [intOf]; omega
    · obtain rfl : m = n := by omega
      have hlt2 : ¬ (m : Int) < rr.many := by rw [Hmn.out]; omega
      have HIm := Lib.hid (HIn.out m (by rw [Hn.out]; omega))
      have HBm : Hid (Bd (K + 10) ((s.did k rr).endedN rr.write rr.lo (s.outs rr) m)) := show Bd _ _ from (Hdb.out.endedN rr.write rr.lo (s.outs rr) m).mono (by omega)
      clear d0 d1 d3
      go_wp2_with fail
      refine (serve_any col' wr b bd (N + 1) y _ (K + 10) HS.out HIm.out HBm.out (by omega) (by omega)).mono ?_
      rintro e w4 ⟨y4, rfl, hst4, hc4, _⟩
      have Hst4 := Lib.hid hst4
      have HC4 := Lib.hid ((Hch2.out.recol HC.out Hrec.out.grow).recol hc4 Hrec.out.grow)
      clear hst4 hc4
      go_wp2_with fail
      go_ret
      rw [He.out, Hn.out]
      exact ⟨col', _, rfl, Hst4.out, HC4.out, Hrec.out.old, Hrec.out.grow⟩
end Go.Proofs.YtinknleckppciaaGreatDoor
