/- The driver ends a request by a fault. The driver ends a request that isn't there; what it does with any; it starts one; has it room; a new one. How lists of sectors lie in memory. How a stack lies in memory: its block, its driver, its disk, what the clients ask for; each block that it may write has a colour. find: where a sector is among those at hand (slices.BinarySearchFunc). Get, Dirty, GoodBufs, SameBufs, and the reference's. The reference's GetBuf; Dirty, DirtyBufs. The small methods of a stack: answer, used, Waits, Dead, Got. -/
import Derived.Test.YtojmnfelecnenaaQ5
import Derived.Test.YtojmnfelecnenaaQ1
import Derived.Deep.LoopGhost
import Derived.Test.YtojmnfelecnenaaQ3
import Derived.Deep.RegionLaw
import Derived.BigRegion
import Derived.Outline
namespace Go.Proofs.Ytojmnfelecnenaa
set_option linter.unusedSimpArgs false
set_option linter.unusedVariables false
open Go.RowKit

set_option maxRecDepth 100000 in
set_option maxHeartbeats 1000000 in
theorem drvend_again (S F : Nat → Prop) (w : World) (bv bd bt n k : Nat) (v : Drv) (r : Rq) (h : DrvAt TDp TPp TVp S F w bv bd bt n v) (hk : v.d.l[k]? = some r) (hok : DvOk v.d) (hwl : v.d.waits.length ≤ 900000000) (hn : n ≤ 900000000) (htr : ∀ j, i64 j → 0 ≤ v.tries j ∧ v.tries j ≤ 2)
    (h3 : v.tries (tagOf r) + 1 < 3)
    (hF : ∀ k, F k → k < w.heap.size) (hSF : ∀ k, S k → ¬ F k) (hSlt : ∀ k, S k → k < w.heap.size) :
    Calls Try.prog 57 #[.pointer (some ⟨bv, 0, none⟩), .int .i64 (k : Int), .bool true] w (RetDrv TDp TPp TVp S F w bv bd bt n ⟨((v.d.drop k).start r).1, upd v.tries (tagOf r) (v.tries (tagOf r) + 1)⟩ zeroRs false .nilIface) := by
  have hr := reqF_zero (hok.l r (List.mem_of_getElem? hk))
  have hbv := (Array.getElem?_eq_some_iff.1 h.row).1
  have c0 : ∀ o, (w.alloc o).cell? ⟨bv, 0, none⟩ = some (.pointer (some ⟨bd, 0, none⟩)) := fun o => by rw [World.cell?_alloc_lt _ _ _ hbv, cell_of_row _ _ _ _ _ _ h.row]; rfl
  have H := Lib.hid h
  have Hk := Lib.hid hk
  have Hok := Lib.hid hok
  have Hr := Lib.hid hr
  have HF := Lib.hid hF
  have HS := Lib.hid hSF
  have Hlt := Lib.hid hSlt
  have hq : v.d.ended r k true = (v.d.drop k, ⟨r, [], 8⟩) := if_pos rfl
  have Hq := Lib.hid hq
  obtain ⟨rr, hrr⟩ : ∃ x, r = x := ⟨_, rfl⟩
  subst hrr
  obtain ⟨d', hd'⟩ : ∃ x, v.d.drop k = x := ⟨_, rfl⟩
  rw [hd'] at Hq ⊢
  have Hd' := Lib.hid hd'
  clear hd'
  clear h hk hok hr hF hSF hSlt hq
  go_enter Try.func57, Try.ntmps57
  go_wp2_with fail
  have L := (LayF.refl (fun k => F k ∨ k = bt) w).alloc' w.heap.size zeroRsV 109 rfl
  have hb1 : Below w.heap.size w _ := (Below.refl w.heap.size w).alloc (Nat.le_refl _) (.cells zeroRsV 109)
  have hs1 : (w.alloc (.cells zeroRsV 109)).heap.size = w.heap.size + 1 := by simp
  generalize World.alloc _ _ = W1 at L hb1 hs1 ⊢
  have hd1 := H.out.below hb1
  refine (devend_some S F W1 bd v.d k r true hd1.dev Hk.out Hr.out Hok.out.two (by omega) Hok.out.nowM (fun k hk => by have := HF.out k hk; omega) HS.out (fun k hk => by have := Hlt.out k hk; omega)).mono ?_
  rw [Hq.out]
  rintro e w2 ⟨x2, F2, S2, rfl, hrs, hd2, hc2, _, hF2, hSS2, hS2, hSF2⟩
  simp only at hrs hd2 ⊢
  obtain ⟨rc, ov, ev, erc, hrc, hov⟩ := hrs
  obtain ⟨r3, rdv, rtv⟩ := rc
  simp only at erc ev hov
  obtain ⟨Bd, bd7, e1, _, _⟩ := hrc.data.form
  obtain ⟨Bt, bt7, e2, _, _⟩ := hrc.tags.form
  obtain ⟨Bo, bo7, e3, _, _⟩ := hov.form
  simp only at e1 e2
  subst e1 e2 e3 ev
  subst erc
  obtain ⟨tb, to, rfl, htc, hti, htl, hSt, htb⟩ := tag_cell hrc.tags Hr.out
  have hL2 := L.chg2 hc2 (fun k hk => .inl (.inl hk)) (fun x hx hf => by
    simp only [List.mem_cons, List.not_mem_nil, or_false] at hx
    subst hx
    have := HF.out _ hf
    simp only at this
    omega)
  obtain ⟨f, hmf, hfv⟩ := H.out.map
  have hbt := hmf.lt
  have HL2 := Lib.hid hL2
  have HT : Hid (w2.there w.heap.size 0 (#[Value.bool r3.write, .int .i64 r3.lo, .int .i64 r3.many, .slice Bd r3.data.length bd7, .slice (some ⟨tb, to, none⟩) r3.tags.length bt7, .int .i64 r3.born, .slice Bo 0 bo7, .int .i64 8] : Array Value).size) := hL2.there 0 rfl _ rfl
  have Hi : Hid ((Try.prog.info? 109).map (·.size) = some (#[Value.bool r3.write, .int .i64 r3.lo, .int .i64 r3.many, .slice Bd r3.data.length bd7, .slice (some ⟨tb, to, none⟩) r3.tags.length bt7, .int .i64 r3.born, .slice Bo 0 bo7, .int .i64 8] : Array Value).size) := resInfo
  have Hz : Hid ((#[Value.bool r3.write, .int .i64 r3.lo, .int .i64 r3.many, .slice Bd r3.data.length bd7, .slice (some ⟨tb, to, none⟩) r3.tags.length bt7, .int .i64 r3.born, .slice Bo 0 bo7, .int .i64 8] : Array Value).all (·.oneCell') = true) := one8 _ _ _ _ _ _ _ _ _ _ _ _ _ _
  have hb2 : ∀ q, q < w.heap.size → ¬ F q → w2.heap[q]? = w.heap[q]? := fun q hq hf => (hc2.block q (by omega) hf).trans (hb1.block q hq)
  have Hrow2 := Lib.hid ((hb2 bv hbv H.out.nv).trans H.out.row)
  have Hmap2 := Lib.hid (hmf.keep (hb2 bt hbt H.out.nt))
  have Hfv := Lib.hid hfv
  have htw : tb ≠ w.heap.size := fun e => by rcases hS2 tb hSt with h | h; have := Hlt.out _ h; omega; omega
  have htt : tb ≠ bt := fun e => by
    rcases hS2 tb hSt with h | h
    · exact (H.out.sv tb h).2 e
    · omega
  have Htc := Lib.hid htc
  have Hrc := Lib.hid hrc
  have Hov := Lib.hid hov
  have Hd2 := Lib.hid hd2
  have Hc2 := Lib.hid ((Chg.of_below (F := F) hb1).trans (hc2.mono (fun q h => .inl h)))
  have HF2 : Hid (∀ q, F2 q → Grow F w w2 q ∧ q ≠ bv ∧ q ≠ bt ∧ q ≠ w.heap.size) := fun q hq => by
    rcases hF2 q hq with h | h
    · exact ⟨.inl h, fun e => H.out.nv (e ▸ h), fun e => H.out.nt (e ▸ h), fun e => by have := HF.out q h; omega⟩
    · exact ⟨.inr ⟨by omega, h.2⟩, by omega, by omega, by omega⟩
  have HS2 : Hid (∀ q, S2 q → Grow S w w2 q ∧ q ≠ bv ∧ q ≠ bt ∧ q ≠ w.heap.size ∧ q < w2.heap.size) := fun q hq => by
    rcases hS2 q hq with h | h
    · exact ⟨.inl h, (H.out.sv q h).1, (H.out.sv q h).2, by have := Hlt.out q h; omega, by have := Hlt.out q h; have := hc2.size; omega⟩
    · exact ⟨.inr ⟨by omega, h.2⟩, by omega, by omega, by omega, h.2⟩
  have HSF2 := Lib.hid hSF2
  have HSS2 := Lib.hid hSS2
  have hz12 := hc2.size
  have hwt : w.heap.size ≠ bt := by omega
  clear hL2 L hb1 hrc hov hd2 hc2 hF2 hSS2 hS2 hSF2 hmf hfv hb2 htc c0 hd1 hSt
  have htb2 := htr _ hti
  have hadd : IntKind.i64.wrap (v.tries (tagOf r3) + 1) = v.tries (tagOf r3) + 1 := IntWalk.i64_in _ (by omega)
  have hvi : i64 (v.tries (tagOf r3) + 1) := by unfold i64; omega
  go_wp2_with (first
    | (refine wpList_store_mid rfl 109 (.tmp 6) (.tmp 18) rfl w.heap.size 0 #[Value.bool r3.write, .int .i64 r3.lo, .int .i64 r3.many, .slice Bd r3.data.length bd7, .slice (some ⟨tb, to, none⟩) r3.tags.length bt7, .int .i64 r3.born, .slice Bo (0 : Nat) bo7, .int .i64 8] rfl rfl HT.out Hi.out Hz.out ?_
       have L3 := Lib.hid (HL2.out.put 0 rfl #[Value.bool r3.write, .int .i64 r3.lo, .int .i64 r3.many, .slice Bd r3.data.length bd7, .slice (some ⟨tb, to, none⟩) r3.tags.length bt7, .int .i64 r3.born, .slice Bo 0 bo7, .int .i64 8] rfl)
       have hc3 : Hid (Chg (fun q => q = w.heap.size) w2 (w2.setCells w.heap.size 0 (#[Value.bool r3.write, .int .i64 r3.lo, .int .i64 r3.many, .slice Bd r3.data.length bd7, .slice (some ⟨tb, to, none⟩) r3.tags.length bt7, .int .i64 r3.born, .slice Bo 0 bo7, .int .i64 8] : Array Value).toList)) := Chg.setCells (F := fun q => q = w.heap.size) (w := w2) Chg.refl (.inl rfl) 0 (#[Value.bool r3.write, .int .i64 r3.lo, .int .i64 r3.many, .slice Bd r3.data.length bd7, .slice (some ⟨tb, to, none⟩) r3.tags.length bt7, .int .i64 r3.born, .slice Bo 0 bo7, .int .i64 8] : Array Value).toList
       generalize World.setCells _ _ _ _ = W3 at L3 hc3 ⊢
       obtain ⟨p0, p1, p2, p3, p4, p5, p6, p7⟩ := L3.out.c8 0 rfl
       have ht3 : W3.cell? ⟨tb, to, none⟩ = _ := (World.cell?_of_block (w := w2) (hc3.out.block tb htb htw)).trans Htc.out
       have hrow3 := (hc3.out.block bv (by omega) (by omega)).trans Hrow2.out
       have cbt : W3.cell? ⟨bv, 1, none⟩ = some (.map (some bt)) := by rw [cell_of_row _ _ _ _ _ _ hrow3]; rfl
       have Hrow3 := Lib.hid hrow3
       have Hmap3 := Lib.hid (Hmap2.out.keep (hc3.out.block bt (by omega) (by omega)))
       have hlk := Hmap3.out.lookup hti
       rw [Hfv.out _ hti] at hlk
       clear hrow3)
    | (at_mapUpdate; refine wpList_upd _ rfl (.tmp 41) (.tmp 42) (.tmp 44) rfl bt n f (tagOf r3) (v.tries (tagOf r3) + 1) rfl rfl rfl Hmap3.out hti hvi (by omega) ?_
       intro w4 hm4 hg4
       have L4 := Lib.hid (L3.out.grown hg4 (.inr rfl) (fun x hx => by simp at hx; subst hx; exact hwt))
       obtain ⟨y0, y1, y2, y3, y4, y5, y6, y7⟩ := L4.out.c8 0 rfl
       have hlk4 := hm4.lookup hti
       rw [show upd f (tagOf r3) (v.tries (tagOf r3) + 1) (tagOf r3) = v.tries (tagOf r3) + 1 from if_pos rfl] at hlk4
       have hrow4 := (hg4.block bv (by have := hc3.out.size; omega) (fun e => H.out.ne (by injection e))).trans Hrow3.out
       have cbt4 : w4.cell? ⟨bv, 1, none⟩ = some (.map (some bt)) := by rw [cell_of_row _ _ _ _ _ _ hrow4]; rfl
       have cbd4 : w4.cell? ⟨bv, 0, none⟩ = some (.pointer (some ⟨bd, 0, none⟩)) := by rw [cell_of_row _ _ _ _ _ _ hrow4]; rfl
       have HT4 : Hid (w4.there w.heap.size 0 (#[Value.bool r3.write, .int .i64 r3.lo, .int .i64 r3.many, .slice Bd r3.data.length bd7, .slice (some ⟨tb, to, none⟩) r3.tags.length bt7, .int .i64 r3.born, .slice Bo 0 bo7, .int .i64 8] : Array Value).size) := L4.out.there 0 rfl _ rfl
       have Hm4 := Lib.hid hm4
       have Hg4 := Lib.hid hg4
       clear hm4 hg4 p0 p1 p2 p3 p4 p5 p6 p7 hlk))
  have hgk : ∀ q, q < w2.heap.size → q ≠ w.heap.size → q ≠ bt → w4.heap[q]? = w2.heap[q]? := fun q hq h1 h2 =>
    (Hg4.out.block q (by have := hc3.out.size; omega) (fun e => h2 (by injection e))).trans (hc3.out.block q hq h1)
  have hs34 : w2.heap.size ≤ w4.heap.size := Nat.le_trans hc3.out.size Hg4.out.size
  have Hd4 := Lib.hid (((Hd2.out.more HSS2.out).keep (fun q hq hlt => hgk q hlt (HF2.out q hq).2.2.2 (HF2.out q hq).2.2.1) (fun q hq hlt => hgk q hlt (HS2.out q hq).2.2.2.1 (HS2.out q hq).2.2.1)).below (Below.refl _ _).drew)
  have Hrc4 := Lib.hid ((Hrc.out.keep (fun q hq hlt => hgk q hlt (HS2.out q hq).2.2.2.1 (HS2.out q hq).2.2.1)).below (Below.refl _ _).drew)
  have L4d := Lib.hid L4.out.drew
  have hl1 : d'.l.length ≤ 1 := by rw [← Hd'.out]; have := Hok.out.two; have := (List.getElem?_eq_some_iff.1 Hk.out).1; unfold Dv.drop; rw [List.length_eraseIdx]; split <;> omega
  obtain ⟨d2, hd2⟩ : ∃ x, (d'.start r3).1 = x := ⟨_, rfl⟩
  have hst : d'.start r3 = (d2, 0) := by rw [← hd2]; unfold Dv.start; rw [if_neg (by omega)]
  have Hst := Lib.hid hst
  have hbvw : bv ≠ w.heap.size := by omega
  obtain ⟨y0, y1, y2, y3, y4, y5, y6, y7⟩ := L4.out.c8 0 rfl
  clear hst hd2
  go_region_law
    (first
      | (go_simp
         go_at_call 79
         refine (devstart_any S2 F2 _ bd d' r3 _ Hd4.out Hrc4.out.req (fun q hq => by have := (HF2.out q hq).1; rcases this with h | h; have := HF.out q h; have := hs34; have := hc3.out.size; show q < w4.heap.size; omega; show q < w4.heap.size; omega) HSF2.out (by omega)).mono ?_
         rw [Hst.out]
         rintro e w5 ⟨rfl, hd5, hc5⟩
         have L5 := Lib.hid (L4d.out.chg2 hc5 (fun q hq => (HF2.out q hq).1.elim (fun h => .inl (.inl h)) (fun h => .inr h.1)) (fun x hx hf => by simp at hx; subst hx; exact (HF2.out _ hf).2.2.2 rfl))
         have Hd5 := Lib.hid hd5
         have Hc5 := Lib.hid hc5
         have Hrow5 := Lib.hid ((hc5.block bv (by show bv < w4.heap.size; omega) (fun hf => (HF2.out _ hf).2.1 rfl)).trans hrow4)
         obtain ⟨z0, z1, z2, z3, z4, z5, z6, z7⟩ := L5.out.c8 0 rfl
         have f0 := L5.out.frozen 0 rfl 0
         have f1 := L5.out.frozen 0 rfl 1
         have f2 := L5.out.frozen 0 rfl 2
         have f3 := L5.out.frozen 0 rfl 3
         have f4 := L5.out.frozen 0 rfl 4
         have f5 := L5.out.frozen 0 rfl 5
         have f6 := L5.out.frozen 0 rfl 6
         have f7 := L5.out.frozen 0 rfl 7
         clear hd5 hc5))
  all_goals
    have L6 := Lib.hid (L5.out.put 0 rfl zeroRsV rfl)
    have hc6 : Hid (Chg (fun q => q = w.heap.size) w5 (w5.setCells w.heap.size 0 zeroRsV.toList)) := Chg.setCells (F := fun q => q = w.heap.size) (w := w5) Chg.refl (.inl rfl) 0 zeroRsV.toList
    refine (fun X => ?_ : ∀ x, x = w5.setCells w.heap.size 0 zeroRsV.toList → Exit.then _ _ _ _ x) _ rfl
    intro hX
    rw [← hX] at L6 hc6
    clear hX z0 z1 z2 z3 z4 z5 z6 z7 f0 f1 f2 f3 f4 f5 f6 f7 y0 y1 y2 y3 y4 y5 y6 y7
    obtain ⟨z0, z1, z2, z3, z4, z5, z6, z7⟩ := L6.out.c8 0 rfl
    go_wp2_with fail
    refine bodyPost_ret (v := .tuple #[.agg zeroRsV, .bool false, .nilIface]) (by simp [results, Try.results57, go_sem, errV, z0, z1, z2, z3, z4, z5, z6, z7]) rfl ?_
    rw [congrArg Prod.fst Hst.out]
    have hc34 := Hc5.out.size
    have hsz45 : w4.heap.size ≤ w5.heap.size := Hc5.out.size
    have hsz56 : w5.heap.size ≤ X.heap.size := hc6.out.size
    have hg5 : ∀ q, q < w4.heap.size → ¬ F2 q → q ≠ w.heap.size → X.heap[q]? = w4.heap[q]? := fun q hq h1 h2 => (hc6.out.block q (by omega) h2).trans (Hc5.out.block q hq h1)
    have hF5 : ∀ q, Grow F2 w4.drew w5 q → Grow F w X q ∧ q ≠ bv ∧ q ≠ bt ∧ q ≠ w.heap.size := fun q hq => by
      have h2 := hz12
      rcases hq with hq | hq
      · have := HF2.out q hq
        exact ⟨this.1.elim .inl (fun h => .inr ⟨h.1, by omega⟩), this.2⟩
      · have h3 : w4.heap.size ≤ q := hq.1
        exact ⟨.inr ⟨by omega, by omega⟩, by omega, by omega, by omega⟩
    have hS5 : ∀ q, S2 q → q < w5.heap.size → X.heap[q]? = w5.heap[q]? := fun q hq hlt => hc6.out.block q hlt (HS2.out q hq).2.2.2.1
    refine ⟨_, Grow F2 w4.drew w5, S2, rfl, ⟨zeroRc, _, rfl, rfl, zeroRc_ok _ _, strs_nil _ _⟩, ⟨?_, ?_, (Hd5.out).keep (fun q hq hlt => hc6.out.block q hlt (hF5 q hq).2.2.2) hS5, fun hf => (hF5 _ hf).2.1 rfl, fun hf => (hF5 _ hf).2.2.1 rfl, fun q hq => ⟨(HS2.out q hq).2.1, (HS2.out q hq).2.2.1⟩⟩, L6.out.chg, fun q hq => (hF5 q hq).1, HSS2.out, fun q hq => (HS2.out q hq).1.elim .inl (fun h => .inr ⟨h.1, by omega⟩), fun q hq hf => hf.elim (HSF2.out q hq) (fun h => by have := (HS2.out q hq).2.2.2.2; have h3 : w4.heap.size ≤ q := h.1; omega)⟩
    · exact (hc6.out.block bv (by omega) (by omega)).trans Hrow5.out
    · refine ⟨_, Hm4.out.keep (hg5 bt (by omega) (fun hf => (HF2.out _ hf).2.2.1 rfl) (fun e => hwt e.symm)), fun j hj => ?_⟩
      show upd f (tagOf r3) _ j = upd v.tries (tagOf r3) _ j
      unfold upd
      split
      · rfl
      · exact Hfv.out j hj
end Go.Proofs.Ytojmnfelecnenaa
namespace Go.Proofs.Ytojmnfelecnenaa
set_option linter.unusedSimpArgs false
set_option linter.unusedVariables false
open Go.RowKit

set_option maxRecDepth 100000 in
set_option maxHeartbeats 4000000 in
theorem drvend_none (S F : Nat → Prop) (w : World) (bv bd bt n : Nat) (v : Drv) (i : Int) (ft : Bool) (h : DrvAt TDp TPp TVp S F w bv bd bt n v) (hi : i < 0 ∨ (v.d.l.length : Int) ≤ i)
    (hF : ∀ k, F k → k < w.heap.size) (hSF : ∀ k, S k → ¬ F k) (hSlt : ∀ k, S k → k < w.heap.size) :
    Calls Try.prog 57 #[.pointer (some ⟨bv, 0, none⟩), .int .i64 i, .bool ft] w (RetDrv TDp TPp TVp S F w bv bd bt n v zeroRs false (errV 5)) := by
  have hbv := (Array.getElem?_eq_some_iff.1 h.row).1
  have c0 : ∀ o, (w.alloc o).cell? ⟨bv, 0, none⟩ = some (.pointer (some ⟨bd, 0, none⟩)) := fun o => by rw [World.cell?_alloc_lt _ _ _ hbv, cell_of_row _ _ _ _ _ _ h.row]; rfl
  have H := Lib.hid h
  have HF := Lib.hid hF
  have HS := Lib.hid hSF
  have Hlt := Lib.hid hSlt
  have Hi' := Lib.hid hi
  have Hq := Lib.hid (endAt_none v.d i ft hi)
  clear h hF hSF hSlt hi
  go_enter Try.func57, Try.ntmps57
  go_wp2_with fail
  have L := (LayF.refl (fun k => F k ∨ k = bt) w).alloc' w.heap.size zeroRsV 109 rfl
  have hb1 : Below w.heap.size w _ := (Below.refl w.heap.size w).alloc (Nat.le_refl _) (.cells zeroRsV 109)
  have hs1 : (w.alloc (.cells zeroRsV 109)).heap.size = w.heap.size + 1 := by simp
  generalize World.alloc _ _ = W1 at L hb1 hs1 ⊢
  have hd1 := H.out.dev.below hb1
  refine (devend_none S F W1 bd v.d i ft hd1 Hi'.out HS.out (fun k hk => by have := Hlt.out k hk; omega)).mono ?_
  rw [Hq.out]
  rintro e w2 ⟨x2, F2, S2, rfl, hrs, hd2, hc2, _, hF2, hSS2, hS2, hSF2⟩
  simp only at hrs hd2 ⊢
  obtain ⟨zr, hzr⟩ : ∃ x, x = zeroRs := ⟨_, rfl⟩
  rw [← hzr] at hrs
  clear hzr
  obtain ⟨zq, zd, ze⟩ := zr
  obtain ⟨rc, ov, ev, erc, hrc, hov⟩ := hrs
  obtain ⟨r3, rdv, rtv⟩ := rc
  simp only at erc ev hov
  obtain ⟨Bd, bd7, e1, _, _⟩ := hrc.data.form
  obtain ⟨Bt, bt7, e2, _, _⟩ := hrc.tags.form
  obtain ⟨Bo, bo7, e3, _, _⟩ := hov.form
  simp only at e1 e2
  subst erc
  subst e1 e2 e3 ev
  have hL2 := L.chg2 hc2 (fun k hk => .inl (.inl hk)) (fun x hx hf => by
    simp only [List.mem_cons, List.not_mem_nil, or_false] at hx
    subst hx
    have := HF.out _ hf
    simp only at this
    omega)
  have HL2 := Lib.hid hL2
  have HT : Hid (w2.there w.heap.size 0 (#[Value.bool r3.write, .int .i64 r3.lo, .int .i64 r3.many, .slice Bd r3.data.length bd7, .slice Bt r3.tags.length bt7, .int .i64 r3.born, .slice Bo zd.length bo7, .int .i64 ze] : Array Value).size) := hL2.there 0 rfl _ rfl
  have Hi : Hid ((Try.prog.info? 109).map (·.size) = some (#[Value.bool r3.write, .int .i64 r3.lo, .int .i64 r3.many, .slice Bd r3.data.length bd7, .slice Bt r3.tags.length bt7, .int .i64 r3.born, .slice Bo zd.length bo7, .int .i64 ze] : Array Value).size) := resInfo
  have Hi0 : Hid ((Try.prog.info? 109).map (·.size) = some zeroRsV.size) := resInfo
  have Hz : Hid ((#[Value.bool r3.write, .int .i64 r3.lo, .int .i64 r3.many, .slice Bd r3.data.length bd7, .slice Bt r3.tags.length bt7, .int .i64 r3.born, .slice Bo zd.length bo7, .int .i64 ze] : Array Value).all (·.oneCell') = true) := one8 _ _ _ _ _ _ _ _ _ _ _ _ _ _
  have Hz0 : Hid (zeroRsV.all (·.oneCell') = true) := one8 _ _ _ _ _ _ _ _ _ _ _ _ _ _
  have hb2 : ∀ q, q < w.heap.size → ¬ F q → w2.heap[q]? = w.heap[q]? := fun q hq hf => (hc2.block q (by omega) hf).trans (hb1.block q hq)
  have Hrow2 := Lib.hid ((hb2 bv hbv H.out.nv).trans H.out.row)
  obtain ⟨f, hmf, hfv⟩ := H.out.map
  have hbt := hmf.lt
  have Hmap2 := Lib.hid (hmf.keep (hb2 bt hbt H.out.nt))
  have Hfv := Lib.hid hfv
  have Hd2 := Lib.hid hd2
  have HF2 : Hid (∀ q, F2 q → Grow F w w2 q ∧ q ≠ bv ∧ q ≠ bt ∧ q ≠ w.heap.size) := fun q hq => by
    rcases hF2 q hq with h | h
    · exact ⟨.inl h, fun e => H.out.nv (e ▸ h), fun e => H.out.nt (e ▸ h), fun e => by have := HF.out q h; omega⟩
    · exact ⟨.inr ⟨by omega, h.2⟩, by omega, by omega, by omega⟩
  have HS2 : Hid (∀ q, S2 q → Grow S w w2 q ∧ q ≠ bv ∧ q ≠ bt ∧ q ≠ w.heap.size ∧ q < w2.heap.size) := fun q hq => by
    rcases hS2 q hq with h | h
    · exact ⟨.inl h, (H.out.sv q h).1, (H.out.sv q h).2, by have := Hlt.out q h; omega, by have := Hlt.out q h; have := hc2.size; omega⟩
    · exact ⟨.inr ⟨by omega, h.2⟩, by omega, by omega, by omega, h.2⟩
  have HSF2 := Lib.hid hSF2
  have HSS2 := Lib.hid hSS2
  have hz12 := hc2.size
  have hwt : w.heap.size ≠ bt := by omega
  clear hL2 L hb1 hrc hov hd2 hc2 hF2 hSS2 hS2 hSF2 hmf hfv hb2 c0 hd1
  have hnn : errV 5 = .iface 78 (.int .i64 5) := rfl
  rw [hnn]
  go_wp2_with (first
    | (refine wpList_store_mid rfl 109 (.tmp 6) (.tmp 18) rfl w.heap.size 0 #[Value.bool r3.write, .int .i64 r3.lo, .int .i64 r3.many, .slice Bd r3.data.length bd7, .slice Bt r3.tags.length bt7, .int .i64 r3.born, .slice Bo zd.length bo7, .int .i64 ze] rfl rfl HT.out Hi.out Hz.out ?_
       have L3 := Lib.hid (HL2.out.put 0 rfl #[Value.bool r3.write, .int .i64 r3.lo, .int .i64 r3.many, .slice Bd r3.data.length bd7, .slice Bt r3.tags.length bt7, .int .i64 r3.born, .slice Bo zd.length bo7, .int .i64 ze] rfl)
       have hc3 : Hid (Chg (fun q => q = w.heap.size) w2 (w2.setCells w.heap.size 0 (#[Value.bool r3.write, .int .i64 r3.lo, .int .i64 r3.many, .slice Bd r3.data.length bd7, .slice Bt r3.tags.length bt7, .int .i64 r3.born, .slice Bo zd.length bo7, .int .i64 ze] : Array Value).toList)) := Chg.setCells (F := fun q => q = w.heap.size) (w := w2) Chg.refl (.inl rfl) 0 (#[Value.bool r3.write, .int .i64 r3.lo, .int .i64 r3.many, .slice Bd r3.data.length bd7, .slice Bt r3.tags.length bt7, .int .i64 r3.born, .slice Bo zd.length bo7, .int .i64 ze] : Array Value).toList
       generalize World.setCells _ _ _ _ = W3 at L3 hc3 ⊢
       have HT3 : Hid (W3.there w.heap.size 0 zeroRsV.size) := L3.out.there 0 rfl _ rfl)
    | (refine wpList_store_mid rfl 109 (.tmp 6) (.tmp 22) rfl w.heap.size 0 zeroRsV rfl rfl HT3.out Hi0.out Hz0.out ?_
       have L5 := Lib.hid (L3.out.put 0 rfl zeroRsV rfl)
       have hc5 : Hid (Chg (fun q => q = w.heap.size) W3 (W3.setCells w.heap.size 0 zeroRsV.toList)) := Chg.setCells (F := fun q => q = w.heap.size) (w := W3) Chg.refl (.inl rfl) 0 zeroRsV.toList
       generalize World.setCells _ _ _ _ = W5 at L5 hc5 ⊢
       obtain ⟨z0, z1, z2, z3, z4, z5, z6, z7⟩ := L5.out.c8 0 rfl))
  refine bodyPost_ret (v := .tuple #[.agg zeroRsV, .bool false, .iface 78 (.int .i64 5)]) (by simp [results, Try.results57, go_sem, errV, z0, z1, z2, z3, z4, z5, z6, z7]) rfl ?_
  have hsz3 : w2.heap.size ≤ W3.heap.size := hc3.out.size
  have hsz5 : W3.heap.size ≤ W5.heap.size := hc5.out.size
  have hkk : ∀ q, q < w2.heap.size → q ≠ w.heap.size → W5.heap[q]? = w2.heap[q]? := fun q hq h1 =>
    (hc5.out.block q (by omega) h1).trans (hc3.out.block q hq h1)
  have hkS : ∀ q, S2 q → q < w2.heap.size → W5.heap[q]? = w2.heap[q]? := fun q hq hlt => hkk q hlt (HS2.out q hq).2.2.2.1
  have hkF : ∀ q, F2 q → q < w2.heap.size → W5.heap[q]? = w2.heap[q]? := fun q hq hlt => hkk q hlt (HF2.out q hq).2.2.2
  refine ⟨_, F2, S2, rfl, ⟨zeroRc, _, rfl, rfl, zeroRc_ok _ _, strs_nil _ _⟩, ⟨?_, ?_, (Hd2.out.more HSS2.out).keep hkF hkS, fun hf => (HF2.out _ hf).2.1 rfl, fun hf => (HF2.out _ hf).2.2.1 rfl, fun q hq => ⟨(HS2.out q hq).2.1, (HS2.out q hq).2.2.1⟩⟩, L5.out.chg, fun q hq => (HF2.out q hq).1.elim .inl (fun h => .inr ⟨h.1, by omega⟩), HSS2.out, fun q hq => (HS2.out q hq).1.elim .inl (fun h => .inr ⟨h.1, by omega⟩), HSF2.out⟩
  · exact (hkk bv (by omega) (by omega)).trans Hrow2.out
  · exact ⟨_, (Hmap2.out.keep (hkk bt (by omega) (fun e => hwt e.symm))).mono (Nat.le_succ n), Hfv.out⟩

theorem drvEndAt_none (v : Drv) (i : Int) (f : Bool) (h : i < 0 ∨ (v.d.l.length : Int) ≤ i) : v.endAt i f = (v, zeroRs, false, 5) := by
  unfold Drv.endAt
  simp [endAt_none v.d i f h]
theorem ended_ok_err (d : Dv) (r : Rq) (k : Nat) : (d.ended r k false).2.err = 0 ∧ (d.ended r k false).2.req = r := by
  unfold Dv.ended
  rw [if_neg (by simp)]
  split <;> exact ⟨rfl, rfl⟩
theorem drvEndAt_ok (v : Drv) (k : Nat) (r : Rq) (h : v.d.l[k]? = some r) : v.endAt (k : Int) false = (⟨(v.d.ended r k false).1, upd v.tries (tagOf r) 0⟩, (v.d.ended r k false).2, true, 0) := by
  unfold Drv.endAt
  simp [endAt_some v.d k false r h, ended_ok_err]
theorem start_drop {d : Dv} {k : Nat} {r : Rq} (h : d.l[k]? = some r) (h2 : d.l.length ≤ 2) : ((d.drop k).start r).2 = 0 := by
  have hk := (List.getElem?_eq_some_iff.1 h).1
  have : (d.drop k).l.length ≤ 1 := by unfold Dv.drop; rw [List.length_eraseIdx]; split <;> omega
  unfold Dv.start
  rw [if_neg (by omega)]
theorem drvEndAt_again (v : Drv) (k : Nat) (r : Rq) (h : v.d.l[k]? = some r) (h2 : v.d.l.length ≤ 2) (h3 : v.tries (tagOf r) + 1 < 3) : v.endAt (k : Int) true = (⟨((v.d.drop k).start r).1, upd v.tries (tagOf r) (v.tries (tagOf r) + 1)⟩, zeroRs, false, 0) := by
  have := start_drop h h2
  unfold Drv.endAt
  simp [endAt_some v.d k true r h, Dv.ended, h3, this]
theorem drvEndAt_gone (v : Drv) (k : Nat) (r : Rq) (h : v.d.l[k]? = some r) (h3 : ¬ v.tries (tagOf r) + 1 < 3) : v.endAt (k : Int) true = (⟨v.d.drop k, upd v.tries (tagOf r) 0⟩, ⟨r, [], 8⟩, true, 0) := by
  unfold Drv.endAt
  simp [endAt_some v.d k true r h, Dv.ended, h3]
theorem drvend_any (S F : Nat → Prop) (w : World) (bv bd bt n : Nat) (v : Drv) (i : Int) (f : Bool) (h : DrvAt TDp TPp TVp S F w bv bd bt n v) (hok : DvOk v.d) (hwl : v.d.waits.length ≤ 900000000) (hn : n ≤ 900000000) (htr : ∀ j, i64 j → 0 ≤ v.tries j ∧ v.tries j ≤ 2)
    (hF : ∀ k, F k → k < w.heap.size) (hSF : ∀ k, S k → ¬ F k) (hSlt : ∀ k, S k → k < w.heap.size) :
    Calls Try.prog 57 #[.pointer (some ⟨bv, 0, none⟩), .int .i64 i, .bool f] w (RetDrv TDp TPp TVp S F w bv bd bt n (v.endAt i f).1 (v.endAt i f).2.1 (v.endAt i f).2.2.1 (errV (v.endAt i f).2.2.2)) := by
  rcases endAt_split v.d i with hi | ⟨k, r, rfl, hk⟩
  · rw [drvEndAt_none v i f hi]
    exact drvend_none S F w bv bd bt n v i f h hi hF hSF hSlt
  · cases f with
    | false =>
      rw [drvEndAt_ok v k r hk]
      exact drvend_ok S F w bv bd bt n k v r h hk hok hwl hn hF hSF hSlt
    | true =>
      by_cases h3 : v.tries (tagOf r) + 1 < 3
      · rw [drvEndAt_again v k r hk hok.two h3]
        exact drvend_again S F w bv bd bt n k v r h hk hok hwl hn htr h3 hF hSF hSlt
      · rw [drvEndAt_gone v k r hk h3]
        exact drvend_gone S F w bv bd bt n k v r h hk hok hwl hn htr h3 hF hSF hSlt

/-- It returns u; the driver has become v'. -/
def RetDrvS (TD TP TV : TypeId) (S F : Nat → Prop) (w : World) (bv bd bt n : Nat) (v' : Drv) (u : Value) : Ending → World → Prop :=
  fun e w' => e = .returned u ∧ DrvAt TD TP TV S (Grow F w w') w' bv bd bt n v' ∧ Chg F w w'
set_option maxRecDepth 100000 in
set_option maxHeartbeats 1000000 in
theorem drvstart_any (S F : Nat → Prop) (w : World) (bv bd bt n : Nat) (v : Drv) (r : Rq) (rv : Value) (h : DrvAt TDp TPp TVp S F w bv bd bt n v) (hr : ReqAt S w rv r) (hF : ∀ k, F k → k < w.heap.size) (hSF : ∀ k, S k → ¬ F k) (hSlt : ∀ k, S k → k < w.heap.size) (h2 : v.d.l.length ≤ 2) :
    Calls Try.prog 56 #[.pointer (some ⟨bv, 0, none⟩), rv] w (RetDrvS TDp TPp TVp S F w bv bd bt n { v with d := (v.d.start r).1 } (errV (v.d.start r).2)) := by
  obtain ⟨Ad, cd, At, ct, rfl, _, _, _, _, _, _, _⟩ := hr.opened
  have hbv := (Array.getElem?_eq_some_iff.1 h.row).1
  obtain ⟨f, hmf, hfv⟩ := h.map
  have hbt := hmf.lt
  have c0 : ∀ o, (w.alloc o).cell? ⟨bv, 0, none⟩ = some (.pointer (some ⟨bd, 0, none⟩)) := fun o => by rw [World.cell?_alloc_lt _ _ _ hbv, cell_of_row _ _ _ _ _ _ h.row]; rfl
  have H := Lib.hid h
  have Hr := Lib.hid hr
  have HF := Lib.hid hF
  have HS := Lib.hid hSF
  have Hlt := Lib.hid hSlt
  have Hm := Lib.hid hmf
  have Hfv := Lib.hid hfv
  obtain ⟨d2, hd2⟩ : ∃ x, v.d.start r = x := ⟨_, rfl⟩
  have Hq := Lib.hid hd2
  rw [hd2]
  clear h hr hF hSF hSlt hmf hfv hd2
  go_enter Try.func56, Try.ntmps56
  go_wp2_with fail
  have L := Lib.hid ((Lay.refl w).alloc' w.heap.size #[Value.bool r.write, Value.int IntKind.i64 r.lo, Value.int IntKind.i64 r.many, Value.slice Ad r.data.length cd, Value.slice At r.tags.length ct, Value.int IntKind.i64 r.born] 44 (by simp))
  have hc0 := c0 (.cells #[Value.bool r.write, Value.int IntKind.i64 r.lo, Value.int IntKind.i64 r.many, Value.slice Ad r.data.length cd, Value.slice At r.tags.length ct, Value.int IntKind.i64 r.born] 44)
  have hs1 : (w.alloc (.cells #[Value.bool r.write, Value.int IntKind.i64 r.lo, Value.int IntKind.i64 r.many, Value.slice Ad r.data.length cd, Value.slice At r.tags.length ct, Value.int IntKind.i64 r.born] 44)).heap.size = w.heap.size + 1 := by simp
  generalize World.alloc _ _ = W1 at L hc0 hs1 ⊢
  obtain ⟨y0, y1, y2, y3, y4, y5⟩ := L.out.c6 0 rfl
  have hbb : Below w.heap.size w W1.drew := L.out.below.drew
  have Hbb := Lib.hid hbb
  clear c0 hbb
  go_region_law
    (first
      | (go_simp
         go_at_call 79
         refine (devstart_any S F _ bd v.d r _ (H.out.dev.below Hbb.out) (Hr.out.below Hbb.out) (fun q hq => by have := HF.out q hq; show q < W1.heap.size; omega) HS.out h2).mono ?_
         rw [Hq.out]
         rintro e w5 ⟨rfl, hd5, hc5⟩
         have Hd5 := Lib.hid hd5
         have Hc5 := Lib.hid hc5
         clear hd5 hc5))
  all_goals
    go_wp2_with fail
    go_ret
    have hs5 : W1.heap.size ≤ w5.heap.size := Hc5.out.size
    have hk : ∀ q, q < w.heap.size → ¬ F q → w5.heap[q]? = w.heap[q]? := fun q hq hf => (Hc5.out.block q (by show q < W1.heap.size; omega) hf).trans (Hbb.out.block q hq)
    have hG : ∀ q, Grow F W1.drew w5 q → Grow F w w5 q := fun q hq => hq.elim .inl (fun h => by have h1 : W1.heap.size ≤ q := h.1; exact .inr ⟨by omega, h.2⟩)
    refine ⟨rfl, ⟨(hk bv hbv H.out.nv).trans H.out.row, ⟨_, Hm.out.keep (hk bt hbt H.out.nt), Hfv.out⟩, Hd5.out.mono hG, ?_, ?_, H.out.sv⟩, (Chg.of_below Hbb.out).trans (Hc5.out.mono (fun q h => .inl h))⟩
    · exact fun hf => hf.elim H.out.nv (fun h => by omega)
    · exact fun hf => hf.elim H.out.nt (fun h => by omega)
set_option maxRecDepth 100000 in
set_option maxHeartbeats 1000000 in
theorem drvroom_any (S F : Nat → Prop) (w : World) (bv bd bt n : Nat) (v : Drv) (h : DrvAt TDp TPp TVp S F w bv bd bt n v) (h2 : v.d.l.length ≤ 2) :
    Calls Try.prog 53 #[.pointer (some ⟨bv, 0, none⟩)] w (fun e w' => e = .returned (.bool (decide (v.d.l.length < 2))) ∧ Below w.heap.size w w') := by
  have c0 : w.cell? ⟨bv, 0, none⟩ = some (.pointer (some ⟨bd, 0, none⟩)) := by rw [cell_of_row _ _ _ _ _ _ h.row]; rfl
  have H := Lib.hid h
  clear h
  go_enter Try.func53, Try.ntmps53
  go_wp2_with fail
  refine (devbusy_any S F w bd v.d H.out.dev h2).mono ?_
  rintro e w1 ⟨u, rfl, hv, hb⟩
  obtain ⟨A, c, rfl, _, _⟩ := hv.form
  have Hb := Lib.hid hb
  clear hv hb
  go_wp2_with fail
  go_ret
  refine ⟨?_, Hb.out⟩
  simp
  omega
set_option maxRecDepth 100000 in
set_option maxHeartbeats 1000000 in
theorem drvnew_any (S F : Nat → Prop) (w : World) (bd : Nat) (d : Dv) (h : DevAt TDp TPp S F w bd d) (hF : ∀ k, F k → k < w.heap.size) (hSlt : ∀ k, S k → k < w.heap.size) :
    Calls Try.prog 40 #[.pointer (some ⟨bd, 0, none⟩)] w (fun e w' => e = .returned (.pointer (some ⟨w.heap.size + 1, 0, none⟩)) ∧ DrvAt TDp TPp TVp S F w' (w.heap.size + 1) bd w.heap.size 0 ⟨d, fun _ => 0⟩ ∧ Below w.heap.size w w' ∧ w'.heap.size = w.heap.size + 2) := by
  have H := Lib.hid h
  have HF := Lib.hid hF
  have Hlt := Lib.hid hSlt
  clear h hF hSlt
  have hmm := @run_makeMap Try.prog
  go_enter Try.func40, Try.ntmps40
  go_wp2_with fail
  go_ret
  have hb1 : Below w.heap.size w (w.alloc (.map #[] 0)) := (Below.refl _ _).alloc (Nat.le_refl _) _
  have hs1 : (w.alloc (.map #[] 0)).heap.size = w.heap.size + 1 := by simp
  have hm := MapAt.made w
  generalize w.alloc (.map #[] 0) = W1 at hb1 hs1 hm ⊢
  have hb2 : Below W1.heap.size W1 (W1.alloc (.cells #[.pointer (some ⟨bd, 0, none⟩), .map (some w.heap.size)] TVp)) := (Below.refl _ _).alloc (Nat.le_refl _) _
  have hs2 : (W1.alloc (.cells #[.pointer (some ⟨bd, 0, none⟩), .map (some w.heap.size)] TVp)).heap.size = W1.heap.size + 1 := by simp
  have hr2 : (W1.alloc (.cells #[.pointer (some ⟨bd, 0, none⟩), .map (some w.heap.size)] TVp)).heap[W1.heap.size]? = some (.cells #[.pointer (some ⟨bd, 0, none⟩), .map (some w.heap.size)] TVp (0, 0)) := heap_alloc_new _ _
  generalize hW : W1.alloc (.cells #[.pointer (some ⟨bd, 0, none⟩), .map (some w.heap.size)] TVp) = W2 at hb2 hs2 hr2 ⊢
  rw [hs1] at hr2
  have hbb := hb1.trans (hb2.mono (by omega))
  refine ⟨rfl, ⟨hr2, ⟨_, hm.keep (hb2.block _ (by omega)), fun k hk => rfl⟩, H.out.below hbb, fun hf => by have := HF.out _ hf; omega, fun hf => by have := HF.out _ hf; omega, fun k hk => by have := Hlt.out _ hk; constructor <;> omega⟩, hbb, by omega⟩
end Go.Proofs.Ytojmnfelecnenaa
namespace Go.Proofs.Ytojmnfelecnenaa
set_option linter.unusedSimpArgs false
set_option linter.unusedVariables false
open Go.RowKit

def Bf.cells (b : Bf) : List Value := [.int .i64 b.pos, .string b.data, .bool b.dirty, .int .i64 b.used]
abbrev bfV (b : Bf) : Value := .agg #[.int .i64 b.pos, .string b.data, .bool b.dirty, .int .i64 b.used]
structure BfOk (b : Bf) : Prop where
  pos : i64 b.pos
  used : i64 b.used
  data : b.data.size ≤ maxLen
def flatB (l : List Bf) : List Value := l.flatMap Bf.cells
/-- A list of sectors. -/
def BufsAt (S : Nat → Prop) (w : World) (v : Value) (l : List Bf) : Prop := Rd S w 4 v l.length (flatB l) ∧ ∀ b ∈ l, BfOk b

theorem flatB_len (l : List Bf) : (flatB l).length = l.length * 4 := by
  induction l with
  | nil => rfl
  | cons b l ih => rw [flatB, List.flatMap_cons, List.length_append]; rw [flatB] at ih; rw [ih]; simp [Bf.cells]; omega
theorem flatB_app (a b : List Bf) : flatB (a ++ b) = flatB a ++ flatB b := by simp [flatB]
theorem flatB_cons (b : Bf) (l : List Bf) : flatB (b :: l) = b.cells ++ flatB l := rfl
theorem flatB_get : ∀ (l : List Bf) (i j : Nat) (b : Bf), l[i]? = some b → j < 4 → (flatB l)[i * 4 + j]? = b.cells[j]? := by
  intro l
  induction l with
  | nil => intro i j c h _; simp at h
  | cons a cs ih =>
    intro i j c h hj
    rw [flatB_cons]
    cases i with
    | zero =>
      simp at h; subst h
      rw [List.getElem?_append_left (by simp [Bf.cells]; omega)]
      simp
    | succ i =>
      rw [List.getElem?_append_right (by simp [Bf.cells]; omega)]
      simp at h
      rw [← ih i j c h hj]
      congr 1
      simp [Bf.cells]; omega
theorem flatB_take : ∀ (l : List Bf) (i : Nat), (flatB l).take (i * 4) = flatB (l.take i) := by
  intro l
  induction l with
  | nil => intro i; simp [flatB]
  | cons a l ih =>
    intro i
    cases i with
    | zero => simp [flatB]
    | succ i =>
      rw [flatB_cons, List.take_succ_cons, flatB_cons, ← ih, List.take_append]
      have : (i + 1) * 4 - a.cells.length = i * 4 := by simp [Bf.cells]; omega
      rw [this, List.take_of_length_le (by simp [Bf.cells]; omega)]
theorem flatB_drop : ∀ (l : List Bf) (i : Nat), (flatB l).drop (i * 4) = flatB (l.drop i) := by
  intro l
  induction l with
  | nil => intro i; simp [flatB]
  | cons a l ih =>
    intro i
    cases i with
    | zero => simp [flatB]
    | succ i =>
      rw [flatB_cons, List.drop_succ_cons, ← ih, List.drop_append]
      have : (i + 1) * 4 - a.cells.length = i * 4 := by simp [Bf.cells]; omega
      rw [this, List.drop_eq_nil_of_le (by simp [Bf.cells]; omega)]; rfl
theorem flatB_one (l : List Bf) : ∀ u ∈ flatB l, u.oneCell' = true := by
  intro u hu
  obtain ⟨b, hb, hu⟩ := List.mem_flatMap.1 hu
  simp only [Bf.cells, List.mem_cons, List.not_mem_nil, or_false] at hu
  rcases hu with rfl | rfl | rfl | rfl <;> rfl
/-- One cell of one of them. -/
theorem flatB_set1 {l : List Bf} {i : Nat} {b c : Bf} (hb : l[i]? = some b) (k : Nat) (hk : k < 4) (v : Value) (hc : c.cells = b.cells.set k v) : (flatB l).set (i * 4 + k) v = flatB (l.set i c) := by
  have hlt := (List.getElem?_eq_some_iff.1 hb).1
  have e0 := List.set_eq_take_append_cons_drop (l := l) (i := i) (a := c)
  rw [if_pos hlt] at e0
  rw [e0, flatB_app, flatB_cons, ← flatB_take, ← flatB_drop, hc]
  apply List.ext_getElem?
  intro j
  have hl := flatB_len l
  rw [List.getElem?_set]
  have htl : ((flatB l).take (i * 4)).length = i * 4 := by rw [List.length_take, hl]; omega
  have hbl : (b.cells.set k v).length = 4 := by simp [Bf.cells]
  have hbl' : b.cells.length = 4 := by simp [Bf.cells]
  by_cases h1 : j < i * 4
  · rw [if_neg (by omega), List.getElem?_append_left (by rw [htl]; exact h1), List.getElem?_take, if_pos h1]
  · by_cases h2 : j < i * 4 + 4
    · have hj : (flatB l)[j]? = b.cells[j - i * 4]? := by
        have := flatB_get l i (j - i * 4) b hb (by omega)
        rw [show i * 4 + (j - i * 4) = j by omega] at this; exact this
      rw [List.getElem?_append_right (by omega), htl, List.getElem?_append_left (by omega), List.getElem?_set, hj, hl, hbl']
      by_cases e : i * 4 + k = j
      · rw [if_pos e, if_pos (by omega), if_pos (by omega), if_pos (by omega)]
      · rw [if_neg e, if_neg (by omega)]
    · rw [if_neg (by omega), List.getElem?_append_right (by omega), htl, List.getElem?_append_right (by omega), hbl, List.getElem?_drop]
      congr 1; omega
section
variable {S S' : Nat → Prop} {w w' : World} {v : Value} {l : List Bf}
theorem BufsAt.keep (h : BufsAt S w v l) (hk : ∀ b, S b → b < w.heap.size → w'.heap[b]? = w.heap[b]?) : BufsAt S w' v l := ⟨h.1.keep hk, h.2⟩
theorem BufsAt.below (h : BufsAt S w v l) (hb : Below w.heap.size w w') : BufsAt S w' v l := ⟨h.1.below hb, h.2⟩
theorem BufsAt.more (h : BufsAt S w v l) (hS : ∀ b, S b → S' b) : BufsAt S' w v l := ⟨h.1.more hS, h.2⟩
theorem BufsAt.lt (h : BufsAt S w v l) : BufsAt (fun b => S b ∧ b < w.heap.size) w v l := ⟨h.1.lt (by omega), h.2⟩
theorem BufsAt.form (h : BufsAt S w v l) : ∃ A cap, v = .slice A l.length cap ∧ l.length ≤ cap ∧ cap ≤ maxLen := h.1.form
theorem BufsAt.at_ {A : Option Addr} {n cap : Nat} (h : BufsAt S w (.slice A n cap) l) (hn : 0 < l.length) :
    ∃ b off, A = some ⟨b, off, none⟩ ∧ S b ∧ b < w.heap.size ∧ ∀ i x, l[i]? = some x → BfOk x ∧
      w.cell? ⟨b, off + i * 4, none⟩ = some (.int .i64 x.pos) ∧ w.cell? ⟨b, off + i * 4 + 1, none⟩ = some (.string x.data) ∧ w.cell? ⟨b, off + i * 4 + 2, none⟩ = some (.bool x.dirty) ∧
      w.cell? ⟨b, off + i * 4 + 3, none⟩ = some (.int .i64 x.used) := by
  have he : n = l.length := by obtain ⟨_, _, e, _⟩ := h.1.form; injection e
  subst he
  obtain ⟨b, off, e, hS, hlt, hc⟩ := h.1.at_ hn (by omega)
  refine ⟨b, off, e, hS, hlt, fun i x hi => ?_⟩
  have hg := fun j hj => flatB_get l i j x hi hj
  refine ⟨h.2 x (List.mem_of_getElem? hi), ?_, ?_, ?_, ?_⟩
  · exact hc (i * 4 + 0) _ ((hg 0 (by omega)).trans rfl)
  · have := hc (i * 4 + 1) _ ((hg 1 (by omega)).trans rfl); rwa [← Nat.add_assoc] at this
  · have := hc (i * 4 + 2) _ ((hg 2 (by omega)).trans rfl); rwa [← Nat.add_assoc] at this
  · have := hc (i * 4 + 3) _ ((hg 3 (by omega)).trans rfl); rwa [← Nat.add_assoc] at this
theorem BufsAt.nil : BufsAt S w (.slice none 0 0) [] := ⟨Rd.nil, by simp⟩
end
/-- A row of the call's own: a cell in it is written. -/
theorem ownB_setCell {w : World} {base g n cap size j : Nat} {e : TypeId} {xs : List Value} {v : Value} (h : w.ownsRow base e size (.slice (some ⟨g, 0, none⟩) n cap) n xs) (hj : j < n * size) :
    (w.setCell ⟨g, j, none⟩ v).ownsRow base e size (.slice (some ⟨g, 0, none⟩) n cap) n (xs.set j v) := by
  obtain ⟨h1, h2⟩ := h
  rcases h2 with ⟨h2, h3⟩ | ⟨g', cap', cur, hv, hb, hh, hnc, hcm, hcs, htake⟩
  · cases h2
  · cases hv
    refine ⟨by rw [List.length_set]; exact h1, .inr ⟨g, cap, cur.setIfInBounds j v, rfl, hb, ?_, hnc, hcm, by simpa using hcs, ?_⟩⟩
    · exact heap_setCell_same _ _ _ _ _ _ hh
    · rw [← htake, Array.toList_setIfInBounds, List.take_set]
theorem own_frozen {w : World} {base g n cap size : Nat} {e : TypeId} {xs : List Value} (h : w.ownsRow base e size (.slice (some ⟨g, 0, none⟩) n cap) n xs) (hn : 0 < n) (j : Nat) : w.frozen? ⟨g, j, none⟩ = false := by
  obtain ⟨h1, h2⟩ := h
  rcases h2 with ⟨h2, h3⟩ | ⟨g', cap', cur, hv, hb, hh, hnc, hcm, hcs, htake⟩
  · omega
  · cases hv; exact frozen_of_row _ _ _ _ _ hh
theorem ownB_row {w : World} {base g n cap size : Nat} {e : TypeId} {xs : List Value} (h : w.ownsRow base e size (.slice (some ⟨g, 0, none⟩) n cap) n xs) (hn : 0 < n) :
    ∃ cur, w.heap[g]? = some (.cells cur e (0, 0)) ∧ base ≤ g ∧ n ≤ cap ∧ cap ≤ maxLen ∧ cur.size = cap * size ∧ cur.toList.take (n * size) = xs := by
  obtain ⟨h1, h2⟩ := h
  rcases h2 with ⟨h2, h3⟩ | ⟨g', cap', cur, hv, hb, hh, hnc, hcm, hcs, htake⟩
  · omega
  · cases hv; exact ⟨cur, hh, hb, hnc, hcm, hcs, htake⟩
theorem own_pos {w : World} {base n size : Nat} {e : TypeId} {v : Value} {xs : List Value} (h : w.ownsRow base e size v n xs) (hn : 0 < n) :
    ∃ g cap, v = .slice (some ⟨g, 0, none⟩) n cap ∧ base ≤ g ∧ g < w.heap.size ∧ n ≤ cap ∧ cap ≤ 9223372036854775807 := by
  rcases h.2 with ⟨_, h0⟩ | ⟨g, cap, cur, hv, hb, hh, h3, h4, _⟩
  · omega
  · subst hv
    unfold maxLen at h4
    exact ⟨g, cap, rfl, hb, (h.lt g rfl).2, h3, by omega⟩
/-- The row lies in a block that kept what it held. -/
theorem own_stays {w w' : World} {base n size : Nat} {e : TypeId} {v : Value} {xs : List Value} (h : w.ownsRow base e size v n xs) (hk : ∀ g, v.ownBlock = some g → w'.heap[g]? = w.heap[g]?) : w'.ownsRow base e size v n xs := by
  refine ⟨h.1, ?_⟩
  rcases h.2 with h2 | ⟨g', cap', cur, hv, hb, hh, h3⟩
  · exact .inl h2
  · subst hv
    exact .inr ⟨g', cap', cur, rfl, hb, (hk g' rfl).trans hh, h3⟩
theorem own_below {w w' : World} {base n size : Nat} {e : TypeId} {v : Value} {xs : List Value} (h : w.ownsRow base e size v n xs) (hb : Below w.heap.size w w') : w'.ownsRow base e size v n xs :=
  own_stays h fun g hg => hb.block g (h.lt g hg).2
/-- The whole of one of them is written. -/
theorem flatB_set {l : List Bf} {i : Nat} (hi : i < l.length) (c : Bf) : ((((flatB l).set (i * 4) (.int .i64 c.pos)).set (i * 4 + 1) (.string c.data)).set (i * 4 + 2) (.bool c.dirty)).set (i * 4 + 3) (.int .i64 c.used) = flatB (l.set i c) := by
  have hx : l[i]? = some l[i] := List.getElem?_eq_getElem hi
  generalize l[i] = b at hx
  obtain ⟨p, d, y, u⟩ := b
  have s1 := flatB_set1 (c := ⟨c.pos, d, y, u⟩) hx 0 (by omega) (.int .i64 c.pos) rfl
  have e1 : (l.set i ⟨c.pos, d, y, u⟩)[i]? = some ⟨c.pos, d, y, u⟩ := by rw [List.getElem?_set, if_pos rfl, if_pos hi]
  have s2 := flatB_set1 (c := ⟨c.pos, c.data, y, u⟩) e1 1 (by omega) (.string c.data) rfl
  rw [List.set_set] at s2
  have e2 : (l.set i ⟨c.pos, c.data, y, u⟩)[i]? = some ⟨c.pos, c.data, y, u⟩ := by rw [List.getElem?_set, if_pos rfl, if_pos hi]
  have s3 := flatB_set1 (c := ⟨c.pos, c.data, c.dirty, u⟩) e2 2 (by omega) (.bool c.dirty) rfl
  rw [List.set_set] at s3
  have e3 : (l.set i ⟨c.pos, c.data, c.dirty, u⟩)[i]? = some ⟨c.pos, c.data, c.dirty, u⟩ := by rw [List.getElem?_set, if_pos rfl, if_pos hi]
  have s4 := flatB_set1 (c := c) e3 3 (by omega) (.int .i64 c.used) rfl
  rw [List.set_set] at s4
  rw [Nat.add_zero] at s1
  rw [s1, s2, s3, s4]
end Go.Proofs.Ytojmnfelecnenaa
namespace Go.Proofs.Ytojmnfelecnenaa
set_option linter.unusedSimpArgs false
set_option linter.unusedVariables false
open Go.RowKit

/-- The types of a stack's parts: the stack, what is asked, the disk, what is put, the driver. -/
structure Tys where
  S : TypeId
  A : TypeId
  D : TypeId
  P : TypeId
  V : TypeId
/-- What nobody writes. -/
def Im (w : World) (col : Nat → Nat) : Nat → Prop := fun k => k < w.heap.size ∧ col k = 0
def Fl (col : Nat → Nat) : Nat → Prop := fun k => col k ≠ 0 ∧ col k ≠ 9
def Fd (col : Nat → Nat) : Nat → Prop := fun k => col k = 4
def Fa (col : Nat → Nat) (c : Nat) : Nat → Prop := fun k => col k = 5 + c
/-- The values that stand in a stack's cells. -/
structure Sv where
  bv : Nat
  bt : Nat
  n : Nat
  bufs : Value
  wait : Value
  a0 : Value
  a1 : Value
  a2 : Value
  d0 : ByteArray
  d1 : ByteArray
  d2 : ByteArray
  e0 : Nat
  e1 : Nat
  e2 : Nat
def Sv.av (x : Sv) : Nat → Value
  | 0 => x.a0
  | 1 => x.a1
  | _ => x.a2
def Sv.row (x : Sv) (s : St) (bd : Nat) : Array Value :=
  #[.pointer (some ⟨bd, 0, none⟩), .pointer (some ⟨x.bv, 0, none⟩), x.bufs, x.wait, .bool s.turn.write, .int .i64 s.turn.gone, .int .i64 s.turn.starved, .int .i64 s.turn.wh, .int .i64 s.now, .int .i64 s.use, .int .i64 s.tag,
    x.a0, x.a1, x.a2, .string x.d0, .string x.d1, .string x.d2, .int .i64 (x.e0 : Int), .int .i64 (x.e1 : Int), .int .i64 (x.e2 : Int), .bool s.dead]
/-- What a client asks for. -/
def AskAt (TA : TypeId) (F : Nat → Prop) (w : World) (v : Value) : Option Ak → Prop
  | none => v = .pointer none
  | some a => ∃ (ba : Nat) (lv : Value), v = .pointer (some ⟨ba, 0, none⟩) ∧ F ba ∧ w.heap[ba]? = some (.cells #[.int .i64 a.kind, .int .i64 a.pos, .string a.data, lv] TA (0, 0)) ∧ Ow F w 3 1 lv a.left.length (a.left.map (.int .i64))
structure StAt (T : Tys) (col : Nat → Nat) (w : World) (b bd N : Nat) (x : Sv) (s : St) : Prop where
  row : w.heap[b]? = some (.cells (x.row s bd) T.S (0, 0))
  drv : DrvAt T.D T.P T.V (Im w col) (Fd col) w x.bv bd x.bt x.n s.v
  n : x.n ≤ N
  bufs : BufsAt (Im w col) w x.bufs s.bufs
  wait : ReqsAt (Im w col) w x.wait s.wait
  asks : s.asks.length = 3
  ask : ∀ c, c < 3 → AskAt T.A (Fa col c) w (x.av c) (s.askAt c)
  done : s.done = [x.d0, x.d1, x.d2]
  errs : s.errs = [x.e0, x.e1, x.e2]
  cb : col b = 1
  cv : col x.bv = 2
  ct : col x.bt = 3
  lt : ∀ k, col k ≠ 0 → k < w.heap.size
section
variable {T : Tys} {col col' : Nat → Nat} {w w' : World} {b bd N : Nat} {x : Sv} {s : St}
theorem DrvAt.more {TD TP TV : TypeId} {S S' F : Nat → Prop} {bv bt n : Nat} {v : Drv} (h : DrvAt TD TP TV S F w bv bd bt n v) (hs : ∀ k, S k → S' k) (hn : ∀ k, S' k → k ≠ bv ∧ k ≠ bt) : DrvAt TD TP TV S' F w bv bd bt n v :=
  ⟨h.row, h.map, h.dev.more hs, h.nv, h.nt, hn⟩
theorem Im.step (hs : w.heap.size ≤ w'.heap.size) : ∀ k, Im w col k → Im w' col k := fun k h => ⟨Nat.lt_of_lt_of_le h.1 hs, h.2⟩
theorem StAt.nv (h : StAt T col w b bd N x s) : ∀ k, Im w' col k → k ≠ x.bv ∧ k ≠ x.bt := fun k hk => ⟨fun e => (by have := hk.2; rw [e, h.cv] at this; cases this), fun e => (by have := hk.2; rw [e, h.ct] at this; cases this)⟩
theorem AskAt.keep {TA : TypeId} {F : Nat → Prop} {v : Value} {o : Option Ak} (h : AskAt TA F w v o) (hk : ∀ k, F k → k < w.heap.size → w'.heap[k]? = w.heap[k]?) : AskAt TA F w' v o := by
  cases o with
  | none => exact h
  | some a =>
    obtain ⟨ba, lv, h1, h2, h3, h4⟩ := h
    exact ⟨ba, lv, h1, h2, (hk ba h2 (Array.getElem?_eq_some_iff.1 h3).1).trans h3, h4.keep hk⟩
/-- Nothing that was there was written. -/
theorem StAt.below (h : StAt T col w b bd N x s) (hb : Below w.heap.size w w') : StAt T col w' b bd N x s :=
  ⟨(hb.block _ (Array.getElem?_eq_some_iff.1 h.row).1).trans h.row, (h.drv.below hb).more (Im.step hb.size) h.nv, h.n, (h.bufs.below hb).more (Im.step hb.size), (h.wait.below hb).more (Im.step hb.size), h.asks,
    fun c hc => (h.ask c hc).keep (fun k _ hk => hb.block k hk), h.done, h.errs, h.cb, h.cv, h.ct, fun k hk => Nat.lt_of_lt_of_le (h.lt k hk) hb.size⟩
theorem StAt.bl (h : StAt T col w b bd N x s) : b < w.heap.size := h.lt b (by rw [h.cb]; decide)
/-- Only the stack's own block was written. -/
structure Same1 (b : Nat) (w w' : World) : Prop where
  os : w'.os = w.os
  tape : w'.tape = w.tape
  output : w'.output = w.output
  size : w'.heap.size = w.heap.size
  block : ∀ k, k ≠ b → w'.heap[k]? = w.heap[k]?
theorem Same1.refl : Same1 b w w := ⟨rfl, rfl, rfl, rfl, fun _ _ => rfl⟩
theorem Same1.setCell {w0 : World} (h : Same1 b w0 w) (k : Nat) (v : Value) : Same1 b w0 (w.setCell ⟨b, k, none⟩ v) :=
  ⟨h.os, h.tape, h.output, by rw [← h.size]; simp [World.setCell], fun j hj => (Below.heap_setCell _ _ _ _ (by simpa using hj)).trans (h.block j hj)⟩
theorem Same1.drew {w0 : World} (h : Same1 b w0 w) : Same1 b w0 w.drew := ⟨h.os, h.tape, h.output, h.size, h.block⟩
theorem Same1.chg {F : Nat → Prop} (h : Same1 b w w') (hb : F b) : Chg F w w' := ⟨h.os, h.tape, h.output, by rw [h.size]; exact Nat.le_refl _, fun k _ hn => h.block k (fun e => hn (e ▸ hb))⟩
theorem StAt.drv1 (h : StAt T col w b bd N x s) (hb : Same1 b w w') : DrvAt T.D T.P T.V (Im w' col) (Fd col) w' x.bv bd x.bt x.n s.v := by
  obtain ⟨f, hf, hv⟩ := h.drv.map
  have hk : ∀ k, col k ≠ 1 → w'.heap[k]? = w.heap[k]? := fun k hk => hb.block k (fun e => hk (e ▸ h.cb))
  refine ⟨(hk _ (by rw [h.cv]; decide)).trans h.drv.row, ⟨f, hf.keep (hk _ (by rw [h.ct]; decide)), hv⟩, ?_, h.drv.nv, h.drv.nt, h.nv⟩
  exact (h.drv.dev.keep (fun k hf _ => hk k (by rw [show col k = 4 from hf]; decide)) (fun k hs _ => hk k (by rw [hs.2]; decide))).more (Im.step (by rw [hb.size]; exact Nat.le_refl _))
theorem StAt.bufs1 {v : Value} {l : List Bf} (h : StAt T col w b bd N x s) (hb : Same1 b w w') (hv : BufsAt (Im w col) w v l) : BufsAt (Im w' col) w' v l :=
  (hv.keep (fun k hs _ => hb.block k (fun e => by have := hs.2; rw [e, h.cb] at this; cases this))).more (Im.step (by rw [hb.size]; exact Nat.le_refl _))
theorem StAt.wait1 {v : Value} {l : List Rq} (h : StAt T col w b bd N x s) (hb : Same1 b w w') (hv : ReqsAt (Im w col) w v l) : ReqsAt (Im w' col) w' v l :=
  (hv.keep (fun k hs _ => hb.block k (fun e => by have := hs.2; rw [e, h.cb] at this; cases this))).more (Im.step (by rw [hb.size]; exact Nat.le_refl _))
theorem StAt.ask1 {c : Nat} {v : Value} {o : Option Ak} (h : StAt T col w b bd N x s) (hb : Same1 b w w') (hv : AskAt T.A (Fa col c) w v o) : AskAt T.A (Fa col c) w' v o :=
  hv.keep (fun k hs _ => hb.block k (fun e => by have : col k = 5 + c := hs; rw [e, h.cb] at this; omega))
theorem StAt.lt1 (h : StAt T col w b bd N x s) (hb : Same1 b w w') : ∀ k, col k ≠ 0 → k < w'.heap.size := fun k hk => by rw [hb.size]; exact h.lt k hk
/-- Some of the stack's own cells are others now. -/
theorem StAt.turn1 {y : Sv} {t : St} (h : StAt T col w b bd N x s) (hb : Same1 b w w') (hrow : w'.heap[b]? = some (.cells (y.row t bd) T.S (0, 0))) (hv : y.bv = x.bv) (ht : y.bt = x.bt) (hn : y.n = x.n) (hd : t.v = s.v)
    (hbufs : BufsAt (Im w col) w y.bufs t.bufs) (hwait : ReqsAt (Im w col) w y.wait t.wait) (ha3 : t.asks.length = 3) (hask : ∀ c, c < 3 → AskAt T.A (Fa col c) w (y.av c) (t.askAt c)) (hdone : t.done = [y.d0, y.d1, y.d2]) (herrs : t.errs = [y.e0, y.e1, y.e2]) :
    StAt T col w' b bd N y t :=
  ⟨hrow, by rw [hv, ht, hn, hd]; exact h.drv1 hb, by rw [hn]; exact h.n, h.bufs1 hb hbufs, h.wait1 hb hwait, ha3, fun c hc => h.ask1 hb (hask c hc), hdone, herrs, h.cb, by rw [hv]; exact h.cv, by rw [ht]; exact h.ct, h.lt1 hb⟩
/-- The cells that a walk reads. -/
theorem StAt.cell (h : StAt T col w b bd N x s) (k : Nat) : w.cell? ⟨b, k, none⟩ = (x.row s bd)[k]? := cell_of_row _ _ k _ _ _ h.row
theorem StAt.frozen (h : StAt T col w b bd N x s) (k : Nat) : w.frozen? ⟨b, k, none⟩ = false := frozen_of_row _ _ k _ _ h.row
end
abbrev Ts : Tys := ⟨81, 90, TDp, TPp, TVp⟩
end Go.Proofs.Ytojmnfelecnenaa
namespace Go.Proofs.Ytojmnfelecnenaa
set_option linter.unusedSimpArgs false
set_option linter.unusedVariables false
open Go.RowKit

theorem isnan_any (x : Int) (w : World) : Calls Try.prog 101 #[.int .i64 x] w (RetSame (.bool false) w) := by
  go_enter Try.func101, Try.ntmps101
  go_wp2
  go_ret
  exact ⟨by simp, rfl⟩
def cmpI (a b : Int) : Int := if a < b then -1 else if b < a then 1 else 0
theorem compare_any (a b : Int) (w : World) : Calls Try.prog 94 #[.int .i64 a, .int .i64 b] w (RetSame (.int .i64 (cmpI a b)) w) := by
  by_cases h1 : a < b
  · have e : cmpI a b = -1 := if_pos h1
    rw [e]
    clear e
    go_enter Try.func94, Try.ntmps94
    go_wp2_with (go_at_call 101; refine (isnan_any _ _).mono ?_; rintro e w1 ⟨rfl, rfl⟩)
    go_ret
    exact ⟨rfl, rfl⟩
  · by_cases h2 : b < a
    · have e : cmpI a b = 1 := by unfold cmpI; rw [if_neg h1, if_pos h2]
      rw [e]
      clear e
      go_enter Try.func94, Try.ntmps94
      go_wp2_with (go_at_call 101; refine (isnan_any _ _).mono ?_; rintro e w1 ⟨rfl, rfl⟩)
      go_ret
      exact ⟨rfl, rfl⟩
    · have e : cmpI a b = 0 := by unfold cmpI; rw [if_neg h1, if_neg h2]
      rw [e]
      clear e
      go_enter Try.func94, Try.ntmps94
      go_wp2_with (go_at_call 101; refine (isnan_any _ _).mono ?_; rintro e w1 ⟨rfl, rfl⟩)
      go_ret
      exact ⟨rfl, rfl⟩
theorem find1_any (b : Bf) (p : Int) (w : World) : Calls Try.prog 93 #[bfV b, .int .i64 p] w (Ret (.int .i64 (cmpI b.pos p)) w) := by
  go_enter Try.func93, Try.ntmps93
  go_wp2_with (go_at_call 94; refine (compare_any _ _ _).mono ?_; rintro e w1 ⟨rfl, rfl⟩)
  go_ret
  exact ⟨rfl, (Below.refl _ _).alloc (Nat.le_refl _) _⟩

set_option maxRecDepth 100000 in
set_option maxHeartbeats 2000000 in
theorem bsearch_any (S : Nat → Prop) (l : List Bf) (v : Value) (p : Int) (w : World) (h : BufsAt S w v l) (hr : Rises l) (hn : l.length ≤ 65536) :
    Calls Try.prog 92 #[v, .int .i64 p, .func (.func 93) #[] #[]] w (Ret (.tuple #[.int .i64 (posB l p : Nat), .bool (isB l p)]) w) := by
  obtain ⟨A, cap, rfl, h1, h2⟩ := h.form
  unfold maxLen at h2
  have H := Lib.hid h
  have HR := Lib.hid hr
  clear h hr
  obtain ⟨P, hP⟩ : ∃ x, posB l p = x := ⟨_, rfl⟩
  obtain ⟨B, hB⟩ : ∃ x, isB l p = x := ⟨_, rfl⟩
  rw [hP, hB]
  have HP := Lib.hid hP
  have HB := Lib.hid hB
  clear hP hB
  go_enter Try.func92, Try.ntmps92
  go_wp2
  go_loopw [9, 10] (fun s9 s10 wr => ∃ lo hi : Nat, s9 = .int .i64 lo ∧ s10 = .int .i64 hi ∧ lo ≤ hi ∧ hi ≤ l.length ∧ Below w.heap.size w wr ∧ Hid ((∀ i b, i < lo → l[i]? = some b → b.pos < p) ∧ (∀ i b, hi ≤ i → l[i]? = some b → p ≤ b.pos))) (fun s9 s10 _ => (intOf s10).toNat - (intOf s9).toNat)
  case atStart => exact ⟨0, l.length, rfl, rfl, by omega, by omega, Below.refl _ _, ⟨fun i b hi => by omega, fun i b hi hb => by rw [List.getElem?_eq_none hi] at hb; cases hb⟩⟩
  case round =>
    obtain ⟨lo, hi, rfl, rfl, hlh, hhn, hb, hI⟩ := hrel
    by_cases hlt : lo < hi
    · obtain ⟨b, off, rfl, _, hbl, hc⟩ := (H.out.below hb).at_ (by omega)
      have hx : l[(lo + hi) / 2]? = some l[(lo + hi) / 2] := List.getElem?_eq_getElem (by omega)
      obtain ⟨hok, k0, k1, k2, k3⟩ := hc _ _ hx
      have Hx := Lib.hid hx
      clear hx hc
      generalize l[(lo + hi) / 2] = x at *
      have hi1 : ((lo : Int) + (hi : Int)) / 2 < (l.length : Int) := by omega
      by_cases hcx : x.pos < p
      · have hc1 : cmpI x.pos p = -1 := if_pos hcx
        go_wp2_with (go_at_call 93; refine (find1_any x p _).mono ?_; rintro e w1 ⟨rfl, hb1⟩; have hb2 := hb.trans (hb1.mono hb.size))
        go_roundw
        case rel => exact ⟨(lo + hi) / 2 + 1, hi, by go_num, rfl, by omega, hhn, hb2, ⟨fun i c hi2 hc2 => by
          rcases Nat.eq_or_lt_of_le (Nat.le_of_lt_succ hi2) with e | e
          · subst e; rw [Hx.out] at hc2; cases hc2; exact hcx
          · have := HR.out.lt e hc2 Hx.out; omega, hI.out.2⟩⟩
        case measure => simp [intOf]; omega
      · have hc1 : 0 ≤ cmpI x.pos p := by unfold cmpI; rw [if_neg hcx]; split <;> omega
        go_wp2_with (go_at_call 93; refine (find1_any x p _).mono ?_; rintro e w1 ⟨rfl, hb1⟩; have hb2 := hb.trans (hb1.mono hb.size))
        go_roundw
        case rel => exact ⟨lo, (lo + hi) / 2, rfl, by go_num, by omega, by omega, hb2, ⟨hI.out.1, fun i c hi2 hc2 => by
          rcases Nat.eq_or_lt_of_le hi2 with e | e
          · subst e; rw [Hx.out] at hc2; cases hc2; omega
          · have := HR.out.lt e Hx.out hc2; omega⟩⟩
        case measure => simp [intOf]; omega
    · obtain rfl : lo = hi := by omega
      have e : P = lo := HP.out.symm.trans (posB_eq HR.out hhn hI.out.1 hI.out.2)
      have e2 := HB.out.symm.trans (isB_pos (p := p) HR.out)
      rw [HP.out] at e2
      subst e
      by_cases hln : P < l.length
      · obtain ⟨b, off, rfl, _, hbl, hc⟩ := (H.out.below hb).at_ (by omega)
        have hx : l[P]? = some l[P] := List.getElem?_eq_getElem hln
        obtain ⟨hok, k0, k1, k2, k3⟩ := hc _ _ hx
        rw [List.getD_eq_getElem?_getD, hx] at e2
        clear hx hc
        simp only [Option.getD_some] at e2
        generalize l[P] = x at *
        have E2 := Lib.hid e2
        clear e2
        have hi1 : (P : Int) < (l.length : Int) := by omega
        go_wp2_with (go_at_call 93; refine (find1_any x p _).mono ?_; rintro e w1 ⟨rfl, hb1⟩; have hb2 := hb.trans (hb1.mono hb.size))
        go_ret2
        refine ⟨?_, hb2⟩
        rw [E2.out]
        simp [hln]
        unfold cmpI
        split
        · simp; omega
        · split
          · simp; omega
          · simp; omega
      · have E2 := Lib.hid e2
        clear e2
        have hi1 : decide ((P : Int) < (l.length : Int)) = false := by simp; omega
        go_wp2
        go_ret2
        exact ⟨by rw [E2.out]; simp [hln], hb⟩
theorem find_any (S : Nat → Prop) (l : List Bf) (v : Value) (p : Int) (w : World) (h : BufsAt S w v l) (hr : Rises l) (hn : l.length ≤ 65536) :
    Calls Try.prog 72 #[v, .int .i64 p] w (Ret (.tuple #[.int .i64 (posB l p : Nat), .bool (isB l p)]) w) := by
  obtain ⟨A, cap, rfl, h1, h2⟩ := h.form
  have H := Lib.hid h
  have HR := Lib.hid hr
  clear h hr
  go_enter Try.func72, Try.ntmps72
  go_wp2_with (go_at_call 92; refine (bsearch_any S l _ p _ H.out HR.out hn).mono ?_; rintro e w1 ⟨rfl, hb1⟩)
  go_ret2
  exact ⟨rfl, hb1⟩
end Go.Proofs.Ytojmnfelecnenaa
namespace Go.Proofs.Ytojmnfelecnenaa
set_option linter.unusedSimpArgs false
set_option linter.unusedVariables false
open Go.RowKit

theorem zero_buf : ∀ w, (zeroValue 92).run Try.prog w = .ok (.agg #[.int .i64 0, .string ⟨#[]⟩, .bool false, .int .i64 0]) w := fun _ => by kernel_rfl
theorem Lay.c4 {w wr : World} {l : List (Nat × TypeId × Array Value)} (h : Lay w wr l) (i : Nat) {b : Nat} {T : TypeId} {c0 c1 c2 c3 : Value} (hi : l[i]? = some (b, T, #[c0, c1, c2, c3])) :
    wr.cell? ⟨b, 0, none⟩ = some c0 ∧ wr.cell? ⟨b, 1, none⟩ = some c1 ∧ wr.cell? ⟨b, 2, none⟩ = some c2 ∧ wr.cell? ⟨b, 3, none⟩ = some c3 := ⟨h.cell i hi 0, h.cell i hi 1, h.cell i hi 2, h.cell i hi 3⟩
/-- Four cells in one go. -/
theorem Lay.put4 {w wr : World} {l : List (Nat × TypeId × Array Value)} (h : Lay w wr l) (i : Nat) {b : Nat} {T : TypeId} {c0 c1 c2 c3 : Value} (hi : l[i]? = some (b, T, #[c0, c1, c2, c3])) (v0 v1 v2 v3 : Value) :
    Lay w ((((wr.setCell ⟨b, 0, none⟩ v0).setCell ⟨b, 1, none⟩ v1).setCell ⟨b, 2, none⟩ v2).setCell ⟨b, 3, none⟩ v3) (l.set i (b, T, #[v0, v1, v2, v3])) := by
  have hlt : i < l.length := (List.getElem?_eq_some_iff.1 hi).1
  have g0 := h.set i hi 0 v0
  have g1 := g0.set i (by rw [List.getElem?_set, if_pos rfl, if_pos hlt]) 1 v1
  have g2 := g1.set i (by rw [List.getElem?_set, if_pos rfl, if_pos (by simpa using hlt)]) 2 v2
  have g3 := g2.set i (by rw [List.getElem?_set, if_pos rfl, if_pos (by simpa using hlt)]) 3 v3
  simpa [List.set_set] using g3

set_option maxRecDepth 100000 in
set_option maxHeartbeats 2000000 in
theorem get_any (S : Nat → Prop) (l : List Bf) (v : Value) (p : Int) (w : World) (h : BufsAt S w v l) (hr : Rises l) (hn : l.length ≤ 65536) :
    Calls Try.prog 51 #[v, .int .i64 p] w (Ret (.tuple #[bfV (getB l p).1, .bool (getB l p).2]) w) := by
  obtain ⟨A, cap, rfl, h1, h2⟩ := h.form
  unfold maxLen at h2
  have hz := zero_buf
  have H := Lib.hid h
  have HR := Lib.hid hr
  clear h hr
  cases hi : isB l p with
  | false =>
    rw [getB_no hi]
    go_enter Try.func51, Try.ntmps51
    go_wp2_with fail
    have L := (Lay.refl w).alloc' w.heap.size #[.int .i64 0, .string ⟨#[]⟩, .bool false, .int .i64 0] 92 rfl
    generalize World.alloc _ _ = W at L ⊢
    refine (find_any S l _ p _ (H.out.below L.below) HR.out hn).mono ?_
    rintro e w1 ⟨rfl, hb1⟩
    have L1 := L.step hb1
    rw [hi]
    obtain ⟨q0, q1, q2, q3⟩ := L1.c4 0 rfl
    have hfr := L1.frozen 0 rfl
    clear hb1 L
    go_wp2_with fail
    have L2 := L1.put4 0 rfl (.int .i64 0) (.string ⟨#[]⟩) (.bool false) (.int .i64 0)
    generalize World.setCell _ _ _ = W2 at L2 ⊢
    obtain ⟨q0, q1, q2, q3⟩ := L2.c4 0 rfl
    refine bodyPost_ret (v := .tuple #[bfV zeroBf, .bool false]) (by simp [results, Try.results51, go_sem, q0, q1, q2, q3, zeroBf]) rfl ?_
    exact ⟨rfl, L2.below⟩
  | true =>
    obtain ⟨x, hx, hp⟩ := isB_at HR.out hi
    rw [getB_of HR.out hx hp]
    have hlt := (List.getElem?_eq_some_iff.1 hx).1
    have hi1 : ((posB l p : Nat) : Int) < (l.length : Int) := by omega
    have Hx := Lib.hid hx
    clear hx hp
    go_enter Try.func51, Try.ntmps51
    go_wp2_with fail
    have L := (Lay.refl w).alloc' w.heap.size #[.int .i64 0, .string ⟨#[]⟩, .bool false, .int .i64 0] 92 rfl
    generalize World.alloc _ _ = W at L ⊢
    refine (find_any S l _ p _ (H.out.below L.below) HR.out hn).mono ?_
    rintro e w1 ⟨rfl, hb1⟩
    have L1 := L.step hb1
    rw [hi]
    obtain ⟨q0, q1, q2, q3⟩ := L1.c4 0 rfl
    have hfr := L1.frozen 0 rfl
    obtain ⟨b, off, rfl, _, hbl, hc⟩ := (H.out.below L1.below).at_ (by omega)
    obtain ⟨hok, k0, k1, k2, k3⟩ := hc _ _ Hx.out
    clear hb1 L hc
    go_wp2_with fail
    have L2 := L1.put4 0 rfl (.int .i64 x.pos) (.string x.data) (.bool x.dirty) (.int .i64 x.used)
    generalize World.setCell _ _ _ = W2 at L2 ⊢
    obtain ⟨q0, q1, q2, q3⟩ := L2.c4 0 rfl
    refine bodyPost_ret (v := .tuple #[bfV x, .bool true]) (by simp [results, Try.results51, go_sem, q0, q1, q2, q3]) rfl ?_
    exact ⟨rfl, L2.below⟩
end Go.Proofs.Ytojmnfelecnenaa
namespace Go.Proofs.Ytojmnfelecnenaa
set_option linter.unusedSimpArgs false
set_option linter.unusedVariables false
open Go.RowKit

theorem dirtyB_succ {l : List Bf} {k : Nat} {x : Bf} (h : l[k]? = some x) : dirtyB (l.take (k + 1)) = dirtyB (l.take k) + if x.dirty then 1 else 0 := by
  unfold dirtyB
  rw [List.take_add_one, h, List.countP_append]
  simp [List.countP_cons]
set_option maxRecDepth 100000 in
set_option maxHeartbeats 2000000 in
theorem dirty_any (S : Nat → Prop) (l : List Bf) (v : Value) (w : World) (h : BufsAt S w v l) (hn : l.length ≤ 65536) :
    Calls Try.prog 42 #[v] w (Ret (.int .i64 (dirtyB l : Nat)) w) := by
  obtain ⟨A, cap, rfl, h1, h2⟩ := h.form
  unfold maxLen at h2
  have hz := zero_buf
  have H := Lib.hid h
  clear h
  go_enter Try.func42, Try.ntmps42
  go_wp2_with fail
  go_loopw [3, 8] (fun s i wr => ∃ k : Nat, k ≤ l.length ∧ i = .int .i64 k ∧ s = .int .i64 (dirtyB (l.take k) : Nat) ∧ Below w.heap.size w wr) (fun _ i _ => l.length - (intOf i).toNat)
  case atStart => exact ⟨0, by omega, rfl, rfl, Below.refl _ _⟩
  case round =>
    obtain ⟨k, hk, rfl, rfl, hb⟩ := hrel
    by_cases hlt : k < l.length
    · have hx : l[k]? = some l[k] := List.getElem?_eq_getElem hlt
      have hi1 : (k : Int) < (l.length : Int) := by omega
      have hd : dirtyB (l.take k) ≤ k := by unfold dirtyB; exact Nat.le_trans List.countP_le_length (by simp; omega)
      obtain ⟨b, off, rfl, _, hbl, hc⟩ := (H.out.below hb).at_ (by omega)
      obtain ⟨hok, k0, k1, k2, k3⟩ := hc _ _ hx
      have Hx := Lib.hid hx
      clear hx hc
      generalize l[k] = x at *
      have HS := Lib.hid (dirtyB_succ Hx.out)
      generalize dirtyB (l.take k) = D at *
      cases hxd : x.dirty with
      | true =>
        have hS := HS.out
        rw [hxd, if_pos rfl] at hS
        rw [hxd] at k2
        go_wp2_with fail
        go_roundw
        case rel => exact ⟨k + 1, by omega, by go_num, by rw [hS]; go_num, hb.alloc hb.size _⟩
        case measure => simp [intOf]; omega
      | false =>
        have hS := HS.out
        rw [hxd, if_neg (by simp)] at hS
        rw [hxd] at k2
        go_wp2_with fail
        go_roundw
        case rel => exact ⟨k + 1, by omega, by go_num, by rw [hS]; go_num, hb.alloc hb.size _⟩
        case measure => simp [intOf]; omega
    · have e : l.take k = l := List.take_of_length_le (by omega)
      rw [e]
      have hi1 : decide ((k : Int) < (l.length : Int)) = false := by simp; omega
      go_wp2
      go_ret
      exact ⟨rfl, hb⟩
end Go.Proofs.Ytojmnfelecnenaa
namespace Go.Proofs.Ytojmnfelecnenaa
set_option linter.unusedSimpArgs false
set_option linter.unusedVariables false
open Go.RowKit

/-- It returns v; of what was there only the stack's own block was written. -/
def Ret1 (T : Tys) (col : Nat → Nat) (w : World) (b bd N : Nat) (y : Sv) (t : St) (v : Value) : Ending → World → Prop := fun e w' => e = .returned v ∧ Same1 b w w' ∧ StAt T col w' b bd N y t
def Sv.ans (x : Sv) (c : Nat) (d : ByteArray) (e : Nat) : Sv := match c with
  | 0 => { x with a0 := .pointer none, d0 := d, e0 := e }
  | 1 => { x with a1 := .pointer none, d1 := d, e1 := e }
  | _ => { x with a2 := .pointer none, d2 := d, e2 := e }
section
variable {T : Tys} {col : Nat → Nat} {w w' : World} {b bd N : Nat} {x : Sv} {s : St}
theorem askAt_answer {c j : Nat} {d : ByteArray} {e : Nat} (h3 : s.asks.length = 3) (hc : c < 3) : (s.answer c d e).askAt j = if j = c then none else s.askAt j := by
  unfold St.askAt St.answer
  simp only [List.getD_eq_getElem?_getD, List.getElem?_set]
  by_cases h : c = j
  · subst h; simp [h3, hc]
  · simp [h, Ne.symm h]
theorem StAt.ans (h : StAt T col w b bd N x s) (hb : Same1 b w w') {c : Nat} (hc : c < 3) {d : ByteArray} {e : Nat} (hrow : w'.heap[b]? = some (.cells ((x.ans c d e).row s bd) T.S (0, 0))) : StAt T col w' b bd N (x.ans c d e) (s.answer c d e) := by
  have hask : ∀ j, j < 3 → AskAt T.A (Fa col j) w ((x.ans c d e).av j) ((s.answer c d e).askAt j) := by
    intro j hj
    rw [askAt_answer h.asks hc]
    have := h.ask j hj
    match c, hc with
    | 0, _ => match j, hj with
      | 0, _ => rfl
      | 1, _ => exact this
      | 2, _ => exact this
    | 1, _ => match j, hj with
      | 0, _ => exact this
      | 1, _ => rfl
      | 2, _ => exact this
    | 2, _ => match j, hj with
      | 0, _ => exact this
      | 1, _ => exact this
      | 2, _ => rfl
  refine h.turn1 hb hrow ?_ ?_ ?_ rfl ?_ ?_ ?_ hask ?_ ?_
  · match c, hc with | 0, _ => rfl | 1, _ => rfl | 2, _ => rfl
  · match c, hc with | 0, _ => rfl | 1, _ => rfl | 2, _ => rfl
  · match c, hc with | 0, _ => rfl | 1, _ => rfl | 2, _ => rfl
  · have := h.bufs; match c, hc with | 0, _ => exact this | 1, _ => exact this | 2, _ => exact this
  · have := h.wait; match c, hc with | 0, _ => exact this | 1, _ => exact this | 2, _ => exact this
  · show (s.asks.set c none).length = 3
    rw [List.length_set]; exact h.asks
  · show s.done.set c d = _
    rw [h.done]
    match c, hc with | 0, _ => rfl | 1, _ => rfl | 2, _ => rfl
  · show s.errs.set c e = _
    rw [h.errs]
    match c, hc with | 0, _ => rfl | 1, _ => rfl | 2, _ => rfl
end
set_option maxRecDepth 100000 in
set_option maxHeartbeats 1000000 in
theorem answer_any (col : Nat → Nat) (w : World) (b bd N : Nat) (x : Sv) (s : St) (c : Nat) (d : ByteArray) (e : Nat) (h : StAt Ts col w b bd N x s) (hc : c < 3) :
    Calls Try.prog 81 #[.pointer (some ⟨b, 0, none⟩), .int .i64 (c : Int), .string d, .int .i64 (e : Int)] w (Ret1 Ts col w b bd N (x.ans c d e) (s.answer c d e) (.tuple #[])) := by
  have H := Lib.hid h
  have c11 : w.cell? ⟨b, 11, none⟩ = some x.a0 := h.cell 11
  have c12 : w.cell? ⟨b, 12, none⟩ = some x.a1 := h.cell 12
  have c13 : w.cell? ⟨b, 13, none⟩ = some x.a2 := h.cell 13
  have c14 : w.cell? ⟨b, 14, none⟩ = some (.string x.d0) := h.cell 14
  have c15 : w.cell? ⟨b, 15, none⟩ = some (.string x.d1) := h.cell 15
  have c16 : w.cell? ⟨b, 16, none⟩ = some (.string x.d2) := h.cell 16
  have c17 : w.cell? ⟨b, 17, none⟩ = some (.int .i64 (x.e0 : Int)) := h.cell 17
  have c18 : w.cell? ⟨b, 18, none⟩ = some (.int .i64 (x.e1 : Int)) := h.cell 18
  have c19 : w.cell? ⟨b, 19, none⟩ = some (.int .i64 (x.e2 : Int)) := h.cell 19
  have hfr := fun k => h.frozen k
  clear h
  match c, hc with
  | 0, _ =>
    go_enter Try.func81, Try.ntmps81
    go_wp2_with fail
    go_region
    go_end0
    have hrow := heap_setCell_same _ _ 17 _ _ (.int .i64 (e : Int)) (heap_setCell_same _ _ 14 _ _ (.string d) (heap_setCell_same _ _ 11 _ _ (.pointer none) H.out.row))
    have hb := (((Same1.refl (b := b) (w := w)).setCell 11 (.pointer none)).setCell 14 (.string d)).setCell 17 (.int .i64 (e : Int))
    exact ⟨rfl, hb.drew, H.out.ans hb.drew (by omega) hrow⟩
  | 1, _ =>
    go_enter Try.func81, Try.ntmps81
    go_wp2_with fail
    go_region
    go_end0
    have hrow := heap_setCell_same _ _ 18 _ _ (.int .i64 (e : Int)) (heap_setCell_same _ _ 15 _ _ (.string d) (heap_setCell_same _ _ 12 _ _ (.pointer none) H.out.row))
    have hb := (((Same1.refl (b := b) (w := w)).setCell 12 (.pointer none)).setCell 15 (.string d)).setCell 18 (.int .i64 (e : Int))
    exact ⟨rfl, hb.drew, H.out.ans hb.drew (by omega) hrow⟩
  | 2, _ =>
    go_enter Try.func81, Try.ntmps81
    go_wp2_with fail
    go_region
    go_end0
    have hrow := heap_setCell_same _ _ 19 _ _ (.int .i64 (e : Int)) (heap_setCell_same _ _ 16 _ _ (.string d) (heap_setCell_same _ _ 13 _ _ (.pointer none) H.out.row))
    have hb := (((Same1.refl (b := b) (w := w)).setCell 13 (.pointer none)).setCell 16 (.string d)).setCell 19 (.int .i64 (e : Int))
    exact ⟨rfl, hb.drew, H.out.ans hb.drew (by omega) hrow⟩
/-- A moment of use. -/
theorem StAt.used {T : Tys} {col : Nat → Nat} {w w' : World} {b bd N : Nat} {x : Sv} {s : St} (h : StAt T col w b bd N x s) (hb : Same1 b w w') {n : Int} (hrow : w'.heap[b]? = some (.cells (x.row { s with use := n } bd) T.S (0, 0))) : StAt T col w' b bd N x { s with use := n } :=
  h.turn1 hb hrow rfl rfl rfl rfl h.bufs h.wait h.asks h.ask h.done h.errs
set_option maxRecDepth 100000 in
theorem used_any (col : Nat → Nat) (w : World) (b bd N : Nat) (x : Sv) (s : St) (h : StAt Ts col w b bd N x s) (hu : 0 ≤ s.use ∧ s.use ≤ 1000000000) :
    Calls Try.prog 61 #[.pointer (some ⟨b, 0, none⟩)] w (Ret1 Ts col w b bd N x { s with use := s.use + 1 } (.int .i64 (s.use + 1))) := by
  have H := Lib.hid h
  have c9 : w.cell? ⟨b, 9, none⟩ = some (.int .i64 s.use) := h.cell 9
  have hfr := h.frozen 9
  have hw : IntKind.i64.wrap (s.use + 1) = s.use + 1 := by rw [IntKind.wrap_i64]; omega
  clear h
  go_enter Try.func61, Try.ntmps61
  go_wp2_with fail
  go_ret
  exact ⟨rfl, Same1.refl.setCell 9 _, H.out.used (Same1.refl.setCell 9 _) (heap_setCell_same _ _ 9 _ _ _ H.out.row)⟩
set_option maxRecDepth 100000 in
theorem waits_any (col : Nat → Nat) (w : World) (b bd N : Nat) (x : Sv) (s : St) (c : Nat) (h : StAt Ts col w b bd N x s) (hc : c < 3) :
    Calls Try.prog 27 #[.pointer (some ⟨b, 0, none⟩), .int .i64 (c : Int)] w (RetSame (.bool (s.askAt c).isSome) w) := by
  have c11 : w.cell? ⟨b, 11, none⟩ = some x.a0 := h.cell 11
  have c12 : w.cell? ⟨b, 12, none⟩ = some x.a1 := h.cell 12
  have c13 : w.cell? ⟨b, 13, none⟩ = some x.a2 := h.cell 13
  have ha := h.ask c hc
  match c, hc with
  | 0, _ =>
    cases ho : s.askAt 0 with
    | none =>
      rw [ho] at ha
      rw [show x.a0 = .pointer none from ha] at c11
      clear h ha ho
      go_enter Try.func27, Try.ntmps27
      go_wp2_with fail
      go_ret
      exact ⟨rfl, rfl⟩
    | some a =>
      rw [ho] at ha
      obtain ⟨ba, lv, h1, _⟩ := ha
      rw [show x.a0 = _ from h1] at c11
      clear h ho h1
      go_enter Try.func27, Try.ntmps27
      go_wp2_with fail
      go_ret
      exact ⟨rfl, rfl⟩
  | 1, _ =>
    cases ho : s.askAt 1 with
    | none =>
      rw [ho] at ha
      rw [show x.a1 = .pointer none from ha] at c12
      clear h ha ho
      go_enter Try.func27, Try.ntmps27
      go_wp2_with fail
      go_ret
      exact ⟨rfl, rfl⟩
    | some a =>
      rw [ho] at ha
      obtain ⟨ba, lv, h1, _⟩ := ha
      rw [show x.a1 = _ from h1] at c12
      clear h ho h1
      go_enter Try.func27, Try.ntmps27
      go_wp2_with fail
      go_ret
      exact ⟨rfl, rfl⟩
  | 2, _ =>
    cases ho : s.askAt 2 with
    | none =>
      rw [ho] at ha
      rw [show x.a2 = .pointer none from ha] at c13
      clear h ha ho
      go_enter Try.func27, Try.ntmps27
      go_wp2_with fail
      go_ret
      exact ⟨rfl, rfl⟩
    | some a =>
      rw [ho] at ha
      obtain ⟨ba, lv, h1, _⟩ := ha
      rw [show x.a2 = _ from h1] at c13
      clear h ho h1
      go_enter Try.func27, Try.ntmps27
      go_wp2_with fail
      go_ret
      exact ⟨rfl, rfl⟩
set_option maxRecDepth 100000 in
theorem dead_any (col : Nat → Nat) (w : World) (b bd N : Nat) (x : Sv) (s : St) (h : StAt Ts col w b bd N x s) :
    Calls Try.prog 25 #[.pointer (some ⟨b, 0, none⟩)] w (RetSame (.bool s.dead) w) := by
  have c20 : w.cell? ⟨b, 20, none⟩ = some (.bool s.dead) := h.cell 20
  clear h
  go_enter Try.func25, Try.ntmps25
  go_wp2_with fail
  go_ret
  exact ⟨rfl, rfl⟩
set_option maxRecDepth 100000 in
theorem stdirty_any (col : Nat → Nat) (w : World) (b bd N : Nat) (x : Sv) (s : St) (h : StAt Ts col w b bd N x s) (h8 : s.bufs.length ≤ 8) :
    Calls Try.prog 19 #[.pointer (some ⟨b, 0, none⟩)] w (Ret (.int .i64 (dirtyB s.bufs : Nat)) w) := by
  have c2 : w.cell? ⟨b, 2, none⟩ = some x.bufs := h.cell 2
  have H := Lib.hid h.bufs
  clear h
  go_enter Try.func19, Try.ntmps19
  go_wp2_with fail
  refine (dirty_any _ _ _ _ H.out (by omega)).mono ?_
  rintro e w1 ⟨rfl, hb1⟩
  go_wp2_with fail
  go_ret
  exact ⟨rfl, hb1⟩
end Go.Proofs.Ytojmnfelecnenaa
