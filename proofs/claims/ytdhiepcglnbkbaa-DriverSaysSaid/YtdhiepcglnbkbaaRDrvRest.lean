
/- The reference's driver: what it does with any request. -/
import Derived.Test.YtdhiepcglnbkbaaRDrvAgain
namespace Go.Proofs.Ytdhiepcglnbkbaa
set_option linter.unusedSimpArgs false
set_option linter.unusedVariables false
open Go.RowKit

set_option maxRecDepth 100000 in
set_option maxHeartbeats 4000000 in
theorem rdrvend_none (S F : Nat → Prop) (w : World) (bv bd bt n : Nat) (v : Drv) (i : Int) (ft : Bool) (h : DrvAt TDr TPr TVr S F w bv bd bt n v) (hi : i < 0 ∨ (v.d.l.length : Int) ≤ i)
    (hF : ∀ k, F k → k < w.heap.size) (hSF : ∀ k, S k → ¬ F k) (hSlt : ∀ k, S k → k < w.heap.size) :
    Calls Try.prog 34 #[.pointer (some ⟨bv, 0, none⟩), .int .i64 i, .bool ft] w (RetDrv TDr TPr TVr S F w bv bd bt (n + 1) v zeroRs false (.int .i64 5)) := by
  have hbv := (Array.getElem?_eq_some_iff.1 h.row).1
  have c0 : ∀ o, (w.alloc o).cell? ⟨bv, 0, none⟩ = some (.pointer (some ⟨bd, 0, none⟩)) := fun o => by rw [World.cell?_alloc_lt _ _ _ hbv, cell_of_row _ _ _ _ _ _ h.row]; rfl
  have H := Lib.hid h
  have HF := Lib.hid hF
  have HS := Lib.hid hSF
  have Hlt := Lib.hid hSlt
  have Hi' := Lib.hid hi
  have Hq := Lib.hid (endAt_none v.d i ft hi)
  clear h hF hSF hSlt hi
  go_enter Try.func34, Try.ntmps34
  go_wp2_with fail
  have L := (LayF.refl (fun k => F k ∨ k = bt) w).alloc' w.heap.size zeroRsV 49 rfl
  have hb1 : Below w.heap.size w _ := (Below.refl w.heap.size w).alloc (Nat.le_refl _) (.cells zeroRsV 49)
  have hs1 : (w.alloc (.cells zeroRsV 49)).heap.size = w.heap.size + 1 := by simp
  generalize World.alloc _ _ = W1 at L hb1 hs1 ⊢
  have hd1 := H.out.dev.below hb1
  refine (rdevend_none S F W1 bd v.d i ft hd1 Hi'.out HS.out (fun k hk => by have := Hlt.out k hk; omega)).mono ?_
  rw [Hq.out]
  rintro e w2 ⟨x2, F2, S2, rfl, hrs, hd2, hc2, _, hF2, hSS2, hS2, hSF2⟩
  simp only at hrs hd2 ⊢
  obtain ⟨zr, hzr⟩ : ∃ x, x = zeroRs := ⟨_, rfl⟩
  rw [← hzr] at hrs
  clear hzr
  obtain ⟨zq, zd, ze⟩ := zr
  obtain ⟨rc, ov, ev, erc, hrc, hov⟩ := hrs
  obtain ⟨r3, rdv, rtv⟩ := rc
  simp only at erc ev hov
  obtain ⟨Bd, bd7, e1, _, _⟩ := hrc.data.form
  obtain ⟨Bt, bt7, e2, _, _⟩ := hrc.tags.form
  obtain ⟨Bo, bo7, e3, _, _⟩ := hov.form
  simp only at e1 e2
  subst erc
  subst e1 e2 e3 ev
  have hL2 := L.chg2 hc2 (fun k hk => .inl (.inl hk)) (fun x hx hf => by
    simp only [List.mem_cons, List.not_mem_nil, or_false] at hx
    subst hx
    have := HF.out _ hf
    simp only at this
    omega)
  have HL2 := Lib.hid (hL2.alloc' w2.heap.size #[Value.bool r3.write, .int .i64 r3.lo, .int .i64 r3.many, .slice Bd r3.data.length bd7, .slice Bt r3.tags.length bt7, .int .i64 r3.born, .slice Bo zd.length bo7, .int .i64 ze] 49 rfl)
  have Ha : Hid (∀ o : Obj, Below w2.heap.size w2 (w2.alloc o)) := fun o => (Below.refl w2.heap.size w2).alloc (Nat.le_refl _) o
  have HT : Hid ((w2.alloc (.cells #[Value.bool r3.write, .int .i64 r3.lo, .int .i64 r3.many, .slice Bd r3.data.length bd7, .slice Bt r3.tags.length bt7, .int .i64 r3.born, .slice Bo zd.length bo7, .int .i64 ze] 49)).there w.heap.size 0 zeroRsV.size) := HL2.out.there 1 rfl _ rfl
  have Hi : Hid ((Try.prog.info? 49).map (·.size) = some (#[Value.bool r3.write, .int .i64 r3.lo, .int .i64 r3.many, .slice Bd r3.data.length bd7, .slice Bt r3.tags.length bt7, .int .i64 r3.born, .slice Bo zd.length bo7, .int .i64 ze] : Array Value).size) := resInfo
  have Hi0 : Hid ((Try.prog.info? 49).map (·.size) = some zeroRsV.size) := resInfo
  have Hz : Hid ((#[Value.bool r3.write, .int .i64 r3.lo, .int .i64 r3.many, .slice Bd r3.data.length bd7, .slice Bt r3.tags.length bt7, .int .i64 r3.born, .slice Bo zd.length bo7, .int .i64 ze] : Array Value).all (·.oneCell') = true) := one8 _ _ _ _ _ _ _ _ _ _ _ _ _ _
  have Hz0 : Hid (zeroRsV.all (·.oneCell') = true) := one8 _ _ _ _ _ _ _ _ _ _ _ _ _ _
  have hb2 : ∀ q, q < w.heap.size → ¬ F q → w2.heap[q]? = w.heap[q]? := fun q hq hf => (hc2.block q (by omega) hf).trans (hb1.block q hq)
  have Hrow2 := Lib.hid ((hb2 bv hbv H.out.nv).trans H.out.row)
  obtain ⟨f, hmf, hfv⟩ := H.out.map
  have hbt := hmf.lt
  have Hmap2 := Lib.hid (hmf.keep (hb2 bt hbt H.out.nt))
  have Hfv := Lib.hid hfv
  have Hd2 := Lib.hid hd2
  have HF2 : Hid (∀ q, F2 q → Grow F w w2 q ∧ q ≠ bv ∧ q ≠ bt ∧ q ≠ w.heap.size) := fun q hq => by
    rcases hF2 q hq with h | h
    · exact ⟨.inl h, fun e => H.out.nv (e ▸ h), fun e => H.out.nt (e ▸ h), fun e => by have := HF.out q h; omega⟩
    · exact ⟨.inr ⟨by omega, h.2⟩, by omega, by omega, by omega⟩
  have HS2 : Hid (∀ q, S2 q → Grow S w w2 q ∧ q ≠ bv ∧ q ≠ bt ∧ q ≠ w.heap.size ∧ q < w2.heap.size) := fun q hq => by
    rcases hS2 q hq with h | h
    · exact ⟨.inl h, (H.out.sv q h).1, (H.out.sv q h).2, by have := Hlt.out q h; omega, by have := Hlt.out q h; have := hc2.size; omega⟩
    · exact ⟨.inr ⟨by omega, h.2⟩, by omega, by omega, by omega, h.2⟩
  have HSF2 := Lib.hid hSF2
  have HSS2 := Lib.hid hSS2
  have hz12 := hc2.size
  have hwt : w.heap.size ≠ bt := by omega
  clear hL2 L hb1 hrc hov hd2 hc2 hF2 hSS2 hS2 hSF2 hmf hfv hb2 c0 hd1
  go_wp2_with (first
    | (refine wpList_store_mid rfl 49 (.tmp 6) (.tmp 24) rfl w.heap.size 0 zeroRsV rfl rfl HT.out Hi0.out Hz0.out ?_
       have L5 := Lib.hid (HL2.out.put 1 rfl zeroRsV rfl)
       have hc5 : Hid (Chg (fun q => q = w.heap.size) (w2.alloc (.cells #[Value.bool r3.write, .int .i64 r3.lo, .int .i64 r3.many, .slice Bd r3.data.length bd7, .slice Bt r3.tags.length bt7, .int .i64 r3.born, .slice Bo zd.length bo7, .int .i64 ze] 49)) ((w2.alloc (.cells #[Value.bool r3.write, .int .i64 r3.lo, .int .i64 r3.many, .slice Bd r3.data.length bd7, .slice Bt r3.tags.length bt7, .int .i64 r3.born, .slice Bo zd.length bo7, .int .i64 ze] 49)).setCells w.heap.size 0 zeroRsV.toList)) := Chg.setCells (F := fun q => q = w.heap.size) Chg.refl (.inl rfl) 0 zeroRsV.toList
       generalize World.setCells _ _ _ _ = W5 at L5 hc5 ⊢
       obtain ⟨z0, z1, z2, z3, z4, z5, z6, z7⟩ := L5.out.c8 1 rfl))
  refine bodyPost_ret (v := .tuple #[.agg zeroRsV, .bool false, .int .i64 5]) (by simp [results, Try.results34, go_sem, z0, z1, z2, z3, z4, z5, z6, z7]) rfl ?_
  have hz3 : (w2.alloc (.cells #[Value.bool r3.write, .int .i64 r3.lo, .int .i64 r3.many, .slice Bd r3.data.length bd7, .slice Bt r3.tags.length bt7, .int .i64 r3.born, .slice Bo zd.length bo7, .int .i64 ze] 49)).heap.size = w2.heap.size + 1 := by simp
  have hsz5 : w2.heap.size + 1 ≤ W5.heap.size := hz3 ▸ hc5.out.size
  have hkk : ∀ q, q < w2.heap.size → q ≠ w.heap.size → W5.heap[q]? = w2.heap[q]? := fun q hq h1 =>
    (hc5.out.block q (by omega) h1).trans ((Ha.out _).block q hq)
  have hkS : ∀ q, S2 q → q < w2.heap.size → W5.heap[q]? = w2.heap[q]? := fun q hq hlt => hkk q hlt (HS2.out q hq).2.2.2.1
  have hkF : ∀ q, F2 q → q < w2.heap.size → W5.heap[q]? = w2.heap[q]? := fun q hq hlt => hkk q hlt (HF2.out q hq).2.2.2
  refine ⟨_, F2, S2, rfl, ⟨zeroRc, _, rfl, rfl, zeroRc_ok _ _, strs_nil _ _⟩, ⟨?_, ?_, (Hd2.out.more HSS2.out).keep hkF hkS, fun hf => (HF2.out _ hf).2.1 rfl, fun hf => (HF2.out _ hf).2.2.1 rfl, fun q hq => ⟨(HS2.out q hq).2.1, (HS2.out q hq).2.2.1⟩⟩, L5.out.chg, fun q hq => (HF2.out q hq).1.elim .inl (fun h => .inr ⟨h.1, by omega⟩), HSS2.out, fun q hq => (HS2.out q hq).1.elim .inl (fun h => .inr ⟨h.1, by omega⟩), HSF2.out⟩
  · exact (hkk bv (by omega) (by omega)).trans Hrow2.out
  · exact ⟨_, (Hmap2.out.keep (hkk bt (by omega) (fun e => hwt e.symm))).mono (by omega), Hfv.out⟩

theorem rdrvend_any (S F : Nat → Prop) (w : World) (bv bd bt n : Nat) (v : Drv) (i : Int) (f : Bool) (h : DrvAt TDr TPr TVr S F w bv bd bt n v) (hok : DvOk v.d) (hwl : v.d.waits.length ≤ 100000) (hn : n ≤ 100000) (htr : ∀ j, i64 j → 0 ≤ v.tries j ∧ v.tries j ≤ 2)
    (hF : ∀ k, F k → k < w.heap.size) (hSF : ∀ k, S k → ¬ F k) (hSlt : ∀ k, S k → k < w.heap.size) :
    Calls Try.prog 34 #[.pointer (some ⟨bv, 0, none⟩), .int .i64 i, .bool f] w (RetDrv TDr TPr TVr S F w bv bd bt (n + 1) (v.endAt i f).1 (v.endAt i f).2.1 (v.endAt i f).2.2.1 (.int .i64 ((v.endAt i f).2.2.2 : Int))) := by
  rcases endAt_split v.d i with hi | ⟨k, r, rfl, hk⟩
  · rw [drvEndAt_none v i f hi]
    exact rdrvend_none S F w bv bd bt n v i f h hi hF hSF hSlt
  · cases f with
    | false =>
      rw [drvEndAt_ok v k r hk]
      exact rdrvend_ok S F w bv bd bt n k v r h hk hok hwl hn htr hF hSF hSlt
    | true =>
      by_cases h3 : v.tries (tagOf r) + 1 < 3
      · rw [drvEndAt_again v k r hk hok.two h3]
        exact rdrvend_again S F w bv bd bt n k v r h hk hok hwl hn htr h3 hF hSF hSlt
      · rw [drvEndAt_gone v k r hk h3]
        exact rdrvend_gone S F w bv bd bt n k v r h hk hok hwl hn htr h3 hF hSF hSlt
end Go.Proofs.Ytdhiepcglnbkbaa
