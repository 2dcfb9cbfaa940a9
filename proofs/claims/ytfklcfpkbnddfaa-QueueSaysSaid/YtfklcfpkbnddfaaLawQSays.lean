/- The law QueueSays: its walk. -/
import Derived.Test.YtfklcfpkbnddfaaRAdd
import Derived.Test.YtfklcfpkbnddfaaLawQueue
import Derived.Test.YtfklcfpkbnddfaaBest
namespace Go.Proofs.Ytfklcfpkbnddfaa
set_option linter.unusedSimpArgs false
set_option linter.unusedVariables false
open Go.RowKit Go.Sort

set_option maxRecDepth 100000 in
theorem queues_any (w : World) : Calls Try.prog 27 #[] w (Ret (.bool true) w) := by
  have HS : Hid (∀ w : World, ∀ b, w.heap.size ≤ b → Any b) := fun _ _ _ => trivial
  go_enter Try.func27, Try.ntmps27
  go_wp2_with fail
  have L := (Lay.refl w).alloc' w.heap.size #[Value.int IntKind.i64 1] 3 rfl
  generalize World.alloc _ _ = W1 at L ⊢
  refine (add_any Any [] litA _ _ _ (HS.out _) reqs_nil (req_lit (L.at_ 0 rfl) (by unfold i64; omega) (by unfold i64; omega) (by unfold i64; omega) (by unfold i64; omega)) (by simp) (by simp)).mono ?_
  rintro e w2 ⟨v2, rfl, hv2, hb2⟩
  rw [add_lit] at hv2 ⊢
  obtain ⟨A2, c2, rfl, _, _⟩ := hv2.form
  have L2 := L.step hb2
  simp only [List.length_cons, List.length_nil]
  clear hv2 L hb2
  go_wp2_with fail
  refine (same_any 0 0 _).mono ?_
  rintro e w3 ⟨rfl, rfl⟩
  rw [show (((0 : Nat) : Int) == 0) = true from rfl]
  go_wp2
  go_ret
  exact ⟨rfl, L2.below⟩

theorem and1023 (n : Int) : ∃ m : Nat, m ≤ 1023 ∧ bits BinOp.and IntKind.i64 n 1023 = (m : Int) := by
  refine ⟨(BitVec.ofInt 64 n &&& BitVec.ofInt 64 1023).toNat, ?_, ?_⟩
  · rw [BitVec.toNat_and]
    exact Nat.le_trans Nat.and_le_right (by decide)
  · have h : (BitVec.ofInt 64 n &&& BitVec.ofInt 64 1023).toNat ≤ 1023 := by
      rw [BitVec.toNat_and]
      exact Nat.le_trans Nat.and_le_right (by decide)
    show IntKind.i64.wrap ((BitVec.ofInt 64 n &&& BitVec.ofInt 64 1023).toNat : Int) = _
    exact IntWalk.i64_in _ (by omega)
theorem pick_k (n : Int) {len : Nat} (h : 0 < len) : ∃ k : Nat, k < len ∧ (bits BinOp.and IntKind.i64 n 1023).tmod (len : Int) = (k : Int) := by
  obtain ⟨m, _, e⟩ := and1023 n
  refine ⟨m % len, Nat.mod_lt _ h, ?_⟩
  rw [e, Int.tmod_eq_emod_of_nonneg (by omega)]
  omega
theorem Rd.take_ {S : Nat → Prop} {w : World} {size n k c : Nat} {A : Option Addr} {xs : List Value} (h : Rd S w size (.slice A n c) n xs) (hk : k ≤ n) : Rd S w size (.slice A k c) k (xs.take (k * size)) := by
  obtain ⟨A', c', e, h1, h2, h3, h4⟩ := h
  cases e
  refine ⟨A, c, rfl, by omega, h2, by rw [List.length_take, h3]; exact Nat.min_eq_left (Nat.mul_le_mul_right _ hk), fun hp => ?_⟩
  obtain ⟨b, off, e, hS, hc⟩ := h4 (by omega)
  refine ⟨b, off, e, hS, fun j u hu => hc j u ?_⟩
  rw [List.getElem?_take] at hu
  split at hu
  · exact hu
  · cases hu
theorem Rd.drop_ {S : Nat → Prop} {w : World} {n k c b off : Nat} {xs : List Value} (h : Rd S w 6 (.slice (some ⟨b, off, none⟩) n c) n xs) (hk : k < n) :
    Rd S w 6 (.slice (if c = k + 1 then some (⟨b, off, none⟩ : Addr) else some ⟨b, off + (k + 1) * 6, none⟩) (n - (k + 1)) (c - (k + 1))) (n - (k + 1)) (xs.drop ((k + 1) * 6)) := by
  have hf := h.len
  obtain ⟨A', c', e, h1, h2, h3, h4⟩ := h
  cases e
  refine ⟨_, _, rfl, by omega, by omega, by rw [List.length_drop, h3]; omega, fun hp => ?_⟩
  rw [if_neg (by omega)]
  obtain ⟨b', off', e, hS, hc⟩ := h4 (by omega)
  cases e
  refine ⟨b, off + (k + 1) * 6, rfl, hS, fun j u hu => ?_⟩
  rw [List.getElem?_drop] at hu
  have := hc _ _ hu
  rwa [← Nat.add_assoc] at this

theorem same_lists {l : List Rq} {va vb : Value} {w : World} (ha : ReqsAt Any w va l) (hb : ReqsAt Any w vb l) : Calls Try.prog 31 #[va, vb] w (Ret (.bool true) w) := by
  have := samereqs_any Any l l va vb w ha hb
  rwa [sameLB_true.2 rfl] at this
theorem same_ones {r : Rq} {va vb : Value} {w : World} (ha : ReqAt Any w va r) (hb : ReqAt Any w vb r) : Calls Try.prog 33 #[va, vb] w (Ret (.bool true) w) := by
  have := samereq_any Any r r va vb w ha hb
  rwa [sameB_true.2 rfl] at this

set_option maxRecDepth 100000 in
set_option maxHeartbeats 4000000 in
theorem qsays_walk (l : List Rq) (r : Rq) (v rv : Value) (n at_ : Int) (w : World) (h : ReqsAt Any w v l) (hr : ReqAt Any w rv r) (hn : i64 n) (ha : i64 at_) :
    Calls Try.prog 7 #[v, rv, .int .i64 n, .int .i64 at_] w (Ret (.bool true) w) := by
  obtain ⟨Ad, cd, At, ct, rfl, _, _, _, _, _, _, _⟩ := hr.opened
  obtain ⟨A, cap, rfl, hc1, hcap⟩ := h.form
  unfold maxLen at hcap
  have H := Lib.hid h
  have Hr := Lib.hid hr
  have HS : Hid (∀ w : World, ∀ b, w.heap.size ≤ b → Any b) := fun _ _ _ => trivial
  clear h hr
  go_enter Try.func7, Try.ntmps7
  go_wp2_with fail
  have L := (Lay.refl w).alloc' w.heap.size #[Value.bool r.write, Value.int IntKind.i64 r.lo, Value.int IntKind.i64 r.many, Value.slice Ad r.data.length cd, Value.slice At r.tags.length ct, Value.int IntKind.i64 r.born] 45 rfl
  generalize World.alloc _ _ = W1 at L ⊢
  refine (queues_any _).mono ?_
  rintro e w2 ⟨rfl, hb2⟩
  have L2 := L.step hb2
  clear L hb2
  go_wp2_with fail
  refine (lightreqs_any Any l _ _ (H.out.below L2.below)).mono ?_
  rintro e w3 ⟨rfl, hb3⟩
  have L3 := L2.step hb3
  clear L2 hb3
  cases g1 : lightReqs l with
  | false =>
    go_wp2
    go_ret
    exact ⟨rfl, L3.below⟩
  | true =>
    have G1 := Lib.hid g1
    have hl10 := light_len' g1
    clear g1
    obtain ⟨c0, c1, c2, c3, c4, c5⟩ := L3.c6 0 rfl
    go_wp2_with fail
    refine (lightreq_any Any r _ _ (Hr.out.below L3.below)).mono ?_
    rintro e w4 ⟨rfl, hb4⟩
    have L4 := L3.step hb4
    clear L3 hb4 c0 c1 c2 c3 c4 c5
    cases g2 : lightReq r with
    | false =>
      go_wp2
      go_ret
      exact ⟨rfl, L4.below⟩
    | true =>
      have G2 := Lib.hid g2
      clear g2
      go_wp2_with fail
      refine (goodreqs_any Any l _ _ (H.out.below L4.below)).mono ?_
      rintro e w5 ⟨rfl, hb5⟩
      have L5 := L4.step hb5
      clear L4 hb5
      cases g3 : goodReqs l with
      | false =>
        go_wp2
        go_ret
        exact ⟨rfl, L5.below⟩
      | true =>
        have G3 := Lib.hid g3
        clear g3
        have Hok : Hid (∀ x ∈ l, ReqOk x) := fun x hx => by
          obtain ⟨i, hi⟩ := List.mem_iff_getElem?.1 hx
          exact good_mem G3.out hi
        obtain ⟨c0, c1, c2, c3, c4, c5⟩ := L5.c6 0 rfl
        go_wp2_with fail
        refine (add_any Any l r _ _ _ (HS.out _) (H.out.below L5.below) (Hr.out.below L5.below) Hok.out (by omega)).mono ?_
        rintro e w6 ⟨v6, rfl, hv6, hb6⟩
        have L6 := L5.step hb6
        clear L5 hb6 c0 c1 c2 c3 c4 c5
        have Hv6 := Lib.hid hv6
        obtain ⟨A6, c6, rfl, _, _⟩ := hv6.form
        clear hv6
        generalize hq : addM l r = q at *
        obtain ⟨q1, q2⟩ := q
        have Hq := Lib.hid hq
        clear hq
        simp only at *
        obtain ⟨c0, c1, c2, c3, c4, c5⟩ := L6.c6 0 rfl
        go_wp2_with fail
        refine (radd_any Any l r _ _ _ (HS.out _) (H.out.below L6.below) (Hr.out.below L6.below) Hok.out (by omega)).mono ?_
        rintro e w7 ⟨v7, rfl, hv7, hb7⟩
        rw [Hq.out] at hv7 ⊢
        have L7 := L6.step hb7
        have Hv67 := Lib.hid (Hv6.out.below hb7)
        clear L6 hb7 c0 c1 c2 c3 c4 c5 Hv6
        have Hv7 := Lib.hid hv7
        obtain ⟨A7, c7, rfl, _, _⟩ := hv7.form
        clear hv7
        simp only
        go_wp2_with fail
        refine (same_any q2 q2 _).mono ?_
        rintro e w8 ⟨rfl, rfl⟩
        rw [beq_self_eq_true]
        go_wp2_with fail
        refine (samereqs_any Any q1 q1 _ _ _ Hv67.out Hv7.out).mono ?_
        rintro e w9 ⟨rfl, hb9⟩
        rw [sameLB_true.2 rfl]
        have L9 := L7.step hb9
        clear L7 hb9 Hv67 Hv7
        by_cases hne : 0 < l.length
        · have hne' : decide (0 < l.length) = true := by simpa using hne
          obtain ⟨k, hkl, hkv⟩ := pick_k n hne
          have hx : l[k]? = some l[k] := List.getElem?_eq_getElem hkl
          have Hx := Lib.hid hx
          clear hx
          generalize l[k] = x at *
          go_wp2_with fail
          refine (take_any Any l _ k x _ (H.out.below L9.below) (HS.out _) Hx.out (by omega)).mono ?_
          rintro e w10 ⟨v10, rv10, rfl, hown10, hrv10, hb10⟩
          have Hv10 := Lib.hid (hown10.at_ (HS.out _))
          have L10 := L9.step hb10
          have hrv := hrv10.more (S' := Any) (fun _ _ => trivial)
          obtain ⟨Xd, xd, Xt, xt, rfl, _, _, _, _, _, _, _⟩ := hrv.opened
          have Hrv := Lib.hid hrv
          obtain ⟨A10, c10, rfl, _, _⟩ := Hv10.out.form
          clear hown10 hrv10 hb10 hrv L9
          obtain ⟨b, off, rfl, _, _, _⟩ := H.out.at_ hne
          have hk1 : (k : Int) < (l.length : Int) := by omega
          have hkp : IntKind.i64.wrap ((k : Int) + 1) = (k : Int) + 1 := IntWalk.i64_in _ (by omega)
          have hp0 : (0 : Int) ≤ (k : Int) + 1 := by omega
          have hp1 : (k : Int) + 1 ≤ (l.length : Int) := by omega
          have hp2 : ((k : Int) + 1).toNat = k + 1 := by omega
          have hkc : k ≤ cap := by omega
          go_wp2_with fail
          have L11 := L10.alloc' w10.heap.size #[Value.bool x.write, Value.int IntKind.i64 x.lo, Value.int IntKind.i64 x.many, Value.slice Xd x.data.length xd, Value.slice Xt x.tags.length xt, Value.int IntKind.i64 x.born] 45 rfl
          have hbA := ((Below.refl _ _).alloc (Nat.le_refl _) _ : Below w10.heap.size w10 (w10.alloc (Obj.cells #[Value.bool x.write, Value.int IntKind.i64 x.lo, Value.int IntKind.i64 x.many, Value.slice Xd x.data.length xd, Value.slice Xt x.tags.length xt, Value.int IntKind.i64 x.born] 45)))
          have Hrv11 := Lib.hid (Hrv.out.below hbA)
          have Hv11 := Lib.hid (Hv10.out.below hbA)
          clear hbA
          generalize World.alloc _ _ = W at L11 Hrv11 Hv11 ⊢
          obtain ⟨i0, hi0, hz0, hz1, hz2⟩ := info_parts reqInfo
          obtain ⟨cs, hcs, hrd, hok⟩ := H.out
          have hlen : cs.length = l.length := by rw [← hcs, List.length_map]
          have Hone := Lib.hid (cells_one hok)
          have hrdW := hrd.below L11.below
          rw [hlen] at hrdW
          have HT := Lib.hid ((hrdW.take_ (k := k) (by omega)).below (w' := W.drew) (Below.refl _ _).drew)
          obtain ⟨X, hX, hR⟩ : ∃ X : Option Addr, (if cap = k + 1 then some (⟨b, off, none⟩ : Addr) else some ⟨b, off + (k + 1) * 6, none⟩) = X ∧ Hid (Rd Any W 6 (.slice X (l.length - (k + 1)) (cap - (k + 1))) (l.length - (k + 1)) ((cs.flatMap Rc.cells).drop ((k + 1) * 6))) := ⟨_, rfl, hrdW.drop_ hkl⟩
          have Hcs := Lib.hid hcs
          have Hlen := Lib.hid hlen
          have Hok' := Lib.hid hok
          clear hcs hrd hok hlen hrdW L10 Hrv Hv10
          go_region_law (first
            | (refine step_append_rd (S := Any) _ rfl (.const (.slice none 0 0)) (.tmp 75) 34 rfl W.heap.size 45 i0 _ 6 80 Try.underlying34 hi0 hz0 hz1 hz2 rfl (by omega) (.slice none 0 0) 0 [] rfl (World.ownsRow_nil _ _ _ _) (.slice (some ⟨b, off, none⟩) k cap) k ((cs.flatMap Rc.cells).take (k * 6)) (by simp [Act.eval, Act.put]) HT.out (fun u hu => Hone.out u (List.mem_of_mem_take hu)) (by simp only [maxLen]; omega) (by omega) (by simp) ?_; intro v1 w1 hown1 hg1 hat1; clear hat1; have hb1 := (Below.refl W.heap.size W).drew.grown hg1 (by simp) (fun k hk => by simp [Value.ownBlock] at hk); have e4 := hb1.size)
            | (refine step_append_rd (S := Any) _ rfl (.tmp 76) (.tmp 80) 34 rfl W.heap.size 45 i0 _ 6 80 Try.underlying34 hi0 hz0 hz1 hz2 rfl (by omega) v1 (0 + k) ([] ++ (cs.flatMap Rc.cells).take (k * 6)) (by simp [Act.eval, Act.put]) hown1 (.slice X (l.length - (k + 1)) (cap - (k + 1))) (l.length - (k + 1)) ((cs.flatMap Rc.cells).drop ((k + 1) * 6)) (by simp [Act.eval, Act.put, hX]) (hR.out.below hb1) (fun u hu => Hone.out u (List.mem_of_mem_drop hu)) (by simp only [maxLen]; omega) (by omega) e4 ?_; intro v2 w12 hown2 hg2 hat2; clear hat2; have hb2 := hb1.grown hg2 e4 (fun k hk => (hown1.lt k hk).1)))
          simp only [Nat.zero_add, List.nil_append] at hown2
          have L12 := L11.step hb2
          have hwant : ReqsAt Any w12 v2 (l.eraseIdx k) := by
            have e : l.eraseIdx k = (cs.take k ++ cs.drop (k + 1)).map (·.r) := by
              rw [← Hcs.out, List.eraseIdx_eq_take_drop_succ]; simp
            rw [e]
            refine reqs_of_own (base := W.heap.size) (e := 45) (fun b hb => trivial) ?_ (fun c hc => ?_)
            · have e2 : (cs.take k ++ cs.drop (k + 1)).length = k + (l.length - (k + 1)) := by have := Hlen.out; simp; omega
              rw [e2, List.flatMap_append, ← flat_take, ← flat_drop]
              exact hown2
            · have hc' : c ∈ cs := by
                rcases List.mem_append.1 hc with h | h
                · exact List.mem_of_mem_take h
                · exact List.mem_of_mem_drop h
              exact (Hok'.out c hc').below L12.below
          have Hwant := Lib.hid hwant
          obtain ⟨A2, c2', rfl, _, _⟩ := hwant.form
          have Hleft := Lib.hid (Hv11.out.below hb2)
          have Hone12 := Lib.hid (Hrv11.out.below hb2)
          clear hown2 hown1 hg1 hg2 hb1 hb2 hwant L11 HT hR hX e4 Hone Hcs Hlen Hok' Hv11 Hrv11
          obtain ⟨b', off', e, _, _, hc⟩ := (H.out.below L12.below).at_ hne
          cases e
          obtain ⟨Yd, yd, Yt, yt, hreq, k0, k1, k2, k3, k4, k5⟩ := hc k x Hx.out
          have Hreq := Lib.hid hreq
          clear hc hreq
          obtain ⟨d0, d1, d2, d3, d4, d5⟩ := L12.c6 0 rfl
          have k0 := cell_regrown k0
          have k1 := cell_regrown k1
          have k2 := cell_regrown k2
          have k3 := cell_regrown k3
          have k4 := cell_regrown k4
          have k5 := cell_regrown k5
          have d0 := cell_regrown d0
          have d1 := cell_regrown d1
          have d2 := cell_regrown d2
          have d3 := cell_regrown d3
          have d4 := cell_regrown d4
          have d5 := cell_regrown d5
          go_wp2_with fail
          refine wp_region_quiet_below mixed (by kernel_rfl) ?_
          repeat (quiet_step (first
            | (go_at_call 31; exact Calls.rg (same_lists (Hleft.out.below (below_regrown _ _ _)) (Hwant.out.below (below_regrown _ _ _))))
            | (go_at_call 33; exact Calls.rg (same_ones (Hone12.out.below (below_regrown _ _ _)) (Hreq.out.below (below_regrown _ _ _))))))
          refine wpQuiet_nil ?_
          intro _ hw'
          obtain ⟨⟨dq, osq⟩, hw''⟩ := hw'
          subst hw''
          have hT := L12.below.trans (Below.mono (below_regrown w12 dq osq) L12.size)
          generalize grow (redrawn w12 dq) osq = w13 at hT ⊢
          clear k0 k1 k2 k3 k4 k5 d0 d1 d2 d3 d4 d5
          go_wp2_with (first
            | (go_at_call 34; refine (oldest_any Any l _ _ _ (H.out.below hT)).mono ?_; rintro e u1 ⟨rfl, hu1⟩; have hT1 := hT.trans (hu1.mono hT.size); clear hT hu1; have hT := hT1; clear hT1)
            | (go_at_call 35; refine (roldest_any Any l _ _ _ (H.out.below hT)).mono ?_; rintro e u1 ⟨rfl, hu1⟩; have hT1 := hT.trans (hu1.mono hT.size); clear hT hu1; have hT := hT1; clear hT1)
            | (go_at_call 36; refine (from_any Any l _ _ _ _ (H.out.below hT)).mono ?_; rintro e u1 ⟨rfl, hu1⟩; have hT1 := hT.trans (hu1.mono hT.size); clear hT hu1; have hT := hT1; clear hT1)
            | (go_at_call 37; refine (rfrom_any Any l _ _ _ _ (H.out.below hT)).mono ?_; rintro e u1 ⟨rfl, hu1⟩; have hT1 := hT.trans (hu1.mono hT.size); clear hT hu1; have hT := hT1; clear hT1))
          go_ret
          exact ⟨rfl, hT⟩
        · have hne' : decide (0 < l.length) = false := by simpa using hne
          have hT := L9.below
          go_wp2_with (first
            | (go_at_call 34; refine (oldest_any Any l _ _ _ (H.out.below hT)).mono ?_; rintro e u1 ⟨rfl, hu1⟩; have hT1 := hT.trans (hu1.mono hT.size); clear hT hu1; have hT := hT1; clear hT1)
            | (go_at_call 35; refine (roldest_any Any l _ _ _ (H.out.below hT)).mono ?_; rintro e u1 ⟨rfl, hu1⟩; have hT1 := hT.trans (hu1.mono hT.size); clear hT hu1; have hT := hT1; clear hT1)
            | (go_at_call 36; refine (from_any Any l _ _ _ _ (H.out.below hT)).mono ?_; rintro e u1 ⟨rfl, hu1⟩; have hT1 := hT.trans (hu1.mono hT.size); clear hT hu1; have hT := hT1; clear hT1)
            | (go_at_call 37; refine (rfrom_any Any l _ _ _ _ (H.out.below hT)).mono ?_; rintro e u1 ⟨rfl, hu1⟩; have hT1 := hT.trans (hu1.mono hT.size); clear hT hu1; have hT := hT1; clear hT1))
          go_ret
          exact ⟨rfl, hT⟩
end Go.Proofs.Ytfklcfpkbnddfaa
