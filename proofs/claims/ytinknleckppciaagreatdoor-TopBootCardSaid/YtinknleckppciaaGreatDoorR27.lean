/- held: does a request for a sector wait, or has the disk one? Queue, Busy, Got. -/
import Derived.Test.YtinknleckppciaaGreatDoorR25
import Derived.Test.YtinknleckppciaaGreatDoorR13
import Derived.Test.YtinknleckppciaaGreatDoorR26
namespace Go.Proofs.YtinknleckppciaaGreatDoor
set_option linter.unusedSimpArgs false
set_option linter.unusedVariables false
open Go.RowKit Go.Sort

def hasR (p : Int) (x : Rq) : Bool := hasB x.lo x.many p
set_option maxRecDepth 100000 in
theorem held1_any (S : Nat → Prop) (x : Rq) (v : Value) (B : Nat) (T : TypeId) (p : Int) (w : World) (h : ReqAt S w v x) (hB : w.heap[B]? = some (.cells #[.int .i64 p] T (0, 0))) (hx : SpanOk x.lo x.many 4) (hp : 0 ≤ p ∧ p ≤ 31) :
    Calls Tryz.prog 67 #[v, .pointer (some ⟨B, 0, none⟩)] w (Ret (.bool (hasR p x)) w) := by
  obtain ⟨Ad, cd, At, ct, rfl, _, _, _, _, _, _, _⟩ := h.opened
  obtain ⟨a1, a2, a3, a4, a5⟩ := hx
  obtain ⟨b1, b2⟩ := hp
  have hlt : B < w.heap.size := by
    rcases Nat.lt_or_ge B w.heap.size with h | h
    · exact h
    · rw [Array.getElem?_eq_none h] at hB; cases hB
  have c0 : ∀ o, (w.alloc o).cell? ⟨B, 0, none⟩ = some (.int .i64 p) := fun o => cell_of_row _ _ 0 _ _ _ ((Below.heap_alloc _ _ _ hlt).trans hB)
  clear hB h
  go_enter Tryz.func67, Tryz.ntmps67
  go_wp2_with fail
  refine (has_any x.lo x.many p _ a1 (by omega) (by omega) (by omega)).mono ?_
  rintro e w1 ⟨rfl, hb1⟩
  go_wp2
  go_ret
  exact ⟨rfl, ((Below.refl _ _).alloc (Nat.le_refl _) _).trans (hb1.mono (by simp))⟩
set_option maxRecDepth 100000 in
theorem index3_any (S : Nat → Prop) (l : List Rq) (v : Value) (B : Nat) (T : TypeId) (p : Int) (w : World) (h : ReqsAt S w v l) (hB : w.heap[B]? = some (.cells #[.int .i64 p] T (0, 0))) (hl : ∀ x ∈ l, SpanOk x.lo x.many 4) (hr : 0 ≤ p ∧ p ≤ 31) :
    Calls Tryz.prog 98 #[v, .func (.func 67) #[] #[.pointer (some ⟨B, 0, none⟩)]] w (RetIdxB (fun n => idxTells n (l.any (hasR p))) w) := by
  obtain ⟨A, cap, rfl, h1, h2⟩ := h.form
  unfold maxLen at h2
  have Hl := Lib.hid h
  have HB := Lib.hid hB
  have Hs := Lib.hid hl
  have Hr := Lib.hid hr
  have hlt : B < w.heap.size := by
    rcases Nat.lt_or_ge B w.heap.size with h | h
    · exact h
    · rw [Array.getElem?_eq_none h] at hB; cases hB
  clear h hB hl hr
  go_enter Tryz.func98, Tryz.ntmps98
  go_wp2
  go_loopw [8] (fun i wr => ∃ k : Nat, k ≤ l.length ∧ i = .int .i64 k ∧ Below w.heap.size w wr ∧ Hid ((l.take k).any (hasR p) = false)) (fun i _ => l.length - (intOf i).toNat)
  case atStart => exact ⟨0, by omega, rfl, Below.refl _ _, rfl⟩
  case round =>
    obtain ⟨k, hk, rfl, hw, hall⟩ := hrel
    by_cases hlt : k < l.length
    · obtain ⟨b, off, rfl, _, hb, hc⟩ := (Hl.out.below hw).at_ (by omega)
      have hx : l[k]? = some l[k] := List.getElem?_eq_getElem hlt
      obtain ⟨Ad, cd, At, ct, hok, k0, k1, k2, k3, k4, k5⟩ := hc k _ hx
      have Hok := Lib.hid hok
      clear hc hok
      have Hx := Lib.hid hx
      clear hx
      generalize l[k] = s at *
      have Hsx := Lib.hid (Hs.out s (List.mem_of_getElem? Hx.out))
      go_wp2_with fail
      refine (held1_any S s _ B T p _ Hok.out ((hw.block _ (by assumption)).trans HB.out) Hsx.out Hr.out).mono ?_
      rintro e w1 ⟨rfl, hb1⟩
      have hw1 := hw.trans (hb1.mono hw.size)
      clear k0 k1 k2 k3 k4 k5 hb1
      cases hs : hasR p s with
      | false =>
        have Hm := Lib.hid hs
        clear hs
        go_wp2_with fail
        go_roundw
        case rel => exact ⟨k + 1, by omega, by go_num, hw1, by show _ = false; rw [any_take_succ _ _ _ _ Hx.out, hall.out, Hm.out]; rfl⟩
        case measure => simp [intOf]; omega
      | true =>
        have Hm := Lib.hid hs
        clear hs
        go_wp2_with fail
        go_ret
        refine ⟨k, rfl, ?_, hw1⟩
        rw [any_yes _ _ _ _ Hx.out Hm.out]
        simp [idxTells]
    · go_wp2
      go_ret
      refine ⟨-1, rfl, ?_, hw⟩
      rw [any_end _ _ _ (by omega) hall.out]
      simp [idxTells]
theorem contains3_any (S : Nat → Prop) (l : List Rq) (v : Value) (B : Nat) (T : TypeId) (p : Int) (w : World) (h : ReqsAt S w v l) (hB : w.heap[B]? = some (.cells #[.int .i64 p] T (0, 0))) (hl : ∀ x ∈ l, SpanOk x.lo x.many 4) (hr : 0 ≤ p ∧ p ≤ 31) :
    Calls Tryz.prog 69 #[v, .func (.func 67) #[] #[.pointer (some ⟨B, 0, none⟩)]] w (Ret (.bool (l.any (hasR p))) w) := by
  go_enter Tryz.func69, Tryz.ntmps69
  go_wp2_with fail
  refine (index3_any S l _ B T p _ h hB hl hr).mono ?_
  rintro e w1 ⟨n, rfl, hn, hb1⟩
  go_wp2_with fail
  go_ret
  refine ⟨?_, hb1⟩
  cases hb : (l.any (hasR p)) with
  | true => rw [hb] at hn; have := hn.2 rfl; simp [this]
  | false => rw [hb] at hn; have : ¬ 0 ≤ n := fun h => by cases hn.1 h
             simp; omega
section
variable {S S' : Nat → Prop} {w w' : World} {v : Value}
/-- What a callee made is nobody's to write. -/
theorem Im.of {T : Tys} {col : Nat → Nat} {b bd N : Nat} {x : Sv} {s : St} (h : StAt T col w b bd N x s) (hs : w.heap.size ≤ w'.heap.size) : ∀ k, ((Im w col k ∨ w.heap.size ≤ k) ∧ k < w'.heap.size) → Im w' col k := fun k hk => by
  refine ⟨hk.2, ?_⟩
  rcases hk.1 with h1 | h1
  · exact h1.2
  · rcases Nat.eq_zero_or_pos (col k) with h2 | h2
    · exact h2
    · have := h.lt k (by omega); omega
end
/-- It returns a list of requests; nothing that was there was written. -/
def RetReqs (S : Nat → Prop) (l : List Rq) (w : World) : Ending → World → Prop := fun e w' => ∃ v, e = .returned v ∧ ReqsAt (fun b => S b ∨ w.heap.size ≤ b) w' v l ∧ Below w.heap.size w w'
set_option maxRecDepth 100000 in
set_option maxHeartbeats 1000000 in
theorem stbusy_any (col : Nat → Nat) (w : World) (b bd N : Nat) (x : Sv) (s : St) (h : StAt Ts col w b bd N x s) (h2 : s.v.d.l.length ≤ 2) :
    Calls Tryz.prog 31 #[.pointer (some ⟨b, 0, none⟩)] w (RetReqs (Im w col) s.v.d.l w) := by
  have c0 : w.cell? ⟨b, 0, none⟩ = some (.pointer (some ⟨bd, 0, none⟩)) := h.cell 0
  have H := Lib.hid h
  clear h
  go_enter Tryz.func31, Tryz.ntmps31
  go_wp2_with fail
  refine (devbusy_any _ _ _ bd _ H.out.drv.dev h2).mono ?_
  rintro e w1 ⟨v1, rfl, hv1, hb1⟩
  go_wp2_with fail
  go_ret
  exact ⟨v1, rfl, hv1, hb1⟩
set_option maxRecDepth 100000 in
set_option maxHeartbeats 1000000 in
theorem stqueue_any (col : Nat → Nat) (w : World) (b bd N : Nat) (x : Sv) (s : St) (h : StAt Ts col w b bd N x s) (h6 : s.wait.length ≤ 6) :
    Calls Tryz.prog 30 #[.pointer (some ⟨b, 0, none⟩)] w (RetReqs (Im w col) s.wait w) := by
  have c3 : w.cell? ⟨b, 3, none⟩ = some x.wait := h.cell 3
  obtain ⟨cs, hcs, hrd, hok⟩ := h.wait
  have hlen : cs.length ≤ 65536 := by have : s.wait.length = cs.length := by rw [← hcs, List.length_map]
                                      omega
  have hone : ∀ u ∈ cs.flatMap Rc.cells, u.oneCell' = true := fun u hu => by
    obtain ⟨c, hc, hu⟩ := List.mem_flatMap.1 hu
    exact rc_one _ (hok c hc) u hu
  have Hrd := Lib.hid hrd
  have Hok := Lib.hid hok
  have Hcs := Lib.hid hcs
  clear h hrd hok hcs
  go_enter Tryz.func30, Tryz.ntmps30
  go_wp2_with fail
  refine (clone_any _ _ cs.length _ _ Hrd.out hone hlen).mono ?_
  rintro e w1 ⟨v1, rfl, hown, hb1⟩
  have Hown := Lib.hid hown
  clear hown
  go_wp2_with fail
  go_ret
  exact ⟨v1, rfl, ⟨cs, Hcs.out, Rd.of_own w1 (fun k hk => .inr hk) Hown.out, fun c hc => ((Hok.out c hc).below hb1).more (fun k hk => .inl hk)⟩, hb1⟩
set_option maxRecDepth 100000 in
set_option maxHeartbeats 1000000 in
theorem held_any (col : Nat → Nat) (w : World) (b bd N : Nat) (x : Sv) (s : St) (p : Int) (h : StAt Ts col w b bd N x s) (hw : ∀ r ∈ s.wait, SpanOk r.lo r.many 4) (hl : ∀ r ∈ s.v.d.l, SpanOk r.lo r.many 4) (h2 : s.v.d.l.length ≤ 2) (hp : 0 ≤ p ∧ p ≤ 31) :
    Calls Tryz.prog 42 #[.pointer (some ⟨b, 0, none⟩), .int .i64 p] w (Ret (.bool (s.heldP p)) w) := by
  have H := Lib.hid h
  have Hw := Lib.hid hw
  have Hl := Lib.hid hl
  have Hp := Lib.hid hp
  have e : s.heldP p = (s.wait.any (hasR p) || s.v.d.l.any (hasR p)) := rfl
  have He := Lib.hid e
  rw [e]
  clear h hw hl hp e
  obtain ⟨n0, hn0⟩ : ∃ n, w.heap.size = n := ⟨_, rfl⟩
  have hb0 := (Below.refl w.heap.size w).alloc (Nat.le_refl _) (.cells #[.int .i64 p] 3)
  have hrow := heap_alloc_new w (.cells #[.int .i64 p] 3)
  rw [hn0] at hrow
  have H1 := Lib.hid (H.out.below hb0)
  have c3 := H1.out.cell 3
  have c0 := H1.out.cell 0
  rw [show (x.row s bd)[3]? = some x.wait from rfl] at c3
  rw [show (x.row s bd)[0]? = some (.pointer (some ⟨bd, 0, none⟩)) from rfl] at c0
  have Hb0 := Lib.hid hb0
  have Hrow := Lib.hid hrow
  clear hb0 hrow
  cases hA : s.wait.any (hasR p) with
  | true =>
    go_enter Tryz.func42, Tryz.ntmps42
    go_wp2_with fail
    refine (contains3_any _ s.wait _ n0 3 p _ H1.out.wait Hrow.out Hw.out Hp.out).mono ?_
    rw [hA]
    rintro e w1 ⟨rfl, hb1⟩
    clear c3 c0
    go_wp2_with fail
    go_ret
    exact ⟨rfl, Hb0.out.trans (hb1.mono Hb0.out.size)⟩
  | false =>
    go_enter Tryz.func42, Tryz.ntmps42
    go_wp2_with fail
    refine (contains3_any _ s.wait _ n0 3 p _ H1.out.wait Hrow.out Hw.out Hp.out).mono ?_
    rw [hA]
    rintro e w1 ⟨rfl, hb1⟩
    have H2 := Lib.hid (H1.out.below hb1)
    have Hb1 := Lib.hid hb1
    clear c3 c0 hb1
    have c0 := H2.out.cell 0
    rw [show (x.row s bd)[0]? = some (.pointer (some ⟨bd, 0, none⟩)) from rfl] at c0
    go_wp2_with fail
    refine (devbusy_any _ _ _ bd _ H2.out.drv.dev h2).mono ?_
    rintro e w2 ⟨v2, rfl, hv2, hb2⟩
    have Hv2 := Lib.hid hv2
    have Hr2 := Lib.hid ((hb2.block _ (Array.getElem?_eq_some_iff.1 ((Hb1.out.block _ (Array.getElem?_eq_some_iff.1 Hrow.out).1).trans Hrow.out)).1).trans ((Hb1.out.block _ (Array.getElem?_eq_some_iff.1 Hrow.out).1).trans Hrow.out))
    have Hb2 := Lib.hid hb2
    clear hv2 hb2 c0
    go_wp2_with fail
    refine (contains3_any _ s.v.d.l _ n0 3 p _ Hv2.out Hr2.out Hl.out Hp.out).mono ?_
    rintro e w3 ⟨rfl, hb3⟩
    have hb4 := Hb0.out.trans ((Hb1.out.trans ((Hb2.out.trans (hb3.mono Hb2.out.size)).mono Hb1.out.size)).mono Hb0.out.size)
    clear hb3
    go_wp2_with fail
    go_ret
    exact ⟨rfl, hb4⟩
/-- The method value s.held tells who is held. -/
theorem held_by (col : Nat → Nat) (w : World) (b bd N : Nat) (x : Sv) (s : St) (h : StAt Ts col w b bd N x s) (hi : ∀ r ∈ s.wait ++ s.v.d.l, ReqOk r) (h2 : s.v.d.l.length ≤ 2) : HeldBy w 42 #[.pointer (some ⟨b, 0, none⟩)] #[] s.heldP :=
  ⟨enters Tryz.func42 (by kernel_rfl) rfl, fun w' p hb h0 h1 => held_any col w' b bd N x s p (h.below hb) (fun r hr => (hi r (List.mem_append.2 (.inl hr))).span) (fun r hr => (hi r (List.mem_append.2 (.inr hr))).span) h2 ⟨h0, h1⟩⟩
def Sv.dn (x : Sv) : Nat → ByteArray
  | 0 => x.d0
  | 1 => x.d1
  | _ => x.d2
def Sv.er (x : Sv) : Nat → Nat
  | 0 => x.e0
  | 1 => x.e1
  | _ => x.e2
theorem StAt.got_eq {T : Tys} {col : Nat → Nat} {w : World} {b bd N : Nat} {x : Sv} {s : St} (h : StAt T col w b bd N x s) {c : Nat} (hc : c < 3) : s.got c = if x.er c = 0 then (x.dn c, 0) else (noB, x.er c) := by
  unfold St.got
  rw [h.done, h.errs]
  match c, hc with | 0, _ => rfl | 1, _ => rfl | 2, _ => rfl
set_option maxRecDepth 100000 in
set_option maxHeartbeats 1000000 in
theorem got_any (col : Nat → Nat) (w : World) (b bd N : Nat) (x : Sv) (s : St) (c : Nat) (h : StAt Ts col w b bd N x s) (hc : c < 3) :
    Calls Tryz.prog 17 #[.pointer (some ⟨b, 0, none⟩), .int .i64 (c : Int)] w (Ret (.tuple #[.string (s.got c).1, errV (s.got c).2]) w) := by
  rw [h.got_eq hc]
  match c, hc with
  | 0, _ =>
    have c1 : w.cell? ⟨b, 14, none⟩ = some (.string (x.dn 0)) := h.cell 14
    have c2 : w.cell? ⟨b, 17, none⟩ = some (.int .i64 (x.er 0 : Int)) := h.cell 17
    clear h
    generalize x.dn 0 = D at *
    generalize x.er 0 = E at *
    by_cases he : E = 0
    · subst he
      go_enter Tryz.func17, Tryz.ntmps17
      go_wp2_with fail
      go_ret2
      exact ⟨rfl, Below.refl _ _⟩
    · have hne : ((E : Int) != 0) = true := by simp; omega
      rw [if_neg he, errV_pos he]
      go_enter Tryz.func17, Tryz.ntmps17
      go_wp2_with fail
      go_quiet (fail)
      go_wp2_with fail
      go_ret2
      exact ⟨rfl, belowN (Below.refl _ _) _⟩
  | 1, _ =>
    have c1 : w.cell? ⟨b, 15, none⟩ = some (.string (x.dn 1)) := h.cell 15
    have c2 : w.cell? ⟨b, 18, none⟩ = some (.int .i64 (x.er 1 : Int)) := h.cell 18
    clear h
    generalize x.dn 1 = D at *
    generalize x.er 1 = E at *
    by_cases he : E = 0
    · subst he
      go_enter Tryz.func17, Tryz.ntmps17
      go_wp2_with fail
      go_ret2
      exact ⟨rfl, Below.refl _ _⟩
    · have hne : ((E : Int) != 0) = true := by simp; omega
      rw [if_neg he, errV_pos he]
      go_enter Tryz.func17, Tryz.ntmps17
      go_wp2_with fail
      go_quiet (fail)
      go_wp2_with fail
      go_ret2
      exact ⟨rfl, belowN (Below.refl _ _) _⟩
  | 2, _ =>
    have c1 : w.cell? ⟨b, 16, none⟩ = some (.string (x.dn 2)) := h.cell 16
    have c2 : w.cell? ⟨b, 19, none⟩ = some (.int .i64 (x.er 2 : Int)) := h.cell 19
    clear h
    generalize x.dn 2 = D at *
    generalize x.er 2 = E at *
    by_cases he : E = 0
    · subst he
      go_enter Tryz.func17, Tryz.ntmps17
      go_wp2_with fail
      go_ret2
      exact ⟨rfl, Below.refl _ _⟩
    · have hne : ((E : Int) != 0) = true := by simp; omega
      rw [if_neg he, errV_pos he]
      go_enter Tryz.func17, Tryz.ntmps17
      go_wp2_with fail
      go_quiet (fail)
      go_wp2_with fail
      go_ret2
      exact ⟨rfl, belowN (Below.refl _ _) _⟩
end Go.Proofs.YtinknleckppciaaGreatDoor
