/- The law TopRight: its walk. A region that draws its order, some of whose operations are guarded: as RegEv, without events. The disk crashes: (*Device).Crash, both. The law TopSync: its walk. gen_lawsync.py prints this text. For all lists of steps and all masks: the law TopSync returns true, and its arguments read as they did. No condition. -/
import Derived.Test.YtojmnfelecnenaaQ16
import Derived.Test.YtojmnfelecnenaaQ8
import Derived.Test.YtojmnfelecnenaaQ4
import Derived.Test.YtojmnfelecnenaaQ14
import Derived.Test.YtojmnfelecnenaaQ1
namespace Go.Proofs.Ytojmnfelecnenaa
set_option linter.unusedSimpArgs false
set_option linter.unusedVariables false
open Go.RowKit Go.Sort

def vs0 : List Value := List.replicate 32 (.slice none 0 0)
def al0 : Al := ⟨List.replicate 32 noB, List.replicate 32 [], 0, 0, noB⟩
theorem getD_replicate {α : Type} {n i : Nat} {x d : α} : (List.replicate n x).getD i d = if i < n then x else d := by
  rw [List.getD_eq_getElem?_getD, List.getElem?_replicate]
  split <;> rfl
/-- A new block of the colour 9. -/
theorem StAt.paint {T : Tys} {col : Nat → Nat} {w w' : World} {b bd N n : Nat} {x : Sv} {s : St} (h : StAt T col w b bd N x s) (hb : Below w.heap.size w w') (hlt : n < w'.heap.size) (hn : w.heap.size ≤ n) : StAt T (fun k => if k = n then 9 else col k) w' b bd N x s := by
  have h0 : col n = 0 := h.s0 n hn
  have hF : Fd (fun k => if k = n then 9 else col k) = Fd col := funext fun k => propext ⟨fun hk => by
    have hk : (if k = n then 9 else col k) = 4 := hk
    split at hk
    · cases hk
    · exact hk, fun hk => by
    show (if k = n then 9 else col k) = 4
    have hk : col k = 4 := hk
    rw [if_neg (fun e => by rw [e, h0] at hk; cases hk)]; exact hk⟩
  have hA : ∀ c, c < 3 → Fa (fun k => if k = n then 9 else col k) c = Fa col c := fun c hc => funext fun k => propext ⟨fun hk => by
    have hk : (if k = n then 9 else col k) = 5 + c := hk
    split at hk
    · omega
    · exact hk, fun hk => by
    show (if k = n then 9 else col k) = 5 + c
    have hk : col k = 5 + c := hk
    rw [if_neg (fun e => by rw [e, h0] at hk; omega)]; exact hk⟩
  have him : ∀ k, Im w col k → Im w' (fun k => if k = n then 9 else col k) k := fun k hk => ⟨Nat.lt_of_lt_of_le hk.1 hb.size, by
    show (if k = n then 9 else col k) = 0
    rw [if_neg (by have := hk.1; omega)]; exact hk.2⟩
  have hc : ∀ {j m : Nat}, col j = m → m ≠ 0 → (if j = n then 9 else col j) = m := fun {j m} hj hm => by
    rw [if_neg (fun e => by rw [e, h0] at hj; exact hm hj.symm)]; exact hj
  have hnv : ∀ k, Im w' (fun k => if k = n then 9 else col k) k → k ≠ x.bv ∧ k ≠ x.bt := by
    intro k hk
    have h1 : (if k = n then 9 else col k) = 0 := hk.2
    refine ⟨fun e => ?_, fun e => ?_⟩
    · rw [e, hc h.cv (by decide)] at h1; omega
    · rw [e, hc h.ct (by decide)] at h1; omega
  refine ⟨(hb.block _ (Array.getElem?_eq_some_iff.1 h.row).1).trans h.row, ?_, h.n, (h.bufs.below hb).more him, (h.wait.below hb).more him, h.asks, fun c hc3 => ?_, h.done, h.errs, hc h.cb (by decide), hc h.cv (by decide), hc h.ct (by decide), fun k hk => ?_⟩
  · rw [hF]
    exact (h.drv.below hb).more him hnv
  · rw [hA c hc3]
    exact (h.ask c hc3).keep (fun k _ hk => hb.block k hk)
  · have hk : (if k = n then 9 else col k) ≠ 0 := hk
    split at hk
    · rename_i e; rw [e]; exact hlt
    · exact Nat.lt_of_lt_of_le (h.lt k hk) hb.size
theorem Alst.new {W0 w : World} {col : Nat → Nat} {b bd N : Nat} {K : Int} {x : Sv} {s : St} (h : Lst W0 w col b bd N K x s []) :
    ∃ col', Alst W0 (w.alloc (.cells (alRow b bd al0 vs0).toArray tAl)) col' b bd N K x s w.heap.size 1 al0 := by
  have hb := (Below.refl w.heap.size w).alloc (Nat.le_refl _) (.cells (alRow b bd al0 vs0).toArray tAl)
  have hl : w.heap.size < (w.alloc (.cells (alRow b bd al0 vs0).toArray tAl)).heap.size := by simp
  refine ⟨fun k => if k = w.heap.size then 9 else col k, ⟨⟨h.st.paint hb hl (Nat.le_refl _), h.inv, h.bnd, h.k0, h.below.trans (hb.mono h.below.size), fun k hk => ?_, by simp⟩, ⟨⟨vs0, heap_alloc_new _ _, rfl, fun i v hv => ?_⟩, rfl, rfl, fun i => ?_, ⟨by decide, by decide⟩, by decide, fun i => ?_⟩, if_pos rfl, h.below.size⟩⟩
  · obtain ⟨h1, h2⟩ := hk
    have h1 : (if k = w.heap.size then 9 else col k) ≠ 0 := h1
    have h2 : (if k = w.heap.size then 9 else col k) ≠ 9 := h2
    split at h1
    · rename_i e; rw [if_pos e] at h2; exact absurd rfl h2
    · rename_i e; rw [if_neg e] at h2; exact h.own k ⟨h1, h2⟩
  · have : v = .slice none 0 0 := by
      unfold vs0 at hv
      rw [List.getElem?_replicate] at hv
      split at hv
      · exact (Option.some.inj hv).symm
      · cases hv
    subst this
    have e : al0.since.getD i [] = [] := by show (List.replicate 32 []).getD i [] = []; rw [getD_replicate]; split <;> rfl
    rw [e]
    exact strs_nil _ _
  · have e : al0.since.getD i [] = [] := by show (List.replicate 32 []).getD i [] = []; rw [getD_replicate]; split <;> rfl
    rw [e]; simp
  · have e : al0.now.getD i noB = noB := by show (List.replicate 32 noB).getD i noB = noB; rw [getD_replicate]; split <;> rfl
    rw [e]; decide
theorem js0 : JS st0 := by
  refine ⟨inv0, ⟨rfl, rfl⟩, fun a ha => ?_, fun p d hp => ?_⟩
  · have : st0.askAt 0 = none := rfl
    rw [this] at ha; cases ha
  · have : atB st0.bufs p = none := rfl
    rw [this] at hp; cases hp
theorem alok0 : AlOk false st0 al0 := by
  refine ⟨js0, rfl, rfl, fun p hp => ?_, .inl ⟨rfl, rfl⟩, fun h => by cases h⟩
  have e : curS st0 (p : Int) = nowAt st0 p := rfl
  rw [e]
  rfl
set_option maxRecDepth 100000 in
set_option maxHeartbeats 2000000 in
theorem right_walk (l : List Sp) (v : Value) (w : World) (h : StepsAt Any w v l) : Calls Try.prog 5 #[v] w (Ret (.bool true) w) := by
  obtain ⟨A, cap, rfl, hcl, hcap⟩ := h.form
  have H := Lib.hid h
  unfold maxLen at hcap
  clear h
  go_enter Try.func5, Try.ntmps5
  go_wp2_with fail
  refine (works_any w).mono ?_
  rintro e w0 ⟨rfl, hb0⟩
  have HB0 := Lib.hid hb0
  clear hb0
  go_wp2_with fail
  refine (lightsteps_any Any l _ 120 w0 (H.out.below HB0.out) (by omega)).mono ?_
  rintro e w1 ⟨rfl, rfl⟩
  cases hl : lightSp l 120 with
  | false =>
    clear hl
    go_wp2_with fail
    go_ret
    exact ⟨rfl, HB0.out⟩
  | true =>
    have hlen := lightSp_len hl
    clear hl
    go_wp2_with fail
    refine (devnew_any w0).mono ?_
    rintro e w1 ⟨rfl, hd1, hb1, hs1⟩
    go_wp2_with fail
    refine (stnew_any (fun _ => False) (fun k => k = w0.heap.size) w1 w0.heap.size Dv.new (hd1 _) (fun k hk => by omega) (fun k hk => hk.elim) (fun k hk => hk.elim)).mono ?_
    rintro e w2 ⟨b, col, y, rfl, hst, hb2, hfl, _⟩
    have hL := Lst.begin HB0.out (hd1 _) hb1 hs1 hst hb2 hfl
    obtain ⟨bd, hbd⟩ : ∃ n, w0.heap.size = n := ⟨_, rfl⟩
    rw [hbd] at hL ⊢
    obtain ⟨col3, hA3⟩ := Alst.new hL
    clear hd1 hb1 hs1 hst hb2 hfl hL hbd
    go_wp2_with fail
    change Code.wp _ _ _ _ (w2.alloc (.cells (alRow b bd al0 vs0).toArray tAl))
    have H3 := Lib.hid hA3
    obtain ⟨ba, hba⟩ : ∃ ba, w2.heap.size = ba := ⟨_, rfl⟩
    rw [hba] at H3 ⊢
    clear hA3 hba
    generalize w2.alloc (.cells (alRow b bd al0 vs0).toArray tAl) = w3 at H3 ⊢
    go_loopw [6, 7] (fun i _ wr => ∃ (k : Nat) (col : Nat → Nat) (y : Sv) (s : St) (A : Al), k ≤ l.length ∧ i = .int .i64 k ∧ Hid (Alst w wr col b bd k (15 * (k : Int)) y s ba (k + 1) A) ∧ Hid (AlOk false s A)) (fun i _ _ => l.length - (intOf i).toNat)
    case atStart => exact ⟨0, col3, y, st0, al0, by omega, rfl, H3.out, alok0⟩
    case round =>
      obtain ⟨k, col, y, s, A, hk, rfl, HL, HA⟩ := hrel
      by_cases hlt : k < l.length
      · have hlt2 : (k : Int) < (l.length : Int) := by omega
        have hst := H.out.below HL.out.lst.below
        obtain ⟨g, off, z, rfl, hgl, hx, c0, c1, c2, c3⟩ := hst.cells hlt
        have hok := hst.2 z (List.mem_of_getElem? hx)
        clear hst hx
        go_wp2_with fail
        refine (alstep_any w wr col b bd k (15 * (k : Int)) y s ba (k + 1) A z false HL.out HA.out hok.b hok.data (by omega) (by omega) (by omega)).mono ?_
        rintro e w4 ⟨rfl, col4, y4, h4⟩
        have H4 : Hid (Alst w w4 col4 b bd (k + 1) (15 * ((k + 1 : Nat) : Int)) y4 (alStep s A z).1 ba (k + 1 + 1) (alStep s A z).2) := by
          have e : 15 * (k : Int) + 15 = 15 * ((k + 1 : Nat) : Int) := by omega
          rw [← e]; exact h4
        have HA4 := Lib.hid (HA.out.step z)
        clear h4 c0 c1 c2 c3 hok
        go_wp2_with fail
        go_roundw
        case rel => exact ⟨k + 1, col4, y4, _, _, by omega, by go_num, H4.out, HA4.out⟩
        case measure => simp [intOf]; omega
      · obtain rfl : k = l.length := by omega
        have hlt2 : ¬ (l.length : Int) < (l.length : Int) := by omega
        go_wp2_with fail
        go_ret
        exact ⟨rfl, HL.out.lst.below⟩
end Go.Proofs.Ytojmnfelecnenaa
namespace Go.Proofs.Ytojmnfelecnenaa
set_option linter.unusedSimpArgs false
set_option linter.unusedVariables false
open Go

section
variable {P : Program}
def boolOf : Value → Option Bool
  | .bool b => some b
  | _ => none
/-- As regB, and a guarded operation waits for its guard. -/
def regGB (n : Nat) (ops : List Oper) : Bool :=
  (regB n (ops.map fun o => { o with guard := none })) && ops.all fun o => match o.guard with
    | none => true
    | some (k, _) => o.after.toList.any (fun e => Region.binds .any e && e.on == k)
structure RegGOk (n : Nat) (ops : List Oper) : Prop where
  dst : ∀ (i : Nat) (o : Oper) (d : Tmp), ops[i]? = some o → o.dst = some d → d < n
  order : ∀ (i : Nat) (o : Oper) (e : Edge), ops[i]? = some o → e ∈ o.after → Region.binds .any e = true → e.on < i
  waits : ∀ (i : Nat) (o : Oper) (j : Nat) (oj : Oper) (d : Tmp), ops[i]? = some o → ops[j]? = some oj → oj.dst = some d → d ∈ tmpsOf o → ∃ e ∈ o.after, Region.binds .any e = true ∧ e.on = j
  once : ∀ (i : Nat) (o : Oper) (j : Nat) (oj : Oper) (d : Tmp), ops[i]? = some o → ops[j]? = some oj → o.dst = some d → oj.dst = some d → j = i
  guards : ∀ (i : Nat) (o : Oper) (k : Nat) (want : Bool), ops[i]? = some o → o.guard = some (k, want) → ∃ e ∈ o.after, Region.binds .any e = true ∧ e.on = k
theorem regGB_ok {n : Nat} {ops : List Oper} (h : regGB n ops = true) : RegGOk n ops := by
  unfold regGB at h
  rw [Bool.and_eq_true, List.all_eq_true] at h
  obtain ⟨h1, h2⟩ := h
  have hR := regB_ok h1
  have hm : ∀ {i : Nat} {o : Oper}, ops[i]? = some o → (ops.map fun o => { o with guard := none })[i]? = some { o with guard := none } := fun {i o} hi => by rw [List.getElem?_map, hi]; rfl
  refine ⟨fun i o d hi hd => hR.dst i _ d (hm hi) hd, fun i o e hi he hb => hR.order i _ e (hm hi) he hb, fun i o j oj d hi hj hd hr => hR.waits i { o with guard := none } j { oj with guard := none } d (hm hi) (hm hj) hd hr, fun i o j oj d hi hj hd hdj => hR.once i { o with guard := none } j { oj with guard := none } d (hm hi) (hm hj) hd hdj, fun i o k want hi hg => ?_⟩
  have h3 := h2 o (List.mem_of_getElem? hi)
  rw [hg] at h3
  simp only [List.any_eq_true, Bool.and_eq_true, beq_iff_eq] at h3
  obtain ⟨e, he, hb, hk⟩ := h3
  exact ⟨e, by simpa using he, hb, hk⟩
def StepG (P : Program) (L : List Oper) (G : Tmp → SlotFact) (J : World → Prop) (R : World → World → Prop) (o : Oper) : Prop :=
  ∀ ρ w, Plain ρ → J w → Reads G ρ w (tmpsOf o) → ∀ y : Nat → Option Bool, (∀ k want, o.guard = some (k, want) → ∀ d, (L[k]?).bind (·.dst) = some d → ∃ v, G d v w ∧ y k = boolOf v) →
    if Region.wanted o y = true then OpGives P o ρ w (fun v w' => GD G o.dst v w' ∧ J w' ∧ R w w') else GD G o.dst undef w
def StepsG (P : Program) (L : List Oper) (G : Tmp → SlotFact) (J : World → Prop) (R : World → World → Prop) : List Oper → Prop
  | [] => True
  | o :: os => StepG P L G J R o ∧ StepsG P L G J R os
theorem steps_at_g {L : List Oper} {G : Tmp → SlotFact} {J : World → Prop} {R : World → World → Prop} : ∀ {ops : List Oper}, StepsG P L G J R ops → ∀ {i : Nat} {o : Oper}, ops[i]? = some o → StepG P L G J R o
  | [], _, i, o, h => by simp at h
  | o' :: os, hs, 0, o, h => by simp at h; subst h; exact hs.1
  | o' :: os, hs, i + 1, o, h => steps_at_g hs.2 (i := i) (o := o) (by simpa using h)
theorem stepg_free {L : List Oper} {G : Tmp → SlotFact} {J : World → Prop} {R : World → World → Prop} {o : Oper} (hg : o.guard = none)
    (h : ∀ ρ w, Plain ρ → J w → Reads G ρ w (tmpsOf o) → OpGives P o ρ w (fun v w' => GD G o.dst v w' ∧ J w' ∧ R w w')) : StepG P L G J R o := by
  intro ρ w hp hJ hr y hy
  have hw : Region.wanted o y = true := by simp [Region.wanted, hg]
  rw [if_pos hw]
  exact h ρ w hp hJ hr
theorem stepg_if {L : List Oper} {G : Tmp → SlotFact} {J : World → Prop} {R : World → World → Prop} {o : Oper} (c : Bool) (k : Nat) (want : Bool) (d : Tmp) (hg : o.guard = some (k, want)) (hd : (L[k]?).bind (·.dst) = some d) (hG : ∀ v w, G d v w → v = .bool c)
    (h1 : c = want → ∀ ρ w, Plain ρ → J w → Reads G ρ w (tmpsOf o) → OpGives P o ρ w (fun v w' => GD G o.dst v w' ∧ J w' ∧ R w w')) (h2 : c ≠ want → ∀ w, GD G o.dst undef w) : StepG P L G J R o := by
  intro ρ w hp hJ hr y hy
  obtain ⟨v, hv, e⟩ := hy k want hg d hd
  have ev := hG v w hv
  subst ev
  have e : y k = some c := e
  by_cases hc : c = want
  · have hw : Region.wanted o y = true := by simp [Region.wanted, hg, e, hc]
    rw [if_pos hw]
    exact h1 hc ρ w hp hJ hr
  · have hw : ¬ Region.wanted o y = true := by simp [Region.wanted, hg, e, hc]
    rw [if_neg hw]
    exact h2 hc w
theorem wp_region_g {id : Nat} {ops : List Oper} {Q : Exit → Act → World → Prop} {a : Act} {w : World} (hm : P.follows .mixedOrders = true) (Gs : List (Tmp × SlotFact)) (J : World → Prop) (R : World → World → Prop)
    (hB : regGB a.tmps.size ops = true) (hGs : Gs.map (·.1) = dstsOf ops) (hnd : (dstsOf ops).Nodup) (hJ : J w.drew) (hst : StableAll R Gs) (hrefl : ∀ w, R w w) (hsteps : StepsG P ops (slotG Gs a) J R ops)
    (hfin : ∀ f w', FinFacts f w' Gs → J w' → (∀ d, d ∉ dstsOf ops → f d = a.eval (.tmp d)) → Q .normal (laid f ops a) w') : (Code.region id ops.toArray true).wp P Q a w := by
  have hR := regGB_ok hB
  have hget : ∀ j : Nat, ops.toArray[j]? = ops[j]? := fun j => by simp
  have main : ∀ (fuel : Nat) (listed : Array Bool) (b : Act) (w : World), listed.size = ops.length → ((List.range ops.length).filter (fun j => !listed.getD j true)).length ≤ fuel → J w → b.defers = a.defers → b.tmps.size = a.tmps.size →
      (∀ d, (∀ j o, ops[j]? = some o → o.dst = some d → listed.getD j false = true) → slotG Gs a d (b.eval (.tmp d)) w) → (∀ d, d ∉ dstsOf ops → b.tmps[d]? = a.tmps[d]?) → (∀ k o, ops[k]? = some o → listed.getD k false = true → ∀ e ∈ o.after, Region.binds .any e = true → listed.getD e.on false = true) → wpAny P .any ops.toArray Q fuel listed b w := by
    have fin : ∀ (listed : Array Bool) (b : Act) (w : World), (∀ j, j < ops.length → listed.getD j false = true) → J w → b.defers = a.defers → b.tmps.size = a.tmps.size →
        (∀ d, (∀ j o, ops[j]? = some o → o.dst = some d → listed.getD j false = true) → slotG Gs a d (b.eval (.tmp d)) w) → (∀ d, d ∉ dstsOf ops → b.tmps[d]? = a.tmps[d]?) → Q .normal b w := by
      intro listed b w hall hj hd1 hd2 hG hU
      have hf := hfin (fun d => b.eval (.tmp d)) w (slotG_fin (a := a) (by rw [hGs]; exact hnd) (fun d _ => hG d (fun j o hjo _ => hall j (by
        rcases Nat.lt_or_ge j ops.length with h | h
        · exact h
        · rw [List.getElem?_eq_none h] at hjo; cases hjo)))) hj (fun d hd => by simp [Act.eval, hU d hd])
      rw [laid_eq (a := b) (fun d hl => by simp [Act.eval, hl]) ops a hd1.symm hd2.symm (fun d hl => by
        by_cases hm : d ∈ dstsOf ops
        · exact .inr hm
        · exact .inl (hU d hm).symm)] at hf
      exact hf
    intro fuel
    induction fuel with
    | zero =>
      intro listed b w hsz hcnt hj hd1 hd2 hG hU hC
      have hall : ∀ j, j < ops.length → listed.getD j false = true := by
        intro j hjl
        have h0 : (List.range ops.length).filter (fun j => !listed.getD j true) = [] := List.eq_nil_of_length_eq_zero (by omega)
        have := List.filter_eq_nil_iff.1 h0 j (List.mem_range.2 hjl)
        simp only [Array.getD, hsz, hjl, dite_true] at this ⊢
        simpa using this
      refine ⟨?_, fin listed b w hall hj hd1 hd2 hG hU⟩
      rw [List.eq_nil_iff_forall_not_mem]
      intro j hjr
      obtain ⟨h1, o, ho, _⟩ := mem_ready.1 hjr
      rw [hget] at ho
      have hjl : j < ops.length := by
        rcases Nat.lt_or_ge j ops.length with h | h
        · exact h
        · rw [List.getElem?_eq_none h] at ho; cases ho
      have h2 := hall j hjl
      simp only [Array.getD, hsz, hjl, dite_true] at h1 h2
      rw [h1] at h2; cases h2
    | succ fuel ih =>
      intro listed b w hsz hcnt hj hd1 hd2 hG hU hC
      refine ⟨fun hr => ?_, fun i hi => ?_⟩
      · refine fin listed b w (fun j hjl => ?_) hj hd1 hd2 hG hU
        induction j using Nat.strongRecOn with
        | _ j ihj =>
          cases hl : listed.getD j false with
          | true => rfl
          | false =>
            exfalso
            have hmem : j ∈ Region.ready .any ops.toArray listed := by
              refine mem_ready.2 ⟨?_, ops[j], by rw [hget]; exact List.getElem?_eq_getElem hjl, fun e he hb => ?_⟩
              · simp only [Array.getD, hsz, hjl, dite_true] at hl ⊢
                exact hl
              · have ho := hR.order j _ e (List.getElem?_eq_getElem hjl) he hb
                exact ihj e.on ho (by omega)
            rw [hr] at hmem; cases hmem
      · obtain ⟨hun, o, ho, hdone⟩ := mem_ready.1 hi
        have ho' := ho
        rw [hget] at ho'
        have hil : i < ops.length := by
          rcases Nat.lt_or_ge i ops.length with h | h
          · exact h
          · rw [List.getElem?_eq_none h] at ho'; cases ho'
        unfold wpOp
        simp only [ho]
        have hun2 : listed.getD i false = false := by
          simp only [Array.getD, hsz, hil, dite_true] at hun ⊢
          exact hun
        have hkey : ∀ v w', GD (slotG Gs a) o.dst v w' → J w' → R w w' → wpAny P .any ops.toArray Q fuel (listed.setIfInBounds i true) (b.put o.dst v) w' := by
          intro v w' hv hj' hr'
          have hcnt' : ((List.range ops.length).filter (fun j => !(listed.setIfInBounds i true).getD j true)).length ≤ fuel := by
            have hlt : ((List.range ops.length).filter (fun j => !(listed.setIfInBounds i true).getD j true)).length < ((List.range ops.length).filter (fun j => !listed.getD j true)).length := by
              have e : (List.range ops.length).filter (fun j => !(listed.setIfInBounds i true).getD j true) = ((List.range ops.length).filter (fun j => !listed.getD j true)).filter (fun j => j != i) := by
                rw [List.filter_filter]
                apply List.filter_congr
                intro j hj
                by_cases hji : j = i
                · subst hji
                  have : (listed.setIfInBounds j true).getD j true = true := by simp [Array.getD, hsz, hil]
                  rw [this]; simp
                · rw [getD_set_ne true (Ne.symm hji)]
                  simp [hji]
              rw [e]
              apply List.length_filter_lt_length_iff_exists.2
              exact ⟨i, List.mem_filter.2 ⟨List.mem_range.2 hil, by simpa using hun⟩, by simp⟩
            omega
          refine ih (listed.setIfInBounds i true) _ w' (by simpa using hsz) hcnt' hj' ?_ ?_ (fun d hd => ?_) (fun d hd => ?_) (fun k ok hok hk e he hb => ?_)
          · unfold Act.put; split <;> exact hd1
          · unfold Act.put; split <;> simpa using hd2
          · by_cases hod : o.dst = some d
            · rw [hod] at hv
              have hdn := hR.dst i o d ho' hod
              have : (b.put o.dst v).eval (.tmp d) = v := by
                rw [hod]
                simp [Act.put, Act.eval, hd2, hdn]
              rw [this]
              exact hv
            · have : (b.put o.dst v).eval (.tmp d) = b.eval (.tmp d) := Act.eval_put (fun e he => by
                intro hh
                injection hh with hh
                exact hod (by rw [he, hh]))
              rw [this]
              refine slotG_stable hst (hG d fun j oj hoj hdj => ?_) hr'
              have h3 := hd j oj hoj hdj
              by_cases hji : j = i
              · subst hji
                rw [ho'] at hoj
                cases hoj
                exact absurd hdj hod
              · rwa [getD_set_ne false (Ne.symm hji)] at h3
          · have hne : o.dst ≠ some d := fun h => hd (List.mem_filterMap.2 ⟨o, List.mem_of_getElem? ho', h⟩)
            have hU' := hU d hd
            unfold Act.put
            split
            · rename_i e he
              simp only
              rw [Array.getElem?_setIfInBounds_ne (fun h => hne (by rw [he, h]))]
              exact hU'
            · exact hU'
          · by_cases hei : e.on = i
            · rw [hei]
              simp [Array.getD, hsz, hil]
            · rw [getD_set_ne false (Ne.symm hei)]
              by_cases hki : k = i
              · subst hki
                rw [ho'] at hok
                cases hok
                exact hdone e he hb
              · rw [getD_set_ne false (Ne.symm hki)] at hk
                exact hC k ok hok hk e he hb
        have hs := steps_at_g hsteps ho' b.eval w ⟨fun _ => rfl, fun _ => rfl, fun _ => rfl⟩ hj (reads_of fun d hd => hG d fun j oj hoj hdj => by
          obtain ⟨e, he, hb, rfl⟩ := hR.waits i o j oj d ho' hoj hdj hd
          exact hdone e he hb) (yielded ops.toArray b.tmps) (fun k want hg d hd => by
          obtain ⟨e, he, hb, rfl⟩ := hR.guards i o k want ho' hg
          have hl := hdone e he hb
          have hkl : e.on < ops.length := by
            rcases Nat.lt_or_ge e.on ops.length with h | h
            · exact h
            · rw [List.getElem?_eq_none h] at hd; cases hd
          have hok : ops[e.on]? = some ops[e.on] := List.getElem?_eq_getElem hkl
          have hdk : ops[e.on].dst = some d := by rw [hok] at hd; exact hd
          refine ⟨b.eval (.tmp d), hG d fun j oj hoj hdj => ?_, ?_⟩
          · have := hR.once e.on ops[e.on] j oj d hok hoj hdk hdj
            rw [this]; exact hl
          · have hdl := hR.dst e.on _ d hok hdk
            rw [← hd2] at hdl
            have hx : b.tmps[d]? = some b.tmps[d] := Array.getElem?_eq_getElem hdl
            have hx2 : b.eval (.tmp d) = b.tmps[d] := by simp [Act.eval, hdl]
            unfold yielded
            rw [hget, hok, hx2]
            simp only [Option.bind_some, hdk, hx]
            generalize b.tmps[d] = v0
            cases v0 <;> rfl)
        by_cases hw : Region.wanted o (yielded ops.toArray b.tmps) = true
        · rw [if_pos hw] at hs ⊢
          left
          exact wp_of_gives hs fun v w' ⟨hv, hj', hr'⟩ => hkey v w' hv hj' hr'
        · rw [if_neg hw] at hs ⊢
          exact hkey _ _ hs hj (hrefl _)
  refine wp_region_any hm ?_
  refine main _ _ _ _ (by simp) ?_ hJ rfl rfl (fun d hd => ?_) (fun _ _ => rfl) (fun k ok _ hk => ?_)
  · have := List.length_filter_le (fun j => !(Array.replicate ops.toArray.size false).getD j true) (List.range ops.length)
    simpa using this
  · have : d ∉ Gs.map (·.1) := by
      rw [hGs]
      intro hm
      obtain ⟨o, ho, hdo⟩ := List.mem_filterMap.1 hm
      obtain ⟨j, hj⟩ := List.mem_iff_getElem?.1 ho
      have := hd j o hj hdo
      simp at this
      rw [Array.getElem?_replicate] at this
      split at this <;> simp at this
    rw [slotG_none this]
  · exfalso
    simp at hk
    rw [Array.getElem?_replicate] at hk
    split at hk <;> simp at hk
end
end Go.Proofs.Ytojmnfelecnenaa
namespace Go.Proofs.Ytojmnfelecnenaa
set_option linter.unusedSimpArgs false
set_option linter.unusedVariables false
open Go.RowKit

theorem bit_and {m : Nat} (hm : m < 18446744073709551616) : bits BinOp.and IntKind.u64 (m : Int) 1 = ((m % 2 : Nat) : Int) := by
  have h : (BitVec.ofInt 64 (m : Int) &&& BitVec.ofInt 64 1).toNat = m % 2 := by
    rw [BitVec.toNat_and]
    have h1 : (BitVec.ofInt 64 (m : Int)).toNat = m := by
      rw [BitVec.toNat_ofInt]; omega
    have h2 : (BitVec.ofInt 64 1).toNat = 1 := by decide
    rw [h1, h2, Nat.and_one_is_mod]
  show IntKind.u64.wrap ((BitVec.ofInt 64 (m : Int) &&& BitVec.ofInt 64 1).toNat : Int) = _
  rw [h]
  rcases Nat.mod_two_eq_zero_or_one m with h | h <;> rw [h] <;> rfl
theorem keep_bit {keep k : Nat} (hk : keep < 18446744073709551616) : (bits BinOp.and IntKind.u64 ((keep : Int) / 2 ^ (k % 64)) 1 == 1) = Dv.bit keep k := by
  have e : ((keep : Int) / 2 ^ (k % 64)) = ((keep / 2 ^ (k % 64) : Nat) : Int) := by simp
  rw [e, bit_and (Nat.lt_of_le_of_lt (Nat.div_le_self _ _) hk)]
  unfold Dv.bit
  rcases Nat.mod_two_eq_zero_or_one (keep / 2 ^ (k % 64)) with h | h <;> rw [h] <;> rfl
theorem putCells_at : ∀ (l : List (Nat × ByteArray)) (k p : Nat) (s : ByteArray), l[k]? = some (p, s) → (putCells l)[k * 2]? = some (.int .i64 (p : Int)) ∧ (putCells l)[k * 2 + 1]? = some (.string s)
  | [], k, p, s, h => by simp at h
  | a :: l, 0, p, s, h => by simp at h; subst h; exact ⟨rfl, rfl⟩
  | a :: l, k + 1, p, s, h => by
    have := putCells_at l k p s (by simpa using h)
    have e : putCells (a :: l) = [.int .i64 (a.1 : Int), .string a.2] ++ putCells l := rfl
    rw [e, List.getElem?_append_right (by simp; omega), List.getElem?_append_right (by simp; omega)]
    simp only [List.length_cons, List.length_nil]
    rw [show (k + 1) * 2 - (0 + 1 + 1) = k * 2 by omega, show (k + 1) * 2 + 1 - (0 + 1 + 1) = k * 2 + 1 by omega]
    exact this
/-- It returns nothing; the disk has become d'. -/
def RetCrash (TD TP : TypeId) (S F : Nat → Prop) (w : World) (b : Nat) (d' : Dv) : Ending → World → Prop := fun e w' => e = .returned (.tuple #[]) ∧ DevAt TD TP S F w' b d' ∧ Chg F w w'

set_option maxRecDepth 100000 in
set_option maxHeartbeats 2000000 in
theorem devcrash_any (S F : Nat → Prop) (w : World) (b : Nat) (d : Dv) (keep : Nat) (hkeep : keep < 18446744073709551616) (h : DevAt TDp TPp S F w b d) (hp : ∀ q ∈ d.waits, q.1 < 32) (hwl : d.waits.length ≤ 1000000000000) (hF : ∀ k, F k → k < w.heap.size) (hSF : ∀ k, S k → ¬ F k) :
    Calls Try.prog 31 #[.pointer (some ⟨b, 0, none⟩), .int .u64 (keep : Int)] w (RetCrash TDp TPp S F w b (d.crash keep)) := by
  obtain ⟨wv, lv, cs, hrow, hw, hl, hcs, hok⟩ := h.two
  obtain ⟨A, cap, rfl, hA1, hA2⟩ := hw.form
  have c64 : w.cell? ⟨b, 64, none⟩ = some (.slice A d.waits.length cap) := by rw [cell_of_row _ _ _ _ _ _ hrow]; simpa using devCells_at_w d _ lv h.kept h.now
  have hbl := (Array.getElem?_eq_some_iff.1 hrow).1
  have H := Lib.hid h
  have Hw := Lib.hid hw
  have Hrow := Lib.hid hrow
  have Hp := Lib.hid hp
  have HF := Lib.hid hF
  have HS := Lib.hid hSF
  clear h hw hrow hl hcs hok hp hF hSF
  go_enter Try.func31, Try.ntmps31
  go_wp2_with fail
  go_loopw [11] (fun j wr => ∃ k : Nat, k ≤ d.waits.length ∧ j = .int .i64 k ∧ Hid (Chg (fun q => q = b) w wr) ∧ Hid (DevAt TDp TPp S F wr b { d with kept := Dv.keepFrom keep d.kept (d.waits.take k) 0 })) (fun j _ => d.waits.length - (intOf j).toNat)
  case atStart => exact ⟨0, by omega, rfl, Chg.refl, H.out⟩
  case round =>
    obtain ⟨k, hk, rfl, hcw, hdw⟩ := hrel
    by_cases hlt : k < d.waits.length
    · have hx : d.waits[k]? = some d.waits[k] := List.getElem?_eq_getElem hlt
      generalize d.waits[k] = x at hx
      obtain ⟨p, s⟩ := x
      have hp32 := Hp.out _ (List.mem_of_getElem? hx)
      simp only at hp32
      obtain ⟨g, off, rfl, hFg, hgl, hcell⟩ := Hw.out.rd.at_ (by omega) (by omega)
      have hgb : g ≠ b := by
        rcases Hw.out.1.2 with ⟨hv, _⟩ | ⟨_, _, _, hv, _⟩
        · cases hv
        · cases hv
          exact own_ne Hw.out.1 Hrow.out (by decide) g rfl
      have hpc := putCells_at _ _ _ _ hx
      have x0 : wr.cell? ⟨g, off + k * 2, none⟩ = some (.int .i64 (p : Int)) := (World.cell?_of_block (w := w) (hcw.out.block g hgl hgb)).trans (hcell _ _ hpc.1)
      have x1 : wr.cell? ⟨g, off + k * 2 + 1, none⟩ = some (.string s) := (World.cell?_of_block (w := w) (hcw.out.block g hgl hgb)).trans (hcell _ _ hpc.2)
      have Hx := Lib.hid hx
      have hk2 : (k : Int) < (d.waits.length : Int) := by omega
      clear hx hcell hpc
      obtain ⟨wv', lv', hrow'⟩ := hdw.out.row
      have hk' := hdw.out.kept
      obtain ⟨y, hy⟩ : ∃ y, (Dv.keepFrom keep d.kept (d.waits.take k) 0)[p]? = some y := ⟨_, List.getElem?_eq_getElem (by rw [Dv.keepFrom_len, H.out.kept]; exact hp32)⟩
      have hcy : ∀ o, (wr.alloc o).cell? ⟨b, p, none⟩ = some (.string y) := fun o => by
        rw [World.cell?_alloc_lt _ _ _ (Array.getElem?_eq_some_iff.1 hrow').1, cell_of_row _ _ _ _ _ _ hrow']
        have hlt : p < (Dv.keepFrom keep d.kept (d.waits.take k) 0).length := (List.getElem?_eq_some_iff.1 hy).1
        simp only [List.getElem?_toArray]
        unfold devCells
        rw [List.getElem?_append_left (by simpa using hlt), List.getElem?_map, hy]
        rfl
      have hfy : ∀ o, (wr.alloc o).frozen? ⟨b, p, none⟩ = false := fun o => by
        rw [World.frozen?_alloc_past _ _ _ (Array.getElem?_eq_some_iff.1 hrow').1]
        exact frozen_of_row _ _ _ _ _ hrow'
      have hpi : (p : Int) < 32 := by omega
      have hbA : ∀ o, Below wr.heap.size wr (wr.alloc o) := fun o => (Below.refl _ _).alloc (Nat.le_refl _) o
      have HbA := Lib.hid hbA
      have Hcw := Lib.hid hcw.out
      clear hbA hy hrow' hk' hcw
      rcases Bool.eq_false_or_eq_true (Dv.bit keep k) with hb | hb
      · have hbit : (bits BinOp.and IntKind.u64 ((keep : Int) / 2 ^ (k % 64)) 1 == 1) = true := by rw [keep_bit hkeep]; exact hb
        have Hb := Lib.hid hb
        clear hb
        go_wp2_with fail
        go_region
        go_wp2_with fail
        go_roundw
        case rel =>
          refine ⟨k + 1, by omega, by go_num, ((Hcw.out.step (HbA.out _)).setCell (.inl rfl) _).drew, ?_⟩
          show DevAt _ _ _ _ _ _ _
          rw [Dv.keepFrom_succ Hx.out, Hb.out]
          exact ((hdw.out.below (HbA.out _)).setKept p hp32 s HS.out (by decide) (by decide)).below (Below.refl _ _).drew
        case measure => simp [intOf]; omega
      · have hbit : (bits BinOp.and IntKind.u64 ((keep : Int) / 2 ^ (k % 64)) 1 == 1) = false := by rw [keep_bit hkeep]; exact hb
        have Hb := Lib.hid hb
        clear hb
        go_wp2_with fail
        go_roundw
        case rel =>
          refine ⟨k + 1, by omega, by go_num, Hcw.out.step (HbA.out _), ?_⟩
          show DevAt _ _ _ _ _ _ _
          rw [Dv.keepFrom_succ Hx.out, Hb.out]
          exact hdw.out.below (HbA.out _)
        case measure => simp [intOf]; omega
    · obtain rfl : k = d.waits.length := by omega
      have hd := hdw.out
      rw [List.take_of_length_le (Nat.le_refl _)] at hd
      generalize hK : Dv.keepFrom keep d.kept d.waits 0 = K at hd
      obtain ⟨wv', lv', cs', hrow', hw', hl', hcs', hok'⟩ := hd.two
      have hk' : K.length = 32 := hd.kept
      have hn' : d.now.length = 32 := hd.now
      have HR : Hid (wr.rangeAt b 0 (K.map .string)) := range_kept hrow'
      have HT : Hid (wr.there b 32 (K.map Value.string).toArray.size) := there_of_row hrow' 32 _ (by rw [List.size_toArray, List.size_toArray, List.length_map, devCells_len { d with kept := K } _ _ hk' hn']; omega)
      have Hs : Hid ((Try.prog.info? 46).map (·.size) = some (K.map Value.string).length) := show _ = _ by rw [List.length_map, hk']; kernel_rfl
      have H1 : Hid ((K.map Value.string).toArray.all (·.oneCell') = true) := all_oneCell_toArray (fun v hv => by obtain ⟨s, _, rfl⟩ := List.mem_map.1 hv; rfl)
      have hrow1 := heap_setCells_row b _ (K.map .string) 32 wr _ hrow'
      rw [devCells_back { d with kept := K } wv' lv' hk' hn'] at hrow1
      obtain ⟨W1, hW1⟩ : ∃ u, wr.setCells b 32 (K.map .string) = u := ⟨_, rfl⟩
      rw [hW1] at hrow1
      have c64 : W1.cell? ⟨b, 64, none⟩ = some wv' := by rw [cell_of_row _ _ _ _ _ _ hrow1]; simpa using devCells_at_w { d with kept := K, now := K } wv' lv' hk' hk'
      have f64 : W1.frozen? ⟨b, 64, none⟩ = false := frozen_of_row _ _ _ _ _ hrow1
      have hrow2 := heap_setCell_same _ _ 64 _ _ (.slice none 0 0) hrow1
      rw [devCells_set_w { d with kept := K, now := K } _ _ _ hk' hk'] at hrow2
      have c65 : (W1.setCell ⟨b, 64, none⟩ (.slice none 0 0)).cell? ⟨b, 65, none⟩ = some lv' := by rw [cell_of_row _ _ _ _ _ _ hrow2]; simpa using devCells_at_l { d with kept := K, now := K } (.slice none 0 0) lv' hk' hk'
      have f65 : (W1.setCell ⟨b, 64, none⟩ (.slice none 0 0)).frozen? ⟨b, 65, none⟩ = false := frozen_of_row _ _ _ _ _ hrow2
      have hrow3 := heap_setCell_same _ _ 65 _ _ (.slice none 0 0) hrow2
      rw [devCells_set_l { d with kept := K, now := K } _ _ _ hk' hk'] at hrow3
      have hfb := hd.fb
      have hcr : Chg F wr W1 := hW1 ▸ Chg.refl.setCells (.inl hfb) _ _
      have hc := (hcr.setCell (p := ⟨b, 64, none⟩) (.inl hfb) (.slice none 0 0)).setCell (p := ⟨b, 65, none⟩) (.inl hfb) (.slice none 0 0)
      have Hrow3 := Lib.hid hrow3
      have Hc := Lib.hid ((hcw.out.mono (fun q hq => hq ▸ hfb)).trans (hc.mono (fun q hq => .inl hq)))
      have HW := Lib.hid hW1
      have HKk := Lib.hid hK
      have Hfb := Lib.hid hfb
      clear hrow' hw' hl' hcs' hok' hrow1 hrow2 hrow3 hc hcr hW1 hd hdw hcw hK hfb
      go_wp2_with (first
        | (refine wpList_load_mid rfl 46 (.tmp 36) rfl b 0 rfl (K.map .string) _ HR.out Try.underlying46 rfl Hs.out ?_)
        | (refine wpList_store_mid rfl 46 (.tmp 39) (.tmp 37) rfl b 32 (K.map Value.string).toArray rfl rfl HT.out (by rw [List.size_toArray]; exact Hs.out) H1.out ?_
           rw [show wr.setCells b 32 (K.map Value.string).toArray.toList = W1 from HW.out]))
      go_end0
      refine ⟨rfl, ?_, Hc.out⟩
      have he : d.crash keep = ⟨K, K, [], []⟩ := by unfold Dv.crash; rw [HKk.out]
      rw [he]
      exact ⟨Hfb.out, hk', hk', _, _, [], Hrow3.out, Ow.nil, Ow.nil, rfl, by simp⟩
end Go.Proofs.Ytojmnfelecnenaa
namespace Go.Proofs.Ytojmnfelecnenaa
set_option linter.unusedSimpArgs false
set_option linter.unusedVariables false
open Go.RowKit Go.Sort

/-- What a crash leaves of a sector is what may be found of it. -/
theorem keep_in {keep : Nat} {H : Nat → ByteArray → Prop} : ∀ (l : List (Nat × ByteArray)) (K : List ByteArray) (i : Nat), K.length = 32 → (∀ p, p < 32 → H p (K.getD p noB)) → (∀ x ∈ l, x.1 < 32 ∧ H x.1 x.2) → ∀ p, p < 32 → H p ((Dv.keepFrom keep K l i).getD p noB)
  | [], K, i, hl, hK, _, p, hp => hK p hp
  | (q, s) :: l, K, i, hl, hK, hx, p, hp => by
    rw [Dv.keepFrom]
    refine keep_in l _ (i + 1) (by split <;> simp [hl]) (fun j hj => ?_) (fun x hx' => hx x (List.mem_cons_of_mem _ hx')) p hp
    split
    · obtain ⟨hq, hH⟩ := hx (q, s) (by simp)
      rw [getD_set_nat (by rw [hl]; exact hq)]
      split
      · rename_i e; rw [e]; exact hH
      · exact hK j hj
    · exact hK j hj
theorem crash_in {keep : Nat} {H : Int → ByteArray → Prop} {s : St} (h : Hist H s) (hk : s.v.d.kept.length = 32) (hw : ∀ x ∈ s.v.d.waits, x.1 < 32) {p : Nat} (hp : p < 32) : H p ((s.v.d.crash keep).peek p) :=
  keep_in (H := fun j d => H (j : Int) d) s.v.d.waits s.v.d.kept 0 hk (fun j hj => h.kept j hj) (fun x hx => ⟨hw x hx, h.waits x hx⟩) p hp
def sinceB (k : Nat) : Al := { al0 with since := List.replicate k [noB] ++ List.replicate (32 - k) [] }
theorem sinceB_set {k : Nat} (hk : k < 32) : ({ sinceB k with since := (sinceB k).since.set k [noB] } : Al) = sinceB (k + 1) := by
  show (⟨al0.now, (List.replicate k [noB] ++ List.replicate (32 - k) []).set k [noB], 0, 0, noB⟩ : Al) = ⟨al0.now, List.replicate (k + 1) [noB] ++ List.replicate (32 - (k + 1)) [], 0, 0, noB⟩
  suffices e : (List.replicate k [noB] ++ List.replicate (32 - k) ([] : List ByteArray)).set k [noB] = List.replicate (k + 1) [noB] ++ List.replicate (32 - (k + 1)) [] by rw [e]
  rw [List.set_append_right _ _ (by simp), List.length_replicate, Nat.sub_self, show 32 - k = (32 - (k + 1)) + 1 by omega, List.replicate_succ, List.set_cons_zero, List.replicate_succ', List.append_assoc]
  rfl
theorem alok1 : AlOk true st0 (sinceB 32) := by
  refine ⟨js0, rfl, rfl, fun p hp => ?_, .inl ⟨rfl, rfl⟩, fun _ => ?_⟩
  · have e : curS st0 (p : Int) = nowAt st0 p := rfl
    rw [e]
    rfl
  · have hin : ∀ p : Nat, p < 32 → inS (sinceB 32) (p : Int) noB := fun p hp => by
      refine ⟨p, rfl, ?_⟩
      show noB ∈ (List.replicate 32 [noB] ++ List.replicate (32 - 32) []).getD p []
      rw [Nat.sub_self, List.replicate_zero, List.append_nil, getD_replicate, if_pos hp]
      simp
    refine ⟨fun p hp => ?_, fun p hp => ?_, fun x hx => ?_, fun p v hv => ?_, fun p e hi => ?_⟩
    · have e : st0.v.d.kept.getD p noB = noB := by show (List.replicate 32 noB).getD p noB = noB; rw [getD_replicate, if_pos hp]
      rw [e]; exact hin p hp
    · have e : st0.v.d.now.getD p noB = noB := by show (List.replicate 32 noB).getD p noB = noB; rw [getD_replicate, if_pos hp]
      rw [e]; exact hin p hp
    · have e : st0.v.d.waits = [] := rfl
      rw [e] at hx; cases hx
    · have e : atB st0.bufs p = none := rfl
      rw [e] at hv; cases hv
    · obtain ⟨r, hr, _⟩ := hi
      have e : st0.wait ++ st0.v.d.l = [] := rfl
      rw [e] at hr; cases hr
set_option maxRecDepth 100000 in
set_option maxHeartbeats 4000000 in
theorem sync_walk (l : List Sp) (v : Value) (keep : Nat) (hkeep : keep < 18446744073709551616) (w : World) (h : StepsAt Any w v l) : Calls Try.prog 8 #[v, .int .u64 (keep : Int)] w (Ret (.bool true) w) := by
  obtain ⟨A, cap, rfl, hcl, hcap⟩ := h.form
  have H := Lib.hid h
  unfold maxLen at hcap
  clear h
  go_enter Try.func8, Try.ntmps8
  go_wp2_with fail
  refine (works_any w).mono ?_
  rintro e w0 ⟨rfl, hb0⟩
  have HB0 := Lib.hid hb0
  clear hb0
  go_wp2_with fail
  refine (lightsteps_any Any l _ 120 w0 (H.out.below HB0.out) (by omega)).mono ?_
  rintro e w1 ⟨rfl, rfl⟩
  cases hl : lightSp l 120 with
  | false =>
    clear hl
    go_wp2_with fail
    go_ret
    exact ⟨rfl, HB0.out⟩
  | true =>
    have hlen := lightSp_len hl
    clear hl
    go_wp2_with fail
    refine (devnew_any w0).mono ?_
    rintro e w1 ⟨rfl, hd1, hb1, hs1⟩
    go_wp2_with fail
    refine (stnew_any (fun _ => False) (fun k => k = w0.heap.size) w1 w0.heap.size Dv.new (hd1 _) (fun k hk => by omega) (fun k hk => hk.elim) (fun k hk => hk.elim)).mono ?_
    rintro e w2 ⟨b, col, y, rfl, hst, hb2, hfl, _⟩
    have hL := Lst.begin HB0.out (hd1 _) hb1 hs1 hst hb2 hfl
    obtain ⟨bd, hbd⟩ : ∃ n, w0.heap.size = n := ⟨_, rfl⟩
    rw [hbd] at hL ⊢
    obtain ⟨col3, hA3⟩ := Alst.new hL
    clear hd1 hb1 hs1 hst hb2 hfl hL hbd
    go_wp2_with fail
    change Code.wp _ _ _ _ (w2.alloc (.cells (alRow b bd al0 vs0).toArray tAl))
    have H3 := Lib.hid hA3
    obtain ⟨ba, hba⟩ : ∃ ba, w2.heap.size = ba := ⟨_, rfl⟩
    rw [hba] at H3 ⊢
    clear hA3 hba
    generalize w2.alloc (.cells (alRow b bd al0 vs0).toArray tAl) = w3 at H3 ⊢
    go_loopw [8] (fun i wr => ∃ (k : Nat), k ≤ 32 ∧ i = .int .i64 k ∧ Hid (Alst w wr col3 b bd 0 0 y st0 ba 1 (sinceB k))) (fun i _ => 32 - (intOf i).toNat)
    case atStart => exact ⟨0, by omega, rfl, H3.out⟩
    case round =>
      obtain ⟨k, hk, rfl, HL⟩ := hrel
      by_cases hlt : k < 32
      · have hlt2 : (k : Int) < 32 := by omega
        obtain ⟨_, _, _, csk, _, _, _⟩ := HL.out.at_.cell
        obtain ⟨vk, csk, _⟩ := csk k hlt
        have hb5 : ∀ o, Below wr.heap.size wr (wr.alloc o) := fun o => (Below.refl _ _).alloc (Nat.le_refl _) o
        have csk : ∀ o, (wr.alloc o).cell? ⟨ba, 34 + k, none⟩ = some vk := fun o => cell_b (hb5 o) csk
        have hfr : ∀ o, (wr.alloc o).frozen? ⟨ba, 34 + k, none⟩ = false := fun o => ((hb5 o).frozen (p := ⟨ba, 34 + k, none⟩) HL.out.at_.lt).trans (HL.out.at_.frozen _)
        have H5 : Hid (Alst w ((wr.alloc (.cells #[.string noB] 9)).setCell ⟨ba, 34 + k, none⟩ (.slice (some ⟨wr.heap.size, 0, none⟩) 1 1)) col3 b bd 0 0 y st0 ba 1 (sinceB (k + 1))) := show Alst _ _ _ _ _ _ _ _ _ _ _ _ by
          rw [← sinceB_set hlt]
          refine (HL.out.step (hb5 _)).since hlt ⟨rd_1 (heap_alloc_new _ _) ⟨by simp, HL.out.lst.st.s0 _ (Nat.le_refl _)⟩, fun z hz => by rw [List.mem_singleton.1 hz]; decide⟩ (by omega) (by simp)
        clear hb5
        go_wp2_with fail
        go_roundw
        case rel => exact ⟨k + 1, by omega, by go_num, H5.out⟩
        case measure => simp [intOf]; omega
      · obtain rfl : k = 32 := by omega
        have hlt2 : ¬ ((32 : Nat) : Int) < 32 := by omega
        clear H3
        go_wp2_with fail
        go_loopw [9, 10] (fun i _ wr => ∃ (k : Nat) (col : Nat → Nat) (y : Sv) (s : St) (A : Al), k ≤ l.length ∧ i = .int .i64 k ∧ Hid (Alst w wr col b bd k (15 * (k : Int)) y s ba (k + 1) A) ∧ Hid (AlOk true s A)) (fun i _ _ => l.length - (intOf i).toNat)
        case atStart => exact ⟨0, col3, y, st0, sinceB 32, by omega, rfl, HL.out, alok1⟩
        case round =>
          clear HL
          obtain ⟨k, col, y, s, A, hk, rfl, HL, HA⟩ := hrel
          by_cases hlt : k < l.length
          · have hlt2 : (k : Int) < (l.length : Int) := by omega
            have hst := H.out.below HL.out.lst.below
            obtain ⟨g, off, z, rfl, hgl, hx, c0, c1, c2, c3⟩ := hst.cells hlt
            have hok := hst.2 z (List.mem_of_getElem? hx)
            clear hst hx
            go_wp2_with fail
            refine (alstep_any w wr col b bd k (15 * (k : Int)) y s ba (k + 1) A z true HL.out HA.out hok.b hok.data (by omega) (by omega) (by omega)).mono ?_
            rintro e w4 ⟨rfl, col4, y4, h4⟩
            have H4 : Hid (Alst w w4 col4 b bd (k + 1) (15 * ((k + 1 : Nat) : Int)) y4 (alStep s A z).1 ba (k + 1 + 1) (alStep s A z).2) := by
              have e : 15 * (k : Int) + 15 = 15 * ((k + 1 : Nat) : Int) := by omega
              rw [← e]; exact h4
            have HA4 := Lib.hid (HA.out.step z)
            clear h4 c0 c1 c2 c3 hok
            go_wp2_with fail
            go_roundw
            case rel => exact ⟨k + 1, col4, y4, _, _, by omega, by go_num, H4.out, HA4.out⟩
            case measure => simp [intOf]; omega
          · obtain rfl : k = l.length := by omega
            have hlt2 : ¬ (l.length : Int) < (l.length : Int) := by omega
            go_wp2_with fail
            refine (devcrash_any (Im wr col) (Fd col) wr bd s.v.d keep hkeep HL.out.lst.st.drv.dev (fun q hq => (HA.out.js.inv.dv.waits q hq).1) (by have := HL.out.lst.bnd.waits; omega) (fun k hk => HL.out.lst.st.lt k (by rw [show col k = 4 from hk]; decide)) (fun k hk hf => by have h1 := hk.2; rw [show col k = 4 from hf] at h1; cases h1)).mono ?_
            rintro e w4 ⟨rfl, hd4, hc4⟩
            have HB4 : Hid (Below w.heap.size w w4) := HL.out.lst.below.trans (hc4.below (fun k hk => HL.out.lst.own k (Fl.of_d k hk)) HL.out.lst.below.size)
            have HAt : Hid (AlAt w4 col b bd ba (l.length + 1) A) := HL.out.at_.keep (hc4.block _ HL.out.at_.lt (fun hf => by have h1 := HL.out.c9; rw [show col ba = 4 from hf] at h1; cases h1)) (fun k hk => hc4.block k hk.1 (fun hf => by have h1 := hk.2; rw [show col k = 4 from hf] at h1; cases h1)) (fun k hk => ⟨Nat.lt_of_lt_of_le hk.1 hc4.size, hk.2⟩) (Nat.le_refl _)
            have HIn : Hid (∀ p : Nat, p < 32 → (s.v.d.crash keep).peek p ∈ A.since.getD p []) := fun p hp => by
              obtain ⟨q, hq, hm⟩ := crash_in (keep := keep) (HA.out.hist rfl) HA.out.js.inv.dv.kept (fun x hx => (HA.out.js.inv.dv.waits x hx).1) hp
              obtain rfl : p = q := by omega
              exact hm
            have HD := Lib.hid hd4
            have Hdat := Lib.hid HL.out.at_.dsz
            clear hd4 hc4 HL HA
            generalize s.v.d.crash keep = dc at HIn HD
            go_wp2_with fail
            go_loopw [11, 12, 13] (fun i _ _ wr => ∃ (k : Nat), k ≤ 32 ∧ i = .int .i64 k ∧ Hid (Below w4.heap.size w4 wr)) (fun i _ _ _ => 32 - (intOf i).toNat)
            case atStart => exact ⟨0, by omega, rfl, Below.refl _ _⟩
            case round =>
              obtain ⟨k, hk, rfl, HB5⟩ := hrel
              by_cases hlt : k < 32
              · have hlt2 : (k : Int) < 32 := by omega
                have HAr : Hid (AlAt wr col b bd ba (l.length + 1) A) := HAt.out.keep (HB5.out.block _ HAt.out.lt) (fun k hk => HB5.out.block k hk.1) (Im.step HB5.out.size) (Nat.le_refl _)
                have HDr := Lib.hid (HD.out.below HB5.out)
                obtain ⟨_, _, _, cs4, _, _, _⟩ := HAt.out.cell
                obtain ⟨sv, csk4, hsv⟩ := cs4 k hlt
                obtain ⟨As, cs, hse, _, _⟩ := hsv.form
                subst hse
                obtain ⟨ls, hls⟩ : ∃ ls, A.since.getD k [] = ls := ⟨_, rfl⟩
                rw [hls] at csk4 hsv
                have Hls := Lib.hid hls
                have HS4 := Lib.hid hsv
                have Hcs := Lib.hid csk4
                have hls5 : (ls.length : Int) ≤ 9223372036854775807 := by have h1 := HAt.out.len k; rw [hls] at h1; omega
                obtain ⟨pk, hpk⟩ : ∃ pk, dc.peek k = pk := ⟨_, rfl⟩
                have Hpk := Lib.hid hpk
                have Hpks : Hid (pk.size ≤ maxLen) := HS4.out.2 pk (Hls.out ▸ Hpk.out ▸ HIn.out k hlt : pk ∈ ls)
                obtain ⟨dt, hdt⟩ : ∃ dt, A.data = dt := ⟨_, rfl⟩
                have Hdts : Hid (dt.size ≤ maxLen) := hdt ▸ Hdat.out
                obtain ⟨_, _, _, _, c66, c67, c68⟩ := HAr.out.cell
                rw [hdt] at c68
                have csk : wr.cell? ⟨ba, 34 + k, none⟩ = some (.slice As ls.length cs) := (HB5.out.cell (p := ⟨ba, 34 + k, none⟩) HAt.out.lt).trans csk4
                clear cs4 csk4 hsv hls hpk hdt
                go_wp2_with fail
                refine wp_region_g mixed [(57, fun v _ => v = .pointer (some ⟨bd, 0, none⟩)), (58, fun v _ => v = .int .i64 (k : Int)), (59, fun v _ => v = .string pk), (60, BoxF wr.heap.size pk), (61, fun v _ => v = .pointer (some ⟨ba, 0, none⟩)), (62, fun v _ => v = .pointer (some ⟨ba, 0, none⟩)), (63, fun v _ => v = .pointer (some ⟨ba, 68, none⟩)), (64, fun v _ => v = .string dt), (65, BoxF wr.heap.size dt), (66, fun v _ => v = .bool (eqB [pk] [dt])), (67, fun v _ => v = .bool (eqB [pk] [dt])), (68, fun v _ => eqB [pk] [dt] = true → v = .pointer (some ⟨ba, 0, none⟩)), (69, fun v _ => eqB [pk] [dt] = true → v = .pointer (some ⟨ba, 0, none⟩)), (70, fun v _ => eqB [pk] [dt] = true → v = .pointer (some ⟨ba, 66, none⟩)), (71, fun v _ => eqB [pk] [dt] = true → v = .int .i64 A.kind), (72, fun v _ => eqB [pk] [dt] = true → v = .bool (A.kind == 2)), (73, fun v _ => v = .bool (eqB [pk] [dt] && (A.kind == 2))), (74, fun v _ => v = .bool (eqB [pk] [dt] && (A.kind == 2))), (75, fun v _ => (eqB [pk] [dt] && (A.kind == 2)) = true → v = .pointer (some ⟨ba, 0, none⟩)), (76, fun v _ => (eqB [pk] [dt] && (A.kind == 2)) = true → v = .pointer (some ⟨ba, 0, none⟩)), (77, fun v _ => (eqB [pk] [dt] && (A.kind == 2)) = true → v = .pointer (some ⟨ba, 67, none⟩)), (78, fun v _ => (eqB [pk] [dt] && (A.kind == 2)) = true → v = .int .i64 A.pos), (79, fun v _ => (eqB [pk] [dt] && (A.kind == 2)) = true → v = .int .i64 (k : Int)), (80, fun v _ => (eqB [pk] [dt] && (A.kind == 2)) = true → v = .bool (A.pos == (k : Int))), (81, fun v _ => v = .bool ((eqB [pk] [dt] && (A.kind == 2)) && (A.pos == (k : Int)))), (12, fun v _ => v = .bool ((eqB [pk] [dt] && (A.kind == 2)) && (A.pos == (k : Int))))] (fun u => Below wr.heap.size wr u) (fun u u' => Below u.heap.size u u') (by kernel_rfl) rfl (by decide) (Below.refl _ _).drew ?st (fun _ => Below.refl _ _) ?steps ?fin
                case st => exact ⟨fun v u u' h hr => h, fun v u u' h hr => h, fun v u u' h hr => h, fun v u u' h hr => h.step hr, fun v u u' h hr => h, fun v u u' h hr => h, fun v u u' h hr => h, fun v u u' h hr => h, fun v u u' h hr => h.step hr, fun v u u' h hr => h, fun v u u' h hr => h, fun v u u' h hr => h, fun v u u' h hr => h, fun v u u' h hr => h, fun v u u' h hr => h, fun v u u' h hr => h, fun v u u' h hr => h, fun v u u' h hr => h, fun v u u' h hr => h, fun v u u' h hr => h, fun v u u' h hr => h, fun v u u' h hr => h, fun v u u' h hr => h, fun v u u' h hr => h, fun v u u' h hr => h, fun v u u' h hr => h, trivial⟩
                case steps =>
                  refine ⟨?_, ?_, ?_, ?_, ?_, ?_, ?_, ?_, ?_, ?_, ?_, ?_, ?_, ?_, ?_, ?_, ?_, ?_, ?_, ?_, ?_, ?_, ?_, ?_, ?_, ?_, trivial⟩
                  · refine stepg_free rfl ?_
                    intro ρ u hp hJ hr
                    have r1 : ρ (.tmp 6) = .pointer (some ⟨bd, 0, none⟩) := hr.1
                    clear hr
                    refine gives_value (v := .pointer (some ⟨bd, 0, none⟩)) (w' := u) ?_ ⟨rfl, hJ, Below.refl _ _⟩
                    go_simp
                  · refine stepg_free rfl ?_
                    intro ρ u hp hJ hr
                    have r1 : ρ (.tmp 11) = .int .i64 (k : Int) := hr.1
                    clear hr
                    refine gives_value (v := .int .i64 (k : Int)) (w' := u) ?_ ⟨rfl, hJ, Below.refl _ _⟩
                    go_simp
                  · refine stepg_free rfl ?_
                    intro ρ u hp hJ hr
                    have r1 : ρ (.tmp 57) = .pointer (some ⟨bd, 0, none⟩) := hr.1
                    have r2 : ρ (.tmp 58) = .int .i64 (k : Int) := hr.2.1
                    clear hr
                    refine gives_enter (f := 33) (args := #[.pointer (some ⟨bd, 0, none⟩), .int .i64 (k : Int)]) (w' := u) ?_ ((Hpk.out ▸ devpeek_any _ _ u bd dc k hlt (HDr.out.below hJ)).mono ?_)
                    · have hpf := hp.func 33
                      go_simp
                    rintro e u' ⟨rfl, rfl⟩
                    exact ⟨_, rfl, rfl, hJ, Below.refl _ _⟩
                  · refine stepg_free rfl ?_
                    intro ρ u hp hJ hr
                    have r1 : ρ (.tmp 59) = .string pk := hr.1
                    clear hr
                    refine gives_value (v := .slice (some ⟨u.heap.size, 0, none⟩) 1 1) (w' := u.alloc (.cells #[.string pk] 9)) ?_ ⟨BoxF.new hJ.size, hJ.trans (((Below.refl _ _).alloc (Nat.le_refl _) _).mono hJ.size), (Below.refl _ _).alloc (Nat.le_refl _) _⟩
                    go_simp
                  · refine stepg_free rfl ?_
                    intro ρ u hp hJ hr
                    have r1 : ρ (.tmp 7) = .pointer (some ⟨ba, 0, none⟩) := hr.1
                    clear hr
                    refine gives_value (v := .pointer (some ⟨ba, 0, none⟩)) (w' := u) ?_ ⟨rfl, hJ, Below.refl _ _⟩
                    go_simp
                  · refine stepg_free rfl ?_
                    intro ρ u hp hJ hr
                    have r1 : ρ (.tmp 61) = .pointer (some ⟨ba, 0, none⟩) := hr.1
                    clear hr
                    refine gives_value (v := .pointer (some ⟨ba, 0, none⟩)) (w' := u) ?_ ⟨rfl, hJ, Below.refl _ _⟩
                    go_simp
                  · refine stepg_free rfl ?_
                    intro ρ u hp hJ hr
                    have r1 : ρ (.tmp 62) = .pointer (some ⟨ba, 0, none⟩) := hr.1
                    clear hr
                    refine gives_value (v := .pointer (some ⟨ba, 68, none⟩)) (w' := u) ?_ ⟨rfl, hJ, Below.refl _ _⟩
                    go_simp
                  · refine stepg_free rfl ?_
                    intro ρ u hp hJ hr
                    have r1 : ρ (.tmp 63) = .pointer (some ⟨ba, 68, none⟩) := hr.1
                    clear hr
                    have q68 : u.cell? ⟨ba, 68, none⟩ = some (.string dt) := cell_b hJ c68
                    refine gives_value (v := .string dt) (w' := u) ?_ ⟨rfl, hJ, Below.refl _ _⟩
                    go_simp
                  · refine stepg_free rfl ?_
                    intro ρ u hp hJ hr
                    have r1 : ρ (.tmp 64) = .string dt := hr.1
                    clear hr
                    refine gives_value (v := .slice (some ⟨u.heap.size, 0, none⟩) 1 1) (w' := u.alloc (.cells #[.string dt] 9)) ?_ ⟨BoxF.new hJ.size, hJ.trans (((Below.refl _ _).alloc (Nat.le_refl _) _).mono hJ.size), (Below.refl _ _).alloc (Nat.le_refl _) _⟩
                    go_simp
                  · refine stepg_free rfl ?_
                    intro ρ u hp hJ hr
                    have r1 : (BoxF wr.heap.size pk) (ρ (.tmp 60)) u := hr.1
                    have r2 : (BoxF wr.heap.size dt) (ρ (.tmp 65)) u := hr.2.1
                    clear hr
                    obtain ⟨k1, e1, _, hx1⟩ := r1
                    obtain ⟨k2, e2, _, hx2⟩ := r2
                    refine gives_enter (f := 32) (args := #[.slice (some ⟨k1, 0, none⟩) 1 1, .slice (some ⟨k2, 0, none⟩) 1 1]) (w' := u) ?_ ((sametexts_any (fun _ => True) [pk] [dt] _ _ u ⟨rd_1 hx1 trivial, fun z hz => by rw [List.mem_singleton.1 hz]; exact Hpks.out⟩ ⟨rd_1 hx2 trivial, fun z hz => by rw [List.mem_singleton.1 hz]; exact Hdts.out⟩).mono ?_)
                    · have hpf := hp.func 32
                      go_simp
                    rintro e u' ⟨rfl, hb⟩
                    exact ⟨_, rfl, rfl, hJ.trans (hb.mono hJ.size), hb⟩
                  · refine stepg_free rfl ?_
                    intro ρ u hp hJ hr
                    have r1 : ρ (.tmp 66) = .bool (eqB [pk] [dt]) := hr.1
                    clear hr
                    refine gives_value (v := .bool (eqB [pk] [dt])) (w' := u) ?_ ⟨rfl, hJ, Below.refl _ _⟩
                    go_simp
                  · refine stepg_if (eqB [pk] [dt]) 10 true 67 rfl rfl (fun v u h => h) ?_ (fun hn u hc => absurd hc hn)
                    intro hc ρ u hp hJ hr
                    have r1 : ρ (.tmp 7) = .pointer (some ⟨ba, 0, none⟩) := hr.1
                    clear hr
                    refine gives_value (v := .pointer (some ⟨ba, 0, none⟩)) (w' := u) ?_ ⟨fun _ => rfl, hJ, Below.refl _ _⟩
                    go_simp
                  · refine stepg_if (eqB [pk] [dt]) 10 true 67 rfl rfl (fun v u h => h) ?_ (fun hn u hc => absurd hc hn)
                    intro hc ρ u hp hJ hr
                    have r1 : ρ (.tmp 68) = .pointer (some ⟨ba, 0, none⟩) := hr.1 hc
                    clear hr
                    refine gives_value (v := .pointer (some ⟨ba, 0, none⟩)) (w' := u) ?_ ⟨fun _ => rfl, hJ, Below.refl _ _⟩
                    go_simp
                  · refine stepg_if (eqB [pk] [dt]) 10 true 67 rfl rfl (fun v u h => h) ?_ (fun hn u hc => absurd hc hn)
                    intro hc ρ u hp hJ hr
                    have r1 : ρ (.tmp 69) = .pointer (some ⟨ba, 0, none⟩) := hr.1 hc
                    clear hr
                    refine gives_value (v := .pointer (some ⟨ba, 66, none⟩)) (w' := u) ?_ ⟨fun _ => rfl, hJ, Below.refl _ _⟩
                    go_simp
                  · refine stepg_if (eqB [pk] [dt]) 10 true 67 rfl rfl (fun v u h => h) ?_ (fun hn u hc => absurd hc hn)
                    intro hc ρ u hp hJ hr
                    have r1 : ρ (.tmp 70) = .pointer (some ⟨ba, 66, none⟩) := hr.1 hc
                    clear hr
                    have q66 : u.cell? ⟨ba, 66, none⟩ = some (.int .i64 A.kind) := cell_b hJ c66
                    refine gives_value (v := .int .i64 A.kind) (w' := u) ?_ ⟨fun _ => rfl, hJ, Below.refl _ _⟩
                    go_simp
                  · refine stepg_if (eqB [pk] [dt]) 10 true 67 rfl rfl (fun v u h => h) ?_ (fun hn u hc => absurd hc hn)
                    intro hc ρ u hp hJ hr
                    have r1 : ρ (.tmp 71) = .int .i64 A.kind := hr.1 hc
                    clear hr
                    have z1 := hp.const (.int .i64 2)
                    refine gives_value (v := .bool (A.kind == 2)) (w' := u) ?_ ⟨fun _ => rfl, hJ, Below.refl _ _⟩
                    go_simp
                  · refine stepg_free rfl ?_
                    intro ρ u hp hJ hr
                    have r1 : ρ (.tmp 67) = .bool (eqB [pk] [dt]) := hr.1
                    have r2 : eqB [pk] [dt] = true → ρ (.tmp 72) = .bool (A.kind == 2) := hr.2.1
                    clear hr
                    have z1 := hp.const (.bool false)
                    refine gives_value (v := .bool (eqB [pk] [dt] && (A.kind == 2))) (w' := u) ?_ ⟨rfl, hJ, Below.refl _ _⟩
                    revert r1 r2
                    generalize eqB [pk] [dt] = cb
                    intro r1 r2
                    cases cb with
                    | true => have r2 := r2 rfl; go_simp
                    | false => go_simp
                  · refine stepg_free rfl ?_
                    intro ρ u hp hJ hr
                    have r1 : ρ (.tmp 73) = .bool (eqB [pk] [dt] && (A.kind == 2)) := hr.1
                    clear hr
                    refine gives_value (v := .bool (eqB [pk] [dt] && (A.kind == 2))) (w' := u) ?_ ⟨rfl, hJ, Below.refl _ _⟩
                    go_simp
                  · refine stepg_if ((eqB [pk] [dt] && (A.kind == 2))) 17 true 74 rfl rfl (fun v u h => h) ?_ (fun hn u hc => absurd hc hn)
                    intro hc ρ u hp hJ hr
                    have r1 : ρ (.tmp 7) = .pointer (some ⟨ba, 0, none⟩) := hr.1
                    clear hr
                    refine gives_value (v := .pointer (some ⟨ba, 0, none⟩)) (w' := u) ?_ ⟨fun _ => rfl, hJ, Below.refl _ _⟩
                    go_simp
                  · refine stepg_if ((eqB [pk] [dt] && (A.kind == 2))) 17 true 74 rfl rfl (fun v u h => h) ?_ (fun hn u hc => absurd hc hn)
                    intro hc ρ u hp hJ hr
                    have r1 : ρ (.tmp 75) = .pointer (some ⟨ba, 0, none⟩) := hr.1 hc
                    clear hr
                    refine gives_value (v := .pointer (some ⟨ba, 0, none⟩)) (w' := u) ?_ ⟨fun _ => rfl, hJ, Below.refl _ _⟩
                    go_simp
                  · refine stepg_if ((eqB [pk] [dt] && (A.kind == 2))) 17 true 74 rfl rfl (fun v u h => h) ?_ (fun hn u hc => absurd hc hn)
                    intro hc ρ u hp hJ hr
                    have r1 : ρ (.tmp 76) = .pointer (some ⟨ba, 0, none⟩) := hr.1 hc
                    clear hr
                    refine gives_value (v := .pointer (some ⟨ba, 67, none⟩)) (w' := u) ?_ ⟨fun _ => rfl, hJ, Below.refl _ _⟩
                    go_simp
                  · refine stepg_if ((eqB [pk] [dt] && (A.kind == 2))) 17 true 74 rfl rfl (fun v u h => h) ?_ (fun hn u hc => absurd hc hn)
                    intro hc ρ u hp hJ hr
                    have r1 : ρ (.tmp 77) = .pointer (some ⟨ba, 67, none⟩) := hr.1 hc
                    clear hr
                    have q67 : u.cell? ⟨ba, 67, none⟩ = some (.int .i64 A.pos) := cell_b hJ c67
                    refine gives_value (v := .int .i64 A.pos) (w' := u) ?_ ⟨fun _ => rfl, hJ, Below.refl _ _⟩
                    go_simp
                  · refine stepg_if ((eqB [pk] [dt] && (A.kind == 2))) 17 true 74 rfl rfl (fun v u h => h) ?_ (fun hn u hc => absurd hc hn)
                    intro hc ρ u hp hJ hr
                    have r1 : ρ (.tmp 11) = .int .i64 (k : Int) := hr.1
                    clear hr
                    refine gives_value (v := .int .i64 (k : Int)) (w' := u) ?_ ⟨fun _ => rfl, hJ, Below.refl _ _⟩
                    go_simp
                  · refine stepg_if ((eqB [pk] [dt] && (A.kind == 2))) 17 true 74 rfl rfl (fun v u h => h) ?_ (fun hn u hc => absurd hc hn)
                    intro hc ρ u hp hJ hr
                    have r1 : ρ (.tmp 78) = .int .i64 A.pos := hr.1 hc
                    have r2 : ρ (.tmp 79) = .int .i64 (k : Int) := hr.2.1 hc
                    clear hr
                    refine gives_value (v := .bool (A.pos == (k : Int))) (w' := u) ?_ ⟨fun _ => rfl, hJ, Below.refl _ _⟩
                    go_simp
                  · refine stepg_free rfl ?_
                    intro ρ u hp hJ hr
                    have r1 : ρ (.tmp 74) = .bool (eqB [pk] [dt] && (A.kind == 2)) := hr.1
                    have r2 : (eqB [pk] [dt] && (A.kind == 2)) = true → ρ (.tmp 80) = .bool (A.pos == (k : Int)) := hr.2.1
                    clear hr
                    have z1 := hp.const (.bool false)
                    refine gives_value (v := .bool ((eqB [pk] [dt] && (A.kind == 2)) && (A.pos == (k : Int)))) (w' := u) ?_ ⟨rfl, hJ, Below.refl _ _⟩
                    revert r1 r2
                    generalize (eqB [pk] [dt] && (A.kind == 2)) = cb
                    intro r1 r2
                    cases cb with
                    | true => have r2 := r2 rfl; go_simp
                    | false => go_simp
                  · refine stepg_free rfl ?_
                    intro ρ u hp hJ hr
                    have r1 : ρ (.tmp 81) = .bool ((eqB [pk] [dt] && (A.kind == 2)) && (A.pos == (k : Int))) := hr.1
                    clear hr
                    refine gives_value (v := .bool ((eqB [pk] [dt] && (A.kind == 2)) && (A.pos == (k : Int)))) (w' := u) ?_ ⟨rfl, hJ, Below.refl _ _⟩
                    go_simp
                case fin =>
                  intro f u hF hJ hU
                  have f12 : f 12 = .bool ((eqB [pk] [dt] && (A.kind == 2)) && (A.pos == (k : Int))) := hF.2.2.2.2.2.2.2.2.2.2.2.2.2.2.2.2.2.2.2.2.2.2.2.2.2.1
                  have HJ := Lib.hid hJ
                  clear hF hU hJ
                  simp only [laid]
                  rw [f12]
                  clear f12
                  generalize ((eqB [pk] [dt] && (A.kind == 2)) && (A.pos == (k : Int))) = fb
                  go_wp2_with fail
                  go_loopw [12, 13] (fun fv j wr2 => ∃ (m : Nat) (fb : Bool), m ≤ ls.length ∧ j = .int .i64 m ∧ fv = .bool fb ∧ Hid (Below w4.heap.size w4 wr2) ∧ Hid (∀ i, i < m → ls[i]? = some pk → fb = true)) (fun _ j _ => ls.length - (intOf j).toNat)
                  case atStart => exact ⟨0, fb, by omega, rfl, rfl, HB5.out.trans (HJ.out.mono HB5.out.size), fun i hi => by omega⟩
                  case round =>
                    clear c66 c67 c68 csk HJ HAr HDr
                    obtain ⟨m, fb, hm, rfl, rfl, HB6, HF⟩ := hrel
                    have HAr : Hid (AlAt wr col b bd ba (l.length + 1) A) := HAt.out.keep (HB6.out.block _ HAt.out.lt) (fun k hk => HB6.out.block k hk.1) (Im.step HB6.out.size) (Nat.le_refl _)
                    have HDr := Lib.hid (HD.out.below HB6.out)
                    have csk : wr.cell? ⟨ba, 34 + k, none⟩ = some (.slice As ls.length cs) := (HB6.out.cell (p := ⟨ba, 34 + k, none⟩) HAt.out.lt).trans Hcs.out
                    by_cases hml : m < ls.length
                    · have hml2 : (m : Int) < (ls.length : Int) := by omega
                      have hst4 := HS4.out.below HB6.out
                      obtain ⟨g, off, rfl, _, _, hcm⟩ := hst4.at_ (by omega)
                      have hx : ls[m]? = some ls[m] := List.getElem?_eq_getElem hml
                      obtain ⟨cm, _⟩ := hcm m _ hx
                      have Hx := Lib.hid hx
                      obtain ⟨dm, hdm⟩ : ∃ dm, ls[m] = dm := ⟨_, rfl⟩
                      rw [hdm] at cm Hx
                      clear hst4 hcm hx hdm
                      have g1 : ∀ d os, (grow (redrawn wr d) os).cell? ⟨ba, 34 + k, none⟩ = some (.slice (some ⟨g, off, none⟩) ls.length cs) := fun _ _ => cell_regrown csk _ _
                      have g2 : ∀ d os, (grow (redrawn wr d) os).cell? ⟨g, off + m, none⟩ = some (.string dm) := fun _ _ => cell_regrown cm _ _
                      have HPk : Hid (∀ d os, Calls Try.prog 33 #[.pointer (some ⟨bd, 0, none⟩), .int .i64 (k : Int)] (grow (redrawn wr d) os) (RetSame (.string pk) (grow (redrawn wr d) os))) := fun d os => Hpk.out ▸ devpeek_any _ _ _ bd dc k hlt (HDr.out.below (below_regrown wr d os))
                      cases fb with
                      | true =>
                        go_wp2_with fail
                        refine wp_region_quiet_below mixed (by kernel_rfl) ?_
                        repeat (first | go_big_quiet_step ((go_at_call 33; exact Calls.rgSame (HPk.out _ _))) | quiet_step ((go_at_call 33; exact Calls.rgSame (HPk.out _ _))))
                        refine wpQuiet_nil ?_
                        intro _ hw'
                        obtain ⟨⟨dq, osq⟩, hw''⟩ := hw'
                        subst hw''
                        have HJ := Lib.hid (below_regrown wr dq osq)
                        clear g1 g2
                        generalize grow (redrawn wr dq) osq = u at HJ ⊢
                        go_wp2_with fail
                        go_roundw
                        case rel =>
                          refine ⟨m + 1, true, by omega, by go_num, rfl, HB6.out.trans (HJ.out.mono HB6.out.size), fun i hi hls => ?_⟩
                          rfl
                        case measure => simp [intOf]; omega
                      | false =>
                        go_wp2_with fail
                        refine wp_region_quiet_below mixed (by kernel_rfl) ?_
                        repeat (first | go_big_quiet_step ((go_at_call 33; exact Calls.rgSame (HPk.out _ _))) | quiet_step ((go_at_call 33; exact Calls.rgSame (HPk.out _ _))))
                        refine wpQuiet_nil ?_
                        intro _ hw'
                        obtain ⟨⟨dq, osq⟩, hw''⟩ := hw'
                        subst hw''
                        have HJ := Lib.hid (below_regrown wr dq osq)
                        clear g1 g2
                        generalize grow (redrawn wr dq) osq = u at HJ ⊢
                        go_wp2_with fail
                        go_roundw
                        case rel =>
                          refine ⟨m + 1, (dm.toList == pk.toList), by omega, by go_num, rfl, HB6.out.trans (HJ.out.mono HB6.out.size), fun i hi hls => ?_⟩
                          by_cases him : i = m
                          · rw [him, Hx.out] at hls
                            have e : dm = pk := Option.some.inj hls
                            rw [e]; simp
                          · cases HF.out i (by omega) hls
                        case measure => simp [intOf]; omega
                    · obtain rfl : m = ls.length := by omega
                      have hml2 : ¬ (ls.length : Int) < (ls.length : Int) := by omega
                      have hft : fb = true := by
                        obtain ⟨i, hi⟩ := List.mem_iff_getElem?.1 (Hls.out ▸ Hpk.out ▸ HIn.out k hlt : pk ∈ ls)
                        exact HF.out i (List.getElem?_eq_some_iff.1 hi).1 hi
                      subst hft
                      go_wp2_with fail
                      go_roundw
                      case rel => exact ⟨k + 1, by omega, by go_num, HB6.out⟩
                      case measure => simp [intOf]; omega
              · obtain rfl : k = 32 := by omega
                have hlt2 : ¬ ((32 : Nat) : Int) < 32 := by omega
                go_wp2_with fail
                go_ret
                exact ⟨rfl, HB4.out.trans (HB5.out.mono HB4.out.size)⟩
end Go.Proofs.Ytojmnfelecnenaa
namespace Go.Proofs.Ytojmnfelecnenaa.topSync
open Go.ChangeShapes Go.WideShapes Go.ChangeAt Go.RowKit Go.Joins

set_option maxRecDepth 100000 in
theorem lifted (os : Os) (started : os.Started) (H : Type) (enc : TypeId × Value → H) :
    ReturnsInHanded {} Try.checked os 8 .any (Rows.topSyncSpec.pre6 enc Try.prog Try.f8 Rows.topSyncRow.domain false) (Rows.topSyncSpec.post enc Try.prog Try.f8 false true false false) := by
  refine returnsInHanded_of_change (C := Try.checked) own started (by kernel_rfl) Try.func8
    (ChangeSpec.witness6 (enc := enc) (C := Try.checked) false ⟨#[], #[.slice none 0 0, .int .u64 0], []⟩ 8 (by kernel_rfl) (by kernel_rfl) (by kernel_rfl) (by kernel_rfl)) ?_
  intro W base args ds gs before hval0 hW _ _
  have hval : ∀ (j : Nat) t v, Try.f8.params[j]? = some t → args[j]? = some v → Value.okWide Try.prog W .any base t v := hval0
  refine law_contract (fn := Try.f8) rfl rfl (fun ds h => ?_) (by rw [Try.params8]; intro t ht; simp at ht; rcases ht with rfl | rfl <;> exact ⟨by kernel_rfl, of_decide_eq_true (by kernel_rfl)⟩) hW ?_
  · match ds, h with
    | [_, _], _ => rfl
  · intro p hA hlt
    rw [Try.params8] at hA hval
    obtain ⟨v0, vs0, d0, ds0, p0, q0, hargs, rfl, rfl, h0, r0⟩ := trodAll_cons hA
    obtain ⟨v1, vs1, d1, ds1, p1, q1, rfl, rfl, rfl, h1, r1⟩ := trodAll_cons r0
    obtain ⟨rfl, rfl, rfl⟩ := trodAll_nil r1
    obtain rfl : args = #[v0, v1] := by cases args; simp_all
    obtain ⟨l0, hl0⟩ := steps_of h0 (okWide_slice Try.underlying22 (hval 0 22 v0 rfl rfl))
    obtain ⟨x1, rfl, rfl, rfl, w1⟩ := open_int Try.underlying61 (hval 1 61 v1 rfl rfl) h1
    obtain ⟨hk0, hk1⟩ := bounds_u64 w1
    obtain ⟨keep, rfl⟩ : ∃ k : Nat, x1 = (k : Int) := ⟨x1.toNat, by omega⟩
    exact sync_walk l0 v0 keep (by omega) W hl0

theorem over : Rows.topSyncRow.holds Try.pinned (OpenSpec.ofChange Rows.topSyncSpec) :=
  OpenClaim.holds_of_wide 8 Try.f8 rfl rfl rfl rfl rfl rfl rfl ⟨rfl, rfl, rfl, rfl, rfl⟩ rfl rfl rfl rfl rfl (by kernel_rfl) Try.func8 (by kernel_rfl)
    (of_decide_eq_true (by kernel_rfl)) (by unfold Func.isWrapper; rw [if_neg (of_decide_eq_false (by kernel_rfl))]; exact ⟨rfl, rfl⟩)
    (fun os started H enc _ => lifted os started H enc)

theorem proved : Rows.TopSyncSaid :=
  over
#print axioms proved
end Go.Proofs.Ytojmnfelecnenaa.topSync
