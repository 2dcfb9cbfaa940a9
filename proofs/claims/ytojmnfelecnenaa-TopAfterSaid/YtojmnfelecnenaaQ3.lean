/- A region that draws its order, by what is known of each operation's own result, whatever the order. request.Merge: two requests that are next to each other, put together. Of two requests that are put together: plain facts. Blocks of the call's own: what lies in each, in a list. request.Check. -/
import Derived.Orders
import Derived.WalkKit
import Derived.Lib.Hide
import Derived.Test.YtojmnfelecnenaaQ1
import Derived.Test.YtojmnfelecnenaaQ2
namespace Go.Proofs.Ytojmnfelecnenaa
set_option linter.unusedSimpArgs false
set_option linter.unusedVariables false
open Go

section
variable {P : Program}

/-- What an operation yields, its operands being read by ρ: a value, and a world, of which K holds. -/
def OpGives (P : Program) (o : Oper) (ρ : Operand → Value) (w : World) (K : Value → World → Prop) : Prop :=
  match (execOp ρ o).run P w with
  | .ok (.value v) w' => K v w'
  | .ok .skip w' => K undef w'
  | .ok (.enter f args) w' => Calls P f args w' (fun e w'' => ∃ v, e = .returned v ∧ K v w'')
  | _ => False
theorem wp_of_gives {o : Oper} {a : Act} {w : World} {K : Value → World → Prop} {K' : Act → World → Prop} {Q : Exit → Act → World → Prop} (h : OpGives P o a.eval w K) (hk : ∀ v w', K v w' → K' (a.put o.dst v) w') : o.wp P a w K' Q := by
  unfold OpGives at h
  unfold Oper.wp
  generalize (execOp a.eval o).run P w = r at *
  cases r with
  | ok n w' =>
    cases n <;> simp only [Oper.upon] at h ⊢
    case value v => exact hk _ _ h
    case skip => exact hk _ _ h
    case enter f args => exact h.mono fun e w'' ⟨v, he, hv⟩ => by subst he; exact hk _ _ hv
  | halt x w' => simp only at h

theorem gives_value {o : Oper} {ρ : Operand → Value} {w w' : World} {v : Value} {K : Value → World → Prop} (h : (execOp ρ o).run P w = .ok (.value v) w') (hk : K v w') : OpGives P o ρ w K := by
  unfold OpGives; rw [h]; exact hk
theorem gives_skip {o : Oper} {ρ : Operand → Value} {w w' : World} {K : Value → World → Prop} (h : (execOp ρ o).run P w = .ok .skip w') (hk : K undef w') : OpGives P o ρ w K := by
  unfold OpGives; rw [h]; exact hk
theorem gives_enter {o : Oper} {ρ : Operand → Value} {w w' : World} {f : FuncId} {args : Array Value} {K : Value → World → Prop} (h : (execOp ρ o).run P w = .ok (.enter f args) w') (hk : Calls P f args w' (fun e w'' => ∃ v, e = .returned v ∧ K v w'')) : OpGives P o ρ w K := by
  unfold OpGives; rw [h]; exact hk

def tmpsOf (o : Oper) : List Tmp := o.op.operands.toList.filterMap fun | .tmp t => some t | _ => none
abbrev SlotFact := Value → World → Prop
/-- What is known of a slot: by the list, else that it is as it was. -/
def slotG (Gs : List (Tmp × SlotFact)) (a : Act) (d : Tmp) : SlotFact := match Gs.lookup d with
  | some F => F
  | none => fun v _ => v = a.eval (.tmp d)
def Reads (G : Tmp → SlotFact) (ρ : Operand → Value) (w : World) : List Tmp → Prop
  | [] => True
  | d :: r => G d (ρ (.tmp d)) w ∧ Reads G ρ w r
def GD (G : Tmp → SlotFact) (d : Option Tmp) : SlotFact := match d with
  | some d => G d
  | none => fun _ _ => True
/-- ρ reads what is no slot as the machine does. -/
structure Plain (ρ : Operand → Value) : Prop where
  const : ∀ v, ρ (.const v) = v
  global : ∀ g, ρ (.global g) = .pointer (some ⟨g, 0, none⟩)
  func : ∀ f, ρ (.func f) = .func (.func f) #[] #[]
/-- The operation number i: what it yields has what is known of its slot; Ev i holds from then on. -/
def StepOk (P : Program) (G : Tmp → SlotFact) (J : World → Prop) (R : World → World → Prop) (Ev : Nat → World → Prop) (i : Nat) (o : Oper) : Prop :=
  ∀ ρ w, Plain ρ → J w → Reads G ρ w (tmpsOf o) → OpGives P o ρ w (fun v w' => GD G o.dst v w' ∧ J w' ∧ R w w' ∧ Ev i w')
def StepsOk (P : Program) (G : Tmp → SlotFact) (J : World → Prop) (R : World → World → Prop) (Ev : Nat → World → Prop) : Nat → List Oper → Prop
  | _, [] => True
  | i, o :: os => StepOk P G J R Ev i o ∧ StepsOk P G J R Ev (i + 1) os
def StableAll (R : World → World → Prop) : List (Tmp × SlotFact) → Prop
  | [] => True
  | g :: gs => (∀ v w w', g.2 v w → R w w' → g.2 v w') ∧ StableAll R gs
def dstsOf (ops : List Oper) : List Tmp := ops.filterMap (·.dst)
/-- The frame behind the region: f gives what is in each slot that it wrote. -/
def laid (f : Tmp → Value) : List Oper → Act → Act
  | [], a => a
  | o :: os, a => laid f os (a.put o.dst (match o.dst with | some d => f d | none => undef))
def FinFacts (f : Tmp → Value) (w : World) : List (Tmp × SlotFact) → Prop
  | [] => True
  | g :: gs => g.2 (f g.1) w ∧ FinFacts f w gs

/-- Each operation waits for those whose results it reads; no slot is written twice; the order of the text is one of those that may be. -/
def regB (n : Nat) (ops : List Oper) : Bool :=
  (List.range ops.length).all fun i => match ops[i]? with
    | none => true
    | some o => o.guard.isNone && (match o.dst with | some d => decide (d < n) | none => true) &&
      o.after.toList.all (fun e => !Region.binds .any e || decide (e.on < i)) &&
      (List.range ops.length).all fun j => match ops[j]? with
        | none => true
        | some oj => match oj.dst with
          | none => true
          | some d => (!(tmpsOf o).contains d || o.after.toList.any (fun e => Region.binds .any e && e.on == j)) && (j == i || o.dst != some d)

theorem laid_eq {f : Tmp → Value} {a : Act} (hf : ∀ d, d < a.tmps.size → a.tmps[d]? = some (f d)) : ∀ (ops : List Oper) (b : Act), b.defers = a.defers → b.tmps.size = a.tmps.size →
    (∀ d, d < a.tmps.size → b.tmps[d]? = a.tmps[d]? ∨ d ∈ dstsOf ops) → laid f ops b = a
  | [], b, h1, h2, h3 => by
    unfold laid
    obtain ⟨bt, bd⟩ := b
    obtain ⟨at_, ad⟩ := a
    simp only at h1 h2 h3 ⊢
    subst h1
    congr 1
    apply Array.ext_getElem?
    intro i
    rcases Nat.lt_or_ge i at_.size with h | h
    · rcases h3 i h with h4 | h4
      · exact h4
      · simp [dstsOf] at h4
    · rw [Array.getElem?_eq_none h, Array.getElem?_eq_none (by omega)]
  | o :: os, b, h1, h2, h3 => by
    unfold laid
    cases hd : o.dst with
    | none =>
      refine laid_eq hf os _ (by simpa [Act.put] using h1) (by simpa [Act.put] using h2) (fun d hl => ?_)
      have := h3 d hl
      simpa [Act.put, dstsOf, hd] using this
    | some e =>
      refine laid_eq hf os _ (by simpa [Act.put] using h1) (by simpa [Act.put] using h2) (fun d hl => ?_)
      by_cases hde : d = e
      · subst hde
        left
        simp only [Act.put]
        rw [Array.getElem?_setIfInBounds_self_of_lt (by omega), hf d hl]
      · rcases h3 d hl with h | h
        · left
          simp only [Act.put]
          rw [Array.getElem?_setIfInBounds_ne (fun h => hde h.symm)]
          exact h
        · right
          simp [dstsOf, hd] at h ⊢
          rcases h with h | h
          · exact absurd h hde
          · exact h

theorem slotG_stable {R : World → World → Prop} {a : Act} {d : Tmp} {v : Value} {w w' : World} : ∀ {Gs : List (Tmp × SlotFact)}, StableAll R Gs → slotG Gs a d v w → R w w' → slotG Gs a d v w'
  | [], _, h, _ => h
  | g :: gs, hst, h, hr => by
    unfold slotG at *
    rw [List.lookup_cons] at *
    by_cases hd : (d == g.1) = true
    · simp only [hd, cond_true] at *
      exact hst.1 _ _ _ h hr
    · simp only [Bool.not_eq_true] at hd
      simp only [hd, cond_false] at *
      exact slotG_stable (Gs := gs) (a := a) hst.2 h hr
theorem slotG_none {Gs : List (Tmp × SlotFact)} {a : Act} {d : Tmp} (h : d ∉ Gs.map (·.1)) : slotG Gs a d = fun v _ => v = a.eval (.tmp d) := by
  unfold slotG
  have : Gs.lookup d = none := by
    induction Gs with
    | nil => rfl
    | cons g gs ih =>
      simp only [List.map_cons, List.mem_cons, not_or] at h
      rw [List.lookup_cons]
      have h1 : (d == g.1) = false := by simpa using h.1
      rw [h1]
      exact ih h.2
  rw [this]
theorem slotG_fin {f : Tmp → Value} {w : World} {a : Act} : ∀ {Gs : List (Tmp × SlotFact)}, (Gs.map (·.1)).Nodup → (∀ d, d ∈ Gs.map (·.1) → slotG Gs a d (f d) w) → FinFacts f w Gs
  | [], _, _ => trivial
  | g :: gs, hn, h => by
    rw [List.map_cons, List.nodup_cons] at hn
    refine ⟨?_, slotG_fin (a := a) hn.2 (fun d hd => ?_)⟩
    · have := h g.1 (by simp)
      unfold slotG at this
      rw [List.lookup_cons] at this
      simpa using this
    · have := h d (by simp [hd])
      unfold slotG at this ⊢
      rw [List.lookup_cons] at this
      have hne : (d == g.1) = false := by
        have : d ≠ g.1 := fun e => hn.1 (e ▸ hd)
        simpa using this
      rw [hne] at this
      exact this
theorem steps_at {G : Tmp → SlotFact} {J : World → Prop} {R : World → World → Prop} {Ev : Nat → World → Prop} : ∀ {ops : List Oper} {k : Nat}, StepsOk P G J R Ev k ops → ∀ {i : Nat} {o : Oper}, ops[i]? = some o → StepOk P G J R Ev (k + i) o
  | [], _, _, i, o, h => by simp at h
  | o' :: os, k, hs, 0, o, h => by simp at h; subst h; exact hs.1
  | o' :: os, k, hs, i + 1, o, h => by
    have := steps_at hs.2 (i := i) (o := o) (by simpa using h)
    rwa [show k + 1 + i = k + (i + 1) by omega] at this
theorem reads_of {G : Tmp → SlotFact} {ρ : Operand → Value} {w : World} : ∀ {l : List Tmp}, (∀ d ∈ l, G d (ρ (.tmp d)) w) → Reads G ρ w l
  | [], _ => trivial
  | d :: r, h => ⟨h d (by simp), reads_of fun e he => h e (by simp [he])⟩

structure RegOk (n : Nat) (ops : List Oper) : Prop where
  guard : ∀ (i : Nat) (o : Oper), ops[i]? = some o → o.guard = none
  dst : ∀ (i : Nat) (o : Oper) (d : Tmp), ops[i]? = some o → o.dst = some d → d < n
  order : ∀ (i : Nat) (o : Oper) (e : Edge), ops[i]? = some o → e ∈ o.after → Region.binds .any e = true → e.on < i
  waits : ∀ (i : Nat) (o : Oper) (j : Nat) (oj : Oper) (d : Tmp), ops[i]? = some o → ops[j]? = some oj → oj.dst = some d → d ∈ tmpsOf o → ∃ e ∈ o.after, Region.binds .any e = true ∧ e.on = j
  once : ∀ (i : Nat) (o : Oper) (j : Nat) (oj : Oper) (d : Tmp), ops[i]? = some o → ops[j]? = some oj → o.dst = some d → oj.dst = some d → j = i
theorem regB_ok {n : Nat} {ops : List Oper} (h : regB n ops = true) : RegOk n ops := by
  unfold regB at h
  rw [List.all_eq_true] at h
  have key : ∀ i o, ops[i]? = some o → (o.guard.isNone = true ∧ (match o.dst with | some d => decide (d < n) | none => true) = true) ∧ (o.after.toList.all (fun e => !Region.binds .any e || decide (e.on < i))) = true ∧
      ∀ j oj d, ops[j]? = some oj → oj.dst = some d → (!(tmpsOf o).contains d || o.after.toList.any (fun e => Region.binds .any e && e.on == j)) = true ∧ (j == i || o.dst != some d) = true := by
    intro i o hi
    have hlt : i < ops.length := by
      rcases Nat.lt_or_ge i ops.length with h | h
      · exact h
      · rw [List.getElem?_eq_none h] at hi; cases hi
    have h1 := h i (List.mem_range.2 hlt)
    simp only [hi, Bool.and_eq_true] at h1
    refine ⟨h1.1.1, h1.1.2, fun j oj d hj hd => ?_⟩
    have hlt2 : j < ops.length := by
      rcases Nat.lt_or_ge j ops.length with h | h
      · exact h
      · rw [List.getElem?_eq_none h] at hj; cases hj
    have h2 := List.all_eq_true.1 h1.2 j (List.mem_range.2 hlt2)
    simp only [hj, hd, Bool.and_eq_true] at h2
    exact h2
  refine ⟨fun i o hi => by simpa using (key i o hi).1.1, fun i o d hi hd => ?_, fun i o e hi he hb => ?_, fun i o j oj d hi hj hd hm => ?_, fun i o j oj d hi hj hd hd2 => ?_⟩
  · have := (key i o hi).1.2
    rw [hd] at this
    simpa using this
  · have := List.all_eq_true.1 (key i o hi).2.1 e (by simpa using he)
    simpa [hb] using this
  · have := ((key i o hi).2.2 j oj d hj hd).1
    simp only [Bool.or_eq_true, Bool.not_eq_true', List.any_eq_true, Bool.and_eq_true, beq_iff_eq] at this
    rcases this with h1 | ⟨e, he, hb, ho⟩
    · rw [List.contains_iff_mem.2 hm] at h1; cases h1
    · exact ⟨e, by simpa using he, hb, ho⟩
  · have := ((key i o hi).2.2 j oj d hj hd2).2
    simpa [hd] using this

theorem wp_region_inv {id : Nat} {ops : List Oper} {Q : Exit → Act → World → Prop} {a : Act} {w : World} (hm : P.follows .mixedOrders = true) (Gs : List (Tmp × SlotFact)) (J : World → Prop) (R : World → World → Prop) (Ev : Nat → World → Prop)
    (hB : regB a.tmps.size ops = true) (hGs : Gs.map (·.1) = dstsOf ops) (hnd : (dstsOf ops).Nodup) (hJ : J w.drew) (hst : StableAll R Gs) (hev : ∀ k w w', Ev k w → R w w' → Ev k w') (hsteps : StepsOk P (slotG Gs a) J R Ev 0 ops)
    (hfin : ∀ f w', FinFacts f w' Gs → J w' → (∀ k, k < ops.length → Ev k w') → Q .normal (laid f ops a) w') : (Code.region id ops.toArray true).wp P Q a w := by
  have hR := regB_ok hB
  have hget : ∀ j : Nat, ops.toArray[j]? = ops[j]? := fun j => by simp
  have main : ∀ (fuel : Nat) (listed : Array Bool) (b : Act) (w : World), listed.size = ops.length → ((List.range ops.length).filter (fun j => !listed.getD j true)).length ≤ fuel → J w → b.defers = a.defers → b.tmps.size = a.tmps.size →
      (∀ d, (∀ j o, ops[j]? = some o → o.dst = some d → listed.getD j false = true) → slotG Gs a d (b.eval (.tmp d)) w) → (∀ d, d ∉ dstsOf ops → b.tmps[d]? = a.tmps[d]?) → (∀ k, listed.getD k false = true → Ev k w) → wpAny P .any ops.toArray Q fuel listed b w := by
    have fin : ∀ (listed : Array Bool) (b : Act) (w : World), (∀ j, j < ops.length → listed.getD j false = true) → J w → b.defers = a.defers → b.tmps.size = a.tmps.size →
        (∀ d, (∀ j o, ops[j]? = some o → o.dst = some d → listed.getD j false = true) → slotG Gs a d (b.eval (.tmp d)) w) → (∀ d, d ∉ dstsOf ops → b.tmps[d]? = a.tmps[d]?) → (∀ k, listed.getD k false = true → Ev k w) → Q .normal b w := by
      intro listed b w hall hj hd1 hd2 hG hU hE
      have hf := hfin (fun d => b.eval (.tmp d)) w (slotG_fin (a := a) (by rw [hGs]; exact hnd) (fun d _ => hG d (fun j o hjo _ => hall j (by
        rcases Nat.lt_or_ge j ops.length with h | h
        · exact h
        · rw [List.getElem?_eq_none h] at hjo; cases hjo)))) hj (fun k hk => hE k (hall k hk))
      rw [laid_eq (a := b) (fun d hl => by simp [Act.eval, hl]) ops a hd1.symm hd2.symm (fun d hl => by
        by_cases hm : d ∈ dstsOf ops
        · exact .inr hm
        · exact .inl (hU d hm).symm)] at hf
      exact hf
    intro fuel
    induction fuel with
    | zero =>
      intro listed b w hsz hcnt hj hd1 hd2 hG hU hE
      have hall : ∀ j, j < ops.length → listed.getD j false = true := by
        intro j hjl
        have h0 : (List.range ops.length).filter (fun j => !listed.getD j true) = [] := List.eq_nil_of_length_eq_zero (by omega)
        have := List.filter_eq_nil_iff.1 h0 j (List.mem_range.2 hjl)
        simp only [Array.getD, hsz, hjl, dite_true] at this ⊢
        simpa using this
      refine ⟨?_, fin listed b w hall hj hd1 hd2 hG hU hE⟩
      rw [List.eq_nil_iff_forall_not_mem]
      intro j hjr
      obtain ⟨h1, o, ho, _⟩ := mem_ready.1 hjr
      rw [hget] at ho
      have hjl : j < ops.length := by
        rcases Nat.lt_or_ge j ops.length with h | h
        · exact h
        · rw [List.getElem?_eq_none h] at ho; cases ho
      have h2 := hall j hjl
      simp only [Array.getD, hsz, hjl, dite_true] at h1 h2
      rw [h1] at h2; cases h2
    | succ fuel ih =>
      intro listed b w hsz hcnt hj hd1 hd2 hG hU hE
      refine ⟨fun hr => ?_, fun i hi => ?_⟩
      · refine fin listed b w (fun j hjl => ?_) hj hd1 hd2 hG hU hE
        induction j using Nat.strongRecOn with
        | _ j ihj =>
          cases hl : listed.getD j false with
          | true => rfl
          | false =>
            exfalso
            have hmem : j ∈ Region.ready .any ops.toArray listed := by
              refine mem_ready.2 ⟨?_, ops[j], by rw [hget]; exact List.getElem?_eq_getElem hjl, fun e he hb => ?_⟩
              · simp only [Array.getD, hsz, hjl, dite_true] at hl ⊢
                exact hl
              · have ho := hR.order j _ e (List.getElem?_eq_getElem hjl) he hb
                exact ihj e.on ho (by omega)
            rw [hr] at hmem; cases hmem
      · obtain ⟨hun, o, ho, hdone⟩ := mem_ready.1 hi
        have ho' := ho
        rw [hget] at ho'
        have hil : i < ops.length := by
          rcases Nat.lt_or_ge i ops.length with h | h
          · exact h
          · rw [List.getElem?_eq_none h] at ho'; cases ho'
        unfold wpOp
        simp only [ho]
        have hw : Region.wanted o (yielded ops.toArray b.tmps) = true := by simp [Region.wanted, hR.guard i o ho']
        rw [if_pos hw]
        left
        have hstep := steps_at hsteps ho' b.eval w ⟨fun _ => rfl, fun _ => rfl, fun _ => rfl⟩ hj (reads_of fun d hd => hG d fun j oj hoj hdj => by
          obtain ⟨e, he, hb, rfl⟩ := hR.waits i o j oj d ho' hoj hdj hd
          exact hdone e he hb)
        rw [Nat.zero_add] at hstep
        refine wp_of_gives hstep fun v w' ⟨hv, hj', hr', hev'⟩ => ?_
        have hcnt' : ((List.range ops.length).filter (fun j => !(listed.setIfInBounds i true).getD j true)).length ≤ fuel := by
          have hlt : ((List.range ops.length).filter (fun j => !(listed.setIfInBounds i true).getD j true)).length < ((List.range ops.length).filter (fun j => !listed.getD j true)).length := by
            have e : (List.range ops.length).filter (fun j => !(listed.setIfInBounds i true).getD j true) = ((List.range ops.length).filter (fun j => !listed.getD j true)).filter (fun j => j != i) := by
              rw [List.filter_filter]
              apply List.filter_congr
              intro j hj
              by_cases hji : j = i
              · subst hji
                have : (listed.setIfInBounds j true).getD j true = true := by simp [Array.getD, hsz, hil]
                rw [this]; simp
              · rw [getD_set_ne true (Ne.symm hji)]
                simp [hji]
            rw [e]
            apply List.length_filter_lt_length_iff_exists.2
            exact ⟨i, List.mem_filter.2 ⟨List.mem_range.2 hil, by simpa using hun⟩, by simp⟩
          omega
        refine ih (listed.setIfInBounds i true) _ w' (by simpa using hsz) hcnt' hj' ?_ ?_ (fun d hd => ?_) (fun d hd => ?_) (fun k hk => ?_)
        · unfold Act.put; split <;> exact hd1
        · unfold Act.put; split <;> simpa using hd2
        · by_cases hod : o.dst = some d
          · rw [hod] at hv
            have hdn := hR.dst i o d ho' hod
            have : (b.put o.dst v).eval (.tmp d) = v := by
              rw [hod]
              simp [Act.put, Act.eval, hd2, hdn]
            rw [this]
            exact hv
          · have : (b.put o.dst v).eval (.tmp d) = b.eval (.tmp d) := Act.eval_put (fun e he => by
              intro hh
              injection hh with hh
              exact hod (by rw [he, hh]))
            rw [this]
            refine slotG_stable hst (hG d fun j oj hoj hdj => ?_) hr'
            have h3 := hd j oj hoj hdj
            by_cases hji : j = i
            · subst hji
              rw [ho'] at hoj
              cases hoj
              exact absurd hdj hod
            · rwa [getD_set_ne false (Ne.symm hji)] at h3
        · have hne : o.dst ≠ some d := fun h => hd (List.mem_filterMap.2 ⟨o, List.mem_of_getElem? ho', h⟩)
          have hU' := hU d hd
          unfold Act.put
          split
          · rename_i e he
            simp only
            rw [Array.getElem?_setIfInBounds_ne (fun h => hne (by rw [he, h]))]
            exact hU'
          · exact hU'
        · by_cases hki : k = i
          · subst hki; exact hev'
          · rw [getD_set_ne false (Ne.symm hki)] at hk
            exact hev k _ _ (hE k hk) hr'
  refine wp_region_any hm ?_
  refine main _ _ _ _ (by simp) ?_ hJ rfl rfl (fun d hd => ?_) (fun _ _ => rfl) (fun k hk => ?_)
  · have := List.length_filter_le (fun j => !(Array.replicate ops.toArray.size false).getD j true) (List.range ops.length)
    simpa using this
  · have : d ∉ Gs.map (·.1) := by
      rw [hGs]
      intro hm
      obtain ⟨o, ho, hdo⟩ := List.mem_filterMap.1 hm
      obtain ⟨j, hj⟩ := List.mem_iff_getElem?.1 ho
      have := hd j o hj hdo
      simp at this
      rw [Array.getElem?_replicate] at this
      split at this <;> simp at this
    rw [slotG_none this]
  · exfalso
    simp at hk
    rw [Array.getElem?_replicate] at hk
    split at hk <;> simp at hk
theorem laid_defers {f : Tmp → Value} : ∀ (ops : List Oper) (a : Act), (laid f ops a).defers = a.defers
  | [], a => rfl
  | o :: os, a => by
    unfold laid
    rw [laid_defers os]
    unfold Act.put; split <;> rfl
theorem laid_size {f : Tmp → Value} : ∀ (ops : List Oper) (a : Act), (laid f ops a).tmps.size = a.tmps.size
  | [], a => rfl
  | o :: os, a => by
    unfold laid
    rw [laid_size os]
    unfold Act.put; split <;> simp
theorem laid_out {f : Tmp → Value} {d : Tmp} : ∀ (ops : List Oper) (a : Act), d ∉ dstsOf ops → (laid f ops a).tmps[d]? = a.tmps[d]?
  | [], a, _ => rfl
  | o :: os, a, h => by
    unfold laid
    cases hd : o.dst with
    | none =>
      rw [laid_out os _ (by simpa [dstsOf, hd] using h)]
      rfl
    | some e =>
      have h' : ¬ d = e ∧ d ∉ dstsOf os := by simpa [dstsOf, hd] using h
      rw [laid_out os _ h'.2]
      unfold Act.put
      simp only
      rw [Array.getElem?_setIfInBounds_ne (fun h => h'.1 h.symm)]
theorem laid_in {f : Tmp → Value} {d : Tmp} : ∀ (ops : List Oper) (a : Act), d ∈ dstsOf ops → d < a.tmps.size → (laid f ops a).tmps[d]? = some (f d)
  | [], a, h, _ => by simp [dstsOf] at h
  | o :: os, a, h, hl => by
    unfold laid
    by_cases hm : d ∈ dstsOf os
    · exact laid_in os _ hm (by unfold Act.put; split <;> simpa using hl)
    · rw [laid_out os _ hm]
      cases hd : o.dst with
      | none => simp [dstsOf, hd] at h hm; exact absurd h (by simpa using hm)
      | some e =>
        have h' : d = e ∨ d ∈ dstsOf os := by simpa [dstsOf, hd] using h
        rcases h' with rfl | h'
        · simp [Act.put, hl]
        · exact absurd h' hm
theorem fin_same {f g : Tmp → Value} {w : World} : ∀ {Gs : List (Tmp × SlotFact)}, (∀ d, d ∈ Gs.map (·.1) → g d = f d) → FinFacts f w Gs → FinFacts g w Gs
  | [], _, _ => trivial
  | x :: xs, he, h => by
    refine ⟨?_, fin_same (fun d hd => he d (by simp [hd])) h.2⟩
    rw [he x.1 (by simp)]
    exact h.1
/-- The same, with the frame behind the region named alone by what it shows. -/
theorem wp_region_inv2 {id : Nat} {ops : List Oper} {Q : Exit → Act → World → Prop} {a : Act} {w : World} (hm : P.follows .mixedOrders = true) (Gs : List (Tmp × SlotFact)) (J : World → Prop) (R : World → World → Prop) (Ev : Nat → World → Prop)
    (hB : regB a.tmps.size ops = true) (hGs : Gs.map (·.1) = dstsOf ops) (hnd : (dstsOf ops).Nodup) (hJ : J w.drew) (hst : StableAll R Gs) (hev : ∀ k w w', Ev k w → R w w' → Ev k w') (hsteps : StepsOk P (slotG Gs a) J R Ev 0 ops)
    (hfin : ∀ b w', b.defers = a.defers → b.tmps.size = a.tmps.size → (∀ d, d ∉ dstsOf ops → b.tmps[d]? = a.tmps[d]?) → FinFacts (fun d => b.eval (.tmp d)) w' Gs → J w' → (∀ k, k < ops.length → Ev k w') → Q .normal b w') : (Code.region id ops.toArray true).wp P Q a w := by
  have hR := regB_ok hB
  refine wp_region_inv hm Gs J R Ev hB hGs hnd hJ hst hev hsteps fun f w' hF hJ' hE => hfin _ w' (laid_defers _ _) (laid_size _ _) (fun d hd => laid_out _ _ hd) (fin_same (fun d hd => ?_) hF) hJ' hE
  rw [hGs] at hd
  have hd' := hd
  obtain ⟨o, ho, hdo⟩ := List.mem_filterMap.1 hd'
  obtain ⟨j, hj⟩ := List.mem_iff_getElem?.1 ho
  have hl := hR.dst j o d hj hdo
  have h1 := laid_in (f := f) ops a hd hl
  show (laid f ops a).eval (.tmp d) = f d
  unfold Act.eval
  rw [Array.getElem?_eq_some_iff] at h1
  obtain ⟨h2, h3⟩ := h1
  simp [h2, h3]
end
end Go.Proofs.Ytojmnfelecnenaa
namespace Go.Proofs.Ytojmnfelecnenaa
set_option linter.unusedSimpArgs false
set_option linter.unusedVariables false
open Go.RowKit Go.Sort

def swapM (a b : Rq) : Rq × Rq := if b.lo + b.many = a.lo then (b, a) else (a, b)
def joinOk (a b : Rq) : Prop := a.lo + a.many = b.lo ∧ a.write = b.write ∧ a.many + b.many ≤ 4 ∧ a.tags.length + b.tags.length ≤ 4
instance (a b : Rq) : Decidable (joinOk a b) := by unfold joinOk; infer_instance
def joinM (a b : Rq) : Rq := ⟨a.write, a.lo, a.many + b.many, a.data ++ b.data, a.tags ++ b.tags, min a.born b.born⟩
def joinedM (a b : Rq) : Option Rq := if joinOk a b then some (joinM a b) else none
/-- Two requests put together, if they go together. -/
def mergeM (a b : Rq) : Option Rq := joinedM (swapM a b).1 (swapM a b).2
abbrev zeroR : Rq := ⟨false, 0, 0, [], [], 0⟩

theorem own_keepL {w w' : World} {base : Nat} {e : TypeId} {size n : Nat} {v : Value} {xs : List Value} (h : w.ownsRow base e size v n xs) (hk : ∀ g, base ≤ g → g < w.heap.size → w'.heap[g]? = w.heap[g]?) : w'.ownsRow base e size v n xs := by
  have hl := h.lt
  obtain ⟨h1, h2⟩ := h
  refine ⟨h1, ?_⟩
  rcases h2 with h2 | ⟨g', cap', cur, hv, hb, hh, h3⟩
  · exact .inl h2
  · subst hv
    exact .inr ⟨g', cap', cur, rfl, hb, (hk _ hb (hl g' rfl).2).trans hh, h3⟩
theorem own_mono {w : World} {base base' : Nat} {e : TypeId} {size n : Nat} {v : Value} {xs : List Value} (h : w.ownsRow base e size v n xs) (hb : base' ≤ base) : w.ownsRow base' e size v n xs := by
  obtain ⟨h1, h2⟩ := h
  refine ⟨h1, ?_⟩
  rcases h2 with h2 | ⟨g, cap, cur, hv, hg, h3⟩
  · exact .inl h2
  · exact .inr ⟨g, cap, cur, hv, by omega, h3⟩
theorem own_slice' {w : World} {base : Nat} {e : TypeId} {size n : Nat} {v : Value} {xs : List Value} (h : w.ownsRow base e size v n xs) : ∃ A m c, v = .slice A m c ∧ m = n := by
  rcases h.2 with ⟨rfl, rfl⟩ | ⟨g, cap, cur, rfl, _⟩
  · exact ⟨_, _, _, rfl, rfl⟩
  · exact ⟨_, _, _, rfl, rfl⟩
theorem own_slice {w : World} {base : Nat} {e : TypeId} {size n : Nat} {v : Value} {xs : List Value} (h : w.ownsRow base e size v n xs) : ∃ A c, v = .slice A n c := by
  rcases h.2 with ⟨rfl, rfl⟩ | ⟨g, cap, cur, rfl, _⟩
  · exact ⟨_, _, rfl⟩
  · exact ⟨_, _, rfl⟩
theorem strs_own {S : Nat → Prop} {w : World} {base : Nat} {e : TypeId} {v : Value} {l : List ByteArray} (hS : ∀ b, base ≤ b → S b) (h : w.ownsRow base e 1 v l.length (l.map .string)) (hl : ∀ s ∈ l, s.size ≤ maxLen) : StrsAt S w v l := ⟨Rd.of_own w hS h, hl⟩
theorem ints_own {S : Nat → Prop} {w : World} {base : Nat} {e : TypeId} {v : Value} {l : List Int} (hS : ∀ b, base ≤ b → S b) (h : w.ownsRow base e 1 v l.length (l.map (.int .i64))) (hl : ∀ x ∈ l, -9223372036854775808 ≤ x ∧ x ≤ 9223372036854775807) : IntsAt S w v l := ⟨Rd.of_own w hS h, hl⟩
theorem strs_one (l : List ByteArray) : ∀ u ∈ l.map Value.string, u.oneCell' = true := by
  intro u hu; obtain ⟨s, _, rfl⟩ := List.mem_map.1 hu; rfl
theorem ints_one (l : List Int) : ∀ u ∈ l.map (Value.int .i64), u.oneCell' = true := by
  intro u hu; obtain ⟨s, _, rfl⟩ := List.mem_map.1 hu; rfl

abbrev rqC (r : Rq) (dv tv : Value) : Array Value := #[.bool r.write, .int .i64 r.lo, .int .i64 r.many, dv, tv, .int .i64 r.born]
/-- The two requests in the call's own blocks, and a third block, of the result. -/
structure MSt (B : Nat) (w wr : World) (x y : Rq) (xd xt yd yt : Value) (z : Array Value) : Prop where
  below : Below B w wr
  b0 : wr.heap[B]? = some (.cells (rqC x xd xt) 44 (0, 0))
  b1 : wr.heap[B + 1]? = some (.cells (rqC y yd yt) 44 (0, 0))
  b2 : wr.heap[B + 2]? = some (.cells z 44 (0, 0))
  lt : B + 2 < wr.heap.size
section
variable {B : Nat} {w wr w' : World} {x y : Rq} {xd xt yd yt : Value} {z : Array Value}
theorem MSt.step (h : MSt B w wr x y xd xt yd yt z) (hb : Below wr.heap.size wr w') : MSt B w w' x y xd xt yd yt z :=
  have := h.lt
  ⟨h.below.trans (hb.mono (by omega)), (hb.block _ (by omega)).trans h.b0, (hb.block _ (by omega)).trans h.b1, (hb.block _ (by omega)).trans h.b2, by have := hb.size; omega⟩
theorem MSt.limbs (h : MSt B w wr x y xd xt yd yt z) (hb : Below (B + 2) wr w') :
    w'.cell? ⟨B, 0, none⟩ = some (.bool x.write) ∧ w'.cell? ⟨B, 1, none⟩ = some (.int .i64 x.lo) ∧ w'.cell? ⟨B, 2, none⟩ = some (.int .i64 x.many) ∧ w'.cell? ⟨B, 3, none⟩ = some xd ∧ w'.cell? ⟨B, 4, none⟩ = some xt ∧ w'.cell? ⟨B, 5, none⟩ = some (.int .i64 x.born) ∧
    w'.cell? ⟨B + 1, 0, none⟩ = some (.bool y.write) ∧ w'.cell? ⟨B + 1, 1, none⟩ = some (.int .i64 y.lo) ∧ w'.cell? ⟨B + 1, 2, none⟩ = some (.int .i64 y.many) ∧ w'.cell? ⟨B + 1, 3, none⟩ = some yd ∧ w'.cell? ⟨B + 1, 4, none⟩ = some yt ∧ w'.cell? ⟨B + 1, 5, none⟩ = some (.int .i64 y.born) := by
  have h0 := (hb.block B (by omega)).trans h.b0
  have h1 := (hb.block (B + 1) (by omega)).trans h.b1
  exact ⟨cell_of_row _ _ 0 _ _ _ h0, cell_of_row _ _ 1 _ _ _ h0, cell_of_row _ _ 2 _ _ _ h0, cell_of_row _ _ 3 _ _ _ h0, cell_of_row _ _ 4 _ _ _ h0, cell_of_row _ _ 5 _ _ _ h0,
    cell_of_row _ _ 0 _ _ _ h1, cell_of_row _ _ 1 _ _ _ h1, cell_of_row _ _ 2 _ _ _ h1, cell_of_row _ _ 3 _ _ _ h1, cell_of_row _ _ 4 _ _ _ h1, cell_of_row _ _ 5 _ _ _ h1⟩
theorem MSt.frozen (h : MSt B w wr x y xd xt yd yt z) (j : Nat) : wr.frozen? ⟨B, j, none⟩ = false ∧ wr.frozen? ⟨B + 1, j, none⟩ = false ∧ wr.frozen? ⟨B + 2, j, none⟩ = false :=
  ⟨frozen_of_row _ _ j _ _ h.b0, frozen_of_row _ _ j _ _ h.b1, frozen_of_row _ _ j _ _ h.b2⟩
end
theorem MSt.start (w : World) (x y : Rq) (xd xt yd yt : Value) : MSt w.heap.size w (((w.alloc (Obj.cells #[Value.bool x.write, Value.int IntKind.i64 x.lo, Value.int IntKind.i64 x.many, xd, xt, Value.int IntKind.i64 x.born] 44)).alloc (Obj.cells #[Value.bool y.write, Value.int IntKind.i64 y.lo, Value.int IntKind.i64 y.many, yd, yt, Value.int IntKind.i64 y.born] 44)).alloc (Obj.cells #[Value.bool false, Value.int IntKind.i64 0, Value.int IntKind.i64 0, Value.slice none 0 0, Value.slice none 0 0, Value.int IntKind.i64 0] 44)) x y xd xt yd yt #[Value.bool false, Value.int IntKind.i64 0, Value.int IntKind.i64 0, Value.slice none 0 0, Value.slice none 0 0, Value.int IntKind.i64 0] := by
  refine ⟨(((Below.refl _ _).alloc (Nat.le_refl _) _).alloc (by simp) _).alloc (by simp; omega) _, (Below.heap_alloc _ _ _ (by simp; omega)).trans (heap_alloc2_old _ _ _), (Below.heap_alloc _ _ _ (by simp)).trans (heap_alloc2_new _ _ _), ?_, by simp⟩
  have e : ((w.alloc (Obj.cells #[Value.bool x.write, Value.int IntKind.i64 x.lo, Value.int IntKind.i64 x.many, xd, xt, Value.int IntKind.i64 x.born] 44)).alloc (Obj.cells #[Value.bool y.write, Value.int IntKind.i64 y.lo, Value.int IntKind.i64 y.many, yd, yt, Value.int IntKind.i64 y.born] 44)).heap.size = w.heap.size + 2 := by simp
  rw [← e]
  exact heap_alloc_new _ _
theorem MSt.zs {B : Nat} {w wr : World} {x y : Rq} {xd xt yd yt : Value} {z0 z1 z2 z3 z4 z5 : Value} (h : MSt B w wr x y xd xt yd yt #[z0, z1, z2, z3, z4, z5]) :
    (wr.cell? ⟨B + 2, 0, none⟩ = some z0 ∧ wr.cell? ⟨B + 2, 1, none⟩ = some z1 ∧ wr.cell? ⟨B + 2, 2, none⟩ = some z2 ∧ wr.cell? ⟨B + 2, 3, none⟩ = some z3 ∧ wr.cell? ⟨B + 2, 4, none⟩ = some z4 ∧ wr.cell? ⟨B + 2, 5, none⟩ = some z5) ∧
    (wr.frozen? ⟨B + 2, 0, none⟩ = false ∧ wr.frozen? ⟨B + 2, 1, none⟩ = false ∧ wr.frozen? ⟨B + 2, 2, none⟩ = false ∧ wr.frozen? ⟨B + 2, 3, none⟩ = false ∧ wr.frozen? ⟨B + 2, 4, none⟩ = false ∧ wr.frozen? ⟨B + 2, 5, none⟩ = false) :=
  ⟨⟨cell_of_row _ _ 0 _ _ _ h.b2, cell_of_row _ _ 1 _ _ _ h.b2, cell_of_row _ _ 2 _ _ _ h.b2, cell_of_row _ _ 3 _ _ _ h.b2, cell_of_row _ _ 4 _ _ _ h.b2, cell_of_row _ _ 5 _ _ _ h.b2⟩,
    ⟨frozen_of_row _ _ 0 _ _ h.b2, frozen_of_row _ _ 1 _ _ h.b2, frozen_of_row _ _ 2 _ _ h.b2, frozen_of_row _ _ 3 _ _ h.b2, frozen_of_row _ _ 4 _ _ h.b2, frozen_of_row _ _ 5 _ _ h.b2⟩⟩
/-- The two are exchanged. -/
theorem MSt.swap {B : Nat} {w wr : World} {x y : Rq} {xd xt yd yt : Value} {z : Array Value} (h : MSt B w wr x y xd xt yd yt z) (hw : w.heap.size ≤ B) :
    MSt B w ((((((((((((wr.setCell ⟨B, 0, none⟩ (.bool y.write)).setCell ⟨B, 1, none⟩ (.int .i64 y.lo)).setCell ⟨B, 2, none⟩ (.int .i64 y.many)).setCell ⟨B, 3, none⟩ yd).setCell ⟨B, 4, none⟩ yt).setCell ⟨B, 5, none⟩ (.int .i64 y.born)).setCell
      ⟨B + 1, 0, none⟩ (.bool x.write)).setCell ⟨B + 1, 1, none⟩ (.int .i64 x.lo)).setCell ⟨B + 1, 2, none⟩ (.int .i64 x.many)).setCell ⟨B + 1, 3, none⟩ xd).setCell ⟨B + 1, 4, none⟩ xt).setCell ⟨B + 1, 5, none⟩ (.int .i64 x.born)) y x yd yt xd xt z := by
  have k0 := heap_setCell_same _ _ 0 _ _ (.bool y.write) h.b0
  have k1 := heap_setCell_same _ _ 1 _ _ (.int .i64 y.lo) k0
  have k2 := heap_setCell_same _ _ 2 _ _ (.int .i64 y.many) k1
  have k3 := heap_setCell_same _ _ 3 _ _ yd k2
  have k4 := heap_setCell_same _ _ 4 _ _ yt k3
  have k5 := heap_setCell_same _ _ 5 _ _ (.int .i64 y.born) k4
  have j : ∀ k, k ≠ B → ((((((wr.setCell ⟨B, 0, none⟩ (.bool y.write)).setCell ⟨B, 1, none⟩ (.int .i64 y.lo)).setCell ⟨B, 2, none⟩ (.int .i64 y.many)).setCell ⟨B, 3, none⟩ yd).setCell ⟨B, 4, none⟩ yt).setCell ⟨B, 5, none⟩ (.int .i64 y.born)).heap[k]? = wr.heap[k]? := by
    intro k hk
    repeat (rw [heap_setCell_other _ _ _ _ (by simpa using hk)])
  have l0 := heap_setCell_same _ _ 0 _ _ (.bool x.write) ((j (B + 1) (by omega)).trans h.b1)
  have l1 := heap_setCell_same _ _ 1 _ _ (.int .i64 x.lo) l0
  have l2 := heap_setCell_same _ _ 2 _ _ (.int .i64 x.many) l1
  have l3 := heap_setCell_same _ _ 3 _ _ xd l2
  have l4 := heap_setCell_same _ _ 4 _ _ xt l3
  have l5 := heap_setCell_same _ _ 5 _ _ (.int .i64 x.born) l4
  refine ⟨?_, ?_, ?_, ?_, by simpa using h.lt⟩
  · refine h.below.trans ?_
    repeat ((with_reducible refine Below.setCell ?_ ?hp _); case hp => simp)
    exact Below.refl _ _
  · iterate 6 (rw [heap_setCell_other _ _ B _ (by simp)])
    rw [k5]; rfl
  · rw [l5]; rfl
  · repeat (rw [heap_setCell_other _ _ (B + 2) _ (by simp)])
    exact h.b2

/-- The result's block is written. -/
theorem MSt.put {B : Nat} {w wr : World} {x y : Rq} {xd xt yd yt : Value} {z0 z1 z2 z3 z4 z5 : Value} (h : MSt B w wr x y xd xt yd yt #[z0, z1, z2, z3, z4, z5]) (hw : w.heap.size ≤ B) (v0 v1 v2 v3 v4 v5 : Value) :
    MSt B w ((((((wr.setCell ⟨B + 2, 0, none⟩ v0).setCell ⟨B + 2, 1, none⟩ v1).setCell ⟨B + 2, 2, none⟩ v2).setCell ⟨B + 2, 3, none⟩ v3).setCell ⟨B + 2, 4, none⟩ v4).setCell ⟨B + 2, 5, none⟩ v5) x y xd xt yd yt #[v0, v1, v2, v3, v4, v5] := by
  have k0 := heap_setCell_same _ _ 0 _ _ v0 h.b2
  have k1 := heap_setCell_same _ _ 1 _ _ v1 k0
  have k2 := heap_setCell_same _ _ 2 _ _ v2 k1
  have k3 := heap_setCell_same _ _ 3 _ _ v3 k2
  have k4 := heap_setCell_same _ _ 4 _ _ v4 k3
  have k5 := heap_setCell_same _ _ 5 _ _ v5 k4
  refine ⟨?_, ?_, ?_, ?_, by simpa using h.lt⟩
  · refine h.below.trans ?_
    repeat ((with_reducible refine Below.setCell ?_ ?hp _); case hp => simp)
    exact Below.refl _ _
  · repeat (rw [heap_setCell_other _ _ B _ (by simp)])
    exact h.b0
  · repeat (rw [heap_setCell_other _ _ (B + 1) _ (by simp)])
    exact h.b1
  · rw [k5]; rfl

theorem zero_at {S : Nat → Prop} {w : World} : ReqAt S w (.agg #[.bool false, .int .i64 0, .int .i64 0, .slice none 0 0, .slice none 0 0, .int .i64 0]) zeroR :=
  ⟨⟨zeroR, .slice none 0 0, .slice none 0 0⟩, rfl, rfl, ⟨Rd.nil, by simp⟩, ⟨Rd.nil, by simp⟩, by unfold i64; simp, by unfold i64; simp, by unfold i64; simp⟩
/-- Two slices in a row of the region's own. -/
def MF2 (w3 : World) (T : TypeId) (a b : Value) : SlotFact := fun v w => ∃ g, v = .slice (some ⟨g, 0, none⟩) 2 2 ∧ w3.heap.size ≤ g ∧ g < w.heap.size ∧ w.heap[g]? = some (.cells #[a, b] T (0, 0))
/-- A row of the region's own. -/
def MF1 (w3 : World) (T : TypeId) (n : Nat) (xs : List Value) : SlotFact := fun v w => w.ownsRow w3.heap.size T 1 v n xs
abbrev MF65 (w3 : World) (x y : Rq) : SlotFact := MF1 w3 9 (x.data.length + y.data.length) (x.data.map .string ++ y.data.map .string)
abbrev MF71 (w3 : World) (x y : Rq) : SlotFact := MF1 w3 3 (x.tags.length + y.tags.length) (x.tags.map (.int .i64) ++ y.tags.map (.int .i64))
def MF7 (w3 : World) (x y : Rq) : SlotFact := fun v w => ∃ p q, v = .agg #[.bool x.write, .int .i64 x.lo, .int .i64 (x.many + y.many), p, q, .int .i64 (min x.born y.born)] ∧ MF65 w3 x y p w ∧ MF71 w3 x y q w
def MEv (w w3 : World) (x y : Rq) (u : World) : Prop := ∃ p q, u.heap[w.heap.size + 2]? = some (.cells #[.bool x.write, .int .i64 x.lo, .int .i64 (x.many + y.many), p, q, .int .i64 (min x.born y.born)] 44 (0, 0)) ∧ MF65 w3 x y p u ∧ MF71 w3 x y q u
structure MJ (w w3 u : World) : Prop where
  below : Below (w.heap.size + 2) w3 u
  row : ∃ z0 z1 z2 z3 z4 z5, u.heap[w.heap.size + 2]? = some (.cells #[z0, z1, z2, z3, z4, z5] 44 (0, 0))
  size : w3.heap.size ≤ u.heap.size
/-- What the region's own blocks hold stays; the result's block changes to the result alone. -/
structure MR (w w3 : World) (x y : Rq) (u u' : World) : Prop where
  size : u.heap.size ≤ u'.heap.size
  keep : ∀ b, w3.heap.size ≤ b → b < u.heap.size → u'.heap[b]? = u.heap[b]?
  res : u'.heap[w.heap.size + 2]? = u.heap[w.heap.size + 2]? ∨ MEv w w3 x y u'
theorem MR.refl {w w3 : World} {x y : Rq} (u : World) : MR w w3 x y u u := ⟨Nat.le_refl _, fun _ _ _ => rfl, .inl rfl⟩
theorem MF1.step {w w3 u u' : World} {x y : Rq} {T : TypeId} {n : Nat} {xs : List Value} {v : Value} (h : MF1 w3 T n xs v u) (hr : MR w w3 x y u u') : MF1 w3 T n xs v u' := own_keepL h hr.keep
theorem MEv.step {w w3 u u' : World} {x y : Rq} (h : MEv w w3 x y u) (hr : MR w w3 x y u u') : MEv w w3 x y u' := by
  rcases hr.res with h1 | h1
  · obtain ⟨p, q, h2, h3, h4⟩ := h
    exact ⟨p, q, h1.trans h2, h3.step hr, h4.step hr⟩
  · exact h1
def RetMerge (S : Nat → Prop) (o : Option Rq) (w : World) : Ending → World → Prop := fun E w' => ∃ v, E = .returned (.tuple #[v, .bool o.isSome]) ∧ ReqAt S w' v (o.getD zeroR) ∧ Below w.heap.size w w'

theorem ret_none {S : Nat → Prop} {w w' : World} (h : Below w.heap.size w w') : RetMerge S none w (.returned (.tuple #[.agg #[.bool false, .int .i64 0, .int .i64 0, .slice none 0 0, .slice none 0 0, .int .i64 0], .bool false])) w' :=
  ⟨_, rfl, zero_at, h⟩
theorem ret_some {S : Nat → Prop} {w w' : World} {r : Rq} {v : Value} (hv : ReqAt S w' v r) (h : Below w.heap.size w w') : RetMerge S (some r) w (.returned (.tuple #[v, .bool true])) w' :=
  ⟨_, rfl, hv, h⟩
theorem MF2.step {w w3 u u' : World} {x y : Rq} {T : TypeId} {a b : Value} {v : Value} (h : MF2 w3 T a b v u) (hr : MR w w3 x y u u') : MF2 w3 T a b v u' := by
  obtain ⟨g, h1, h2, h3, h4⟩ := h
  exact ⟨g, h1, h2, Nat.lt_of_lt_of_le h3 hr.size, (hr.keep g h2 h3).trans h4⟩
theorem MF7.step {w w3 u u' : World} {x y : Rq} {v : Value} (h : MF7 w3 x y v u) (hr : MR w w3 x y u u') : MF7 w3 x y v u' := by
  obtain ⟨p, q, h1, h2, h3⟩ := h
  exact ⟨p, q, h1, h2.step hr, h3.step hr⟩
theorem MJ.more {w w3 u u' : World} (h : MJ w w3 u) (hb : Below u.heap.size u u') (hlt : w.heap.size + 2 < w3.heap.size) : MJ w w3 u' := by
  have h1 := h.size
  obtain ⟨z0, z1, z2, z3, z4, z5, hz⟩ := h.row
  exact ⟨h.below.trans (hb.mono (by omega)), ⟨z0, z1, z2, z3, z4, z5, (hb.block _ (by omega)).trans hz⟩, by have := hb.size; omega⟩
theorem MR.more {w w3 u u' : World} {x y : Rq} (hb : Below u.heap.size u u') (hlt : w.heap.size + 2 < u.heap.size) : MR w w3 x y u u' := ⟨hb.size, fun b _ h => hb.block b h, .inl (hb.block _ hlt)⟩
/-- The result's block is written. -/
theorem MJ.put {w w3 u : World} {x y : Rq} {p q : Value} (h : MJ w w3 u) (hlt : w.heap.size + 2 < w3.heap.size) (hp : MF65 w3 x y p u) (hq : MF71 w3 x y q u) (u' : World)
    (hu : u' = (((((u.setCell ⟨w.heap.size + 2, 0, none⟩ (.bool x.write)).setCell ⟨w.heap.size + 2, 1, none⟩ (.int .i64 x.lo)).setCell ⟨w.heap.size + 2, 2, none⟩ (.int .i64 (x.many + y.many))).setCell ⟨w.heap.size + 2, 3, none⟩ p).setCell ⟨w.heap.size + 2, 4, none⟩ q).setCell ⟨w.heap.size + 2, 5, none⟩ (.int .i64 (min x.born y.born))) :
    MJ w w3 u' ∧ MR w w3 x y u u' ∧ MEv w w3 x y u' := by
  obtain ⟨z0, z1, z2, z3, z4, z5, hz⟩ := h.row
  have h1 := h.size
  have k0 := heap_setCell_same _ _ 0 _ _ (.bool x.write) hz
  have k1 := heap_setCell_same _ _ 1 _ _ (.int .i64 x.lo) k0
  have k2 := heap_setCell_same _ _ 2 _ _ (.int .i64 (x.many + y.many)) k1
  have k3 := heap_setCell_same _ _ 3 _ _ p k2
  have k4 := heap_setCell_same _ _ 4 _ _ q k3
  have k5 := heap_setCell_same _ _ 5 _ _ (.int .i64 (min x.born y.born)) k4
  rw [← hu] at k5
  have hsz : u'.heap.size = u.heap.size := by rw [hu]; simp
  have hk : ∀ k, k ≠ w.heap.size + 2 → u'.heap[k]? = u.heap[k]? := by
    intro k hk
    rw [hu]
    repeat (rw [heap_setCell_other _ _ k _ (by simpa using hk)])
  have hb : Below (w.heap.size + 2) u u' := by
    rw [hu]
    repeat ((with_reducible refine Below.setCell ?_ ?hp _); case hp => simp)
    exact Below.refl _ _
  have hR : MEv w w3 x y u' := ⟨p, q, k5, own_keepL hp (fun g hg _ => hk g (by omega)), own_keepL hq (fun g hg _ => hk g (by omega))⟩
  exact ⟨⟨h.below.trans hb, ⟨_, _, _, _, _, _, k5⟩, by omega⟩, ⟨by omega, fun b hb _ => hk b (by omega), .inr hR⟩, hR⟩
/-- The result's value, and the slot that says that it is one. -/
theorem ret_joined {S : Nat → Prop} {w w3 u : World} {x y : Rq} (hS : ∀ b, w.heap.size ≤ b → S b) (hw3 : w.heap.size ≤ w3.heap.size) (hx : ReqOk x) (hy : ReqOk y) (hxs : ∀ s ∈ x.data, s.size ≤ maxLen) (hys : ∀ s ∈ y.data, s.size ≤ maxLen)
    (hxt : ∀ t ∈ x.tags, -9223372036854775808 ≤ t ∧ t ≤ 9223372036854775807) (hyt : ∀ t ∈ y.tags, -9223372036854775808 ≤ t ∧ t ≤ 9223372036854775807) {p q : Value} (hp : MF65 w3 x y p u) (hq : MF71 w3 x y q u) (hb : Below w.heap.size w u) :
    RetMerge S (some (joinM x y)) w (.returned (.tuple #[.agg #[.bool x.write, .int .i64 x.lo, .int .i64 (x.many + y.many), p, q, .int .i64 (min x.born y.born)], .bool true])) u := by
  obtain ⟨a1, a2, a3, a4, a5⟩ := hx.span
  obtain ⟨b1, b2, b3, b4, b5⟩ := hy.span
  obtain ⟨n1, n2⟩ := hx.born
  obtain ⟨m1, m2⟩ := hy.born
  refine ret_some ⟨⟨joinM x y, p, q⟩, rfl, rfl, ?_⟩ hb
  refine ⟨strs_own (base := w3.heap.size) (e := 9) (fun b hb => hS b (by omega)) (by simpa [joinM, MF65, MF1] using hp) ?_, ints_own (base := w3.heap.size) (e := 3) (fun b hb => hS b (by omega)) (by simpa [joinM, MF71, MF1] using hq) ?_, ?_, ?_, ?_⟩
  · intro s hs
    rcases List.mem_append.1 hs with h | h
    · exact hxs s h
    · exact hys s h
  · intro s hs
    rcases List.mem_append.1 hs with h | h
    · exact hxt s h
    · exact hyt s h
  · show i64 x.lo; unfold i64; omega
  · show i64 (x.many + y.many); unfold i64; omega
  · show i64 (min x.born y.born); unfold i64; omega
set_option maxRecDepth 100000 in
set_option maxHeartbeats 8000000 in
/-- x ahead of y, as they came or exchanged. -/
theorem merge_go (S : Nat → Prop) (x y : Rq) (vx vy : Value) (args : Array Value) (w : World) (hS : ∀ b, w.heap.size ≤ b → S b) (hx : ReqAt S w vx x) (hy : ReqAt S w vy y) (okx : ReqOk x) (oky : ReqOk y)
    (hargs : (args = #[vx, vy] ∧ y.lo + y.many ≠ x.lo) ∨ (args = #[vy, vx] ∧ x.lo + x.many = y.lo)) :
    Calls Try.prog 97 args w (RetMerge S (joinedM x y) w) := by
  obtain ⟨Ad, cd, At, ct, rfl, had, hat, adl, atl, _, _, _⟩ := hx.opened
  obtain ⟨Bd, dd, Bt, dt, rfl, hbd, hbt, bdl, btl, _, _, _⟩ := hy.opened
  have Had := Lib.hid had
  have Hat := Lib.hid hat
  have Hbd := Lib.hid hbd
  have Hbt := Lib.hid hbt
  have HS := Lib.hid hS
  have Hokx := Lib.hid okx
  have Hoky := Lib.hid oky
  obtain ⟨a1, a2, a3, a4, a5⟩ := okx.span
  obtain ⟨b1, b2, b3, b4, b5⟩ := oky.span
  clear hx hy had hat hbd hbt hS okx oky
  rcases hargs with ⟨rfl, hs⟩ | ⟨rfl, hs⟩
  have hs1 : (y.lo + y.many == x.lo) = false := by simpa using hs
  clear hs
  go_enter Try.func97, Try.ntmps97
  go_wp2_with fail
  have hM := MSt.start w x y (.slice Ad x.data.length cd) (.slice At x.tags.length ct) (.slice Bd y.data.length dd) (.slice Bt y.tags.length dt)
  generalize (((w.alloc (Obj.cells #[Value.bool x.write, Value.int IntKind.i64 x.lo, Value.int IntKind.i64 x.many, (Value.slice Ad x.data.length cd), (Value.slice At x.tags.length ct), Value.int IntKind.i64 x.born] 44)).alloc (Obj.cells #[Value.bool y.write, Value.int IntKind.i64 y.lo, Value.int IntKind.i64 y.many, (Value.slice Bd y.data.length dd), (Value.slice Bt y.tags.length dt), Value.int IntKind.i64 y.born] 44)).alloc (Obj.cells #[Value.bool false, Value.int IntKind.i64 0, Value.int IntKind.i64 0, Value.slice none 0 0, Value.slice none 0 0, Value.int IntKind.i64 0] 44)) = W at hM ⊢
  refine (next_any y.lo y.many x.lo x.many _ b1 (by omega) (by omega) (by omega)).mono ?_
  rintro e w2 ⟨rfl, hb1⟩
  have hM2 := hM.step hb1
  obtain ⟨⟨c0, c1, c2, c3, c4, c5, d0, d1, d2, d3, d4, d5⟩⟩ : Nonempty _ := ⟨hM2.limbs (Below.refl _ _)⟩
  clear hM hb1
  go_wp2_with fail
  rotate_left
  have hs1 : (x.lo + x.many == y.lo) = true := by simpa using hs
  clear hs
  go_enter Try.func97, Try.ntmps97
  go_wp2_with fail
  have hM := MSt.start w y x (.slice Bd y.data.length dd) (.slice Bt y.tags.length dt) (.slice Ad x.data.length cd) (.slice At x.tags.length ct)
  generalize (((w.alloc (Obj.cells #[Value.bool y.write, Value.int IntKind.i64 y.lo, Value.int IntKind.i64 y.many, (Value.slice Bd y.data.length dd), (Value.slice Bt y.tags.length dt), Value.int IntKind.i64 y.born] 44)).alloc (Obj.cells #[Value.bool x.write, Value.int IntKind.i64 x.lo, Value.int IntKind.i64 x.many, (Value.slice Ad x.data.length cd), (Value.slice At x.tags.length ct), Value.int IntKind.i64 x.born] 44)).alloc (Obj.cells #[Value.bool false, Value.int IntKind.i64 0, Value.int IntKind.i64 0, Value.slice none 0 0, Value.slice none 0 0, Value.int IntKind.i64 0] 44)) = W at hM ⊢
  refine (next_any x.lo x.many y.lo y.many _ a1 (by omega) (by omega) (by omega)).mono ?_
  rintro e w1 ⟨rfl, hb1⟩
  have hM1 := hM.step hb1
  obtain ⟨⟨c0, c1, c2, c3, c4, c5, d0, d1, d2, d3, d4, d5⟩⟩ : Nonempty _ := ⟨hM1.limbs (Below.refl _ _)⟩
  have fr := hM1.frozen
  have hM2 := hM1.swap (Nat.le_refl _)
  obtain ⟨f0, g0, _⟩ := fr 0
  obtain ⟨f1, g1, _⟩ := fr 1
  obtain ⟨f2, g2, _⟩ := fr 2
  obtain ⟨f3, g3, _⟩ := fr 3
  obtain ⟨f4, g4, _⟩ := fr 4
  obtain ⟨f5, g5, _⟩ := fr 5
  clear hM hb1 fr
  go_wp2_with fail
  generalize ((((((((((((w1.setCell ⟨w.heap.size, 0, none⟩ (.bool x.write)).setCell ⟨w.heap.size, 1, none⟩ (.int .i64 x.lo)).setCell ⟨w.heap.size, 2, none⟩ (.int .i64 x.many)).setCell ⟨w.heap.size, 3, none⟩ (.slice Ad x.data.length cd)).setCell ⟨w.heap.size, 4, none⟩ (.slice At x.tags.length ct)).setCell ⟨w.heap.size, 5, none⟩ (.int .i64 x.born)).setCell
    ⟨w.heap.size + 1, 0, none⟩ (.bool y.write)).setCell ⟨w.heap.size + 1, 1, none⟩ (.int .i64 y.lo)).setCell ⟨w.heap.size + 1, 2, none⟩ (.int .i64 y.many)).setCell ⟨w.heap.size + 1, 3, none⟩ (.slice Bd y.data.length dd)).setCell ⟨w.heap.size + 1, 4, none⟩ (.slice Bt y.tags.length dt)).setCell ⟨w.heap.size + 1, 5, none⟩ (.int .i64 y.born)) = w2 at hM2 ⊢
  clear c0 c1 c2 c3 c4 c5 d0 d1 d2 d3 d4 d5 f0 f1 f2 f3 f4 f5 g0 g1 g2 g3 g4 g5 hM1
  obtain ⟨⟨c0, c1, c2, c3, c4, c5, d0, d1, d2, d3, d4, d5⟩⟩ : Nonempty _ := ⟨hM2.limbs (Below.refl _ _)⟩
  rotate_left
  all_goals
    refine (next_any x.lo x.many y.lo y.many _ a1 (by omega) (by omega) (by omega)).mono ?_
    rintro e w3 ⟨rfl, hb3⟩
    have hM3 := hM2.step hb3
    clear c0 c1 c2 c3 c4 c5 d0 d1 d2 d3 d4 d5 hM2 hb3
    obtain ⟨⟨c0, c1, c2, c3, c4, c5, d0, d1, d2, d3, d4, d5⟩⟩ : Nonempty _ := ⟨hM3.limbs (Below.refl _ _)⟩
    have fr := hM3.frozen
    obtain ⟨_, _, f0⟩ := fr 0
    obtain ⟨_, _, f1⟩ := fr 1
    obtain ⟨_, _, f2⟩ := fr 2
    obtain ⟨_, _, f3⟩ := fr 3
    obtain ⟨_, _, f4⟩ := fr 4
    obtain ⟨_, _, f5⟩ := fr 5
    have z0 : w3.cell? ⟨w.heap.size + 2, 0, none⟩ = some (.bool false) := cell_of_row _ _ 0 _ _ _ hM3.b2
    have z1 : w3.cell? ⟨w.heap.size + 2, 1, none⟩ = some (.int .i64 0) := cell_of_row _ _ 1 _ _ _ hM3.b2
    have z2 : w3.cell? ⟨w.heap.size + 2, 2, none⟩ = some (.int .i64 0) := cell_of_row _ _ 2 _ _ _ hM3.b2
    have z3 : w3.cell? ⟨w.heap.size + 2, 3, none⟩ = some (.slice none 0 0) := cell_of_row _ _ 3 _ _ _ hM3.b2
    have z4 : w3.cell? ⟨w.heap.size + 2, 4, none⟩ = some (.slice none 0 0) := cell_of_row _ _ 4 _ _ _ hM3.b2
    have z5 : w3.cell? ⟨w.heap.size + 2, 5, none⟩ = some (.int .i64 0) := cell_of_row _ _ 5 _ _ _ hM3.b2
    obtain ⟨t1, t2⟩ := Hokx.out.tags
    obtain ⟨t3, t4⟩ := Hoky.out.tags
    have key : (joinOk x y) ∨ (joinedM x y = none ∧ (((x.lo + x.many == y.lo) = false) ∨ ((x.lo + x.many == y.lo) = true ∧ ((x.write = true ∧ y.write = false) ∨ (x.write = false ∧ y.write = true))) ∨
        ((x.lo + x.many == y.lo) = true ∧ x.write = y.write ∧ decide (4 < x.many + y.many) = true) ∨ ((x.lo + x.many == y.lo) = true ∧ x.write = y.write ∧ decide (4 < x.many + y.many) = false ∧ 4 < (x.tags.length : Int) + (y.tags.length : Int)))) := by
      by_cases hk : joinOk x y
      · exact .inl hk
      · right
        refine ⟨by unfold joinedM; rw [if_neg hk], ?_⟩
        unfold joinOk at hk
        by_cases h1 : x.lo + x.many = y.lo
        · by_cases h2 : x.write = y.write
          · by_cases h3 : x.many + y.many ≤ 4
            · right; right; right
              exact ⟨by simpa using h1, h2, by simp; omega, by have : ¬ (x.tags.length + y.tags.length ≤ 4) := fun h => hk ⟨h1, h2, h3, h⟩; omega⟩
            · right; right; left
              exact ⟨by simpa using h1, h2, by simp; omega⟩
          · right; left
            refine ⟨by simpa using h1, ?_⟩
            cases hx : x.write <;> cases hy : y.write <;> simp [hx, hy] at h2 ⊢
        · left; simpa using h1
    rcases key with hk | ⟨hn, hbad⟩
    · have hj : joinedM x y = some (joinM x y) := by unfold joinedM; rw [if_pos hk]
      have Hj := Lib.hid hj
      clear hj
      obtain ⟨h1', h2, h3', h4'⟩ := hk
      have h1 : (x.lo + x.many == y.lo) = true := by simpa using h1'
      have h3 : decide (4 < x.many + y.many) = false := by simp; omega
      have h4 : decide (4 < (x.tags.length : Int) + (y.tags.length : Int)) = false := by simp; omega
      have hsum : IntKind.i64.wrap (x.many + y.many) = x.many + y.many := IntWalk.i64_in _ (by omega)
      have hltz := hM3.lt
      have HM3 := Lib.hid hM3
      have hl1 : x.data.length ≤ 30000 := by have := Hokx.out.shape; unfold shapeOk at this; split at this <;> omega
      have hl2 : y.data.length ≤ 30000 := by have := Hoky.out.shape; unfold shapeOk at this; split at this <;> omega
      rw [h2] at c0
      go_wp2_with fail
      -- REGION BEGIN
      refine wp_region_inv2 mixed [(47, fun v _ => v = .pointer (some ⟨w.heap.size, 0, none⟩)), (48, fun v _ => v = .bool x.write), (49, fun v _ => v = .pointer (some ⟨w.heap.size, 1, none⟩)), (50, fun v _ => v = .pointer (some ⟨w.heap.size, 1, none⟩)), (51, fun v _ => v = .int .i64 x.lo), (52, fun v _ => v = .pointer (some ⟨w.heap.size, 1, none⟩)), (53, fun v _ => v = .pointer (some ⟨w.heap.size, 2, none⟩)), (54, fun v _ => v = .int .i64 x.many), (55, fun v _ => v = .pointer (some ⟨w.heap.size + 1, 1, none⟩)), (56, fun v _ => v = .pointer (some ⟨w.heap.size + 1, 2, none⟩)), (57, fun v _ => v = .int .i64 y.many), (58, fun v _ => v = .int .i64 (x.many + y.many)), (59, fun v _ => v = .agg #[.int .i64 x.lo, .int .i64 (x.many + y.many)]), (60, fun v _ => v = .pointer (some ⟨w.heap.size, 3, none⟩)), (61, fun v _ => v = .slice Ad x.data.length cd), (62, fun v _ => v = .pointer (some ⟨w.heap.size + 1, 3, none⟩)), (63, fun v _ => v = .slice Bd y.data.length dd), (64, MF2 w3 41 (.slice Ad x.data.length cd) (.slice Bd y.data.length dd)), (65, MF1 w3 9 (x.data.length + y.data.length) (x.data.map .string ++ y.data.map .string)), (66, fun v _ => v = .pointer (some ⟨w.heap.size, 4, none⟩)), (67, fun v _ => v = .slice At x.tags.length ct), (68, fun v _ => v = .pointer (some ⟨w.heap.size + 1, 4, none⟩)), (69, fun v _ => v = .slice Bt y.tags.length dt), (70, MF2 w3 42 (.slice At x.tags.length ct) (.slice Bt y.tags.length dt)), (71, MF1 w3 3 (x.tags.length + y.tags.length) (x.tags.map (.int .i64) ++ y.tags.map (.int .i64))), (72, fun v _ => v = .pointer (some ⟨w.heap.size, 5, none⟩)), (73, fun v _ => v = .int .i64 x.born), (74, fun v _ => v = .pointer (some ⟨w.heap.size + 1, 5, none⟩)), (75, fun v _ => v = .int .i64 y.born), (76, fun v _ => v = .int .i64 (min x.born y.born)), (77, MF7 w3 x y), (5, fun v _ => v = .bool true)] (MJ w w3) (MR w w3 x y) (fun k w' => k = 31 → MEv w w3 x y w') (by kernel_rfl) rfl (by decide) ⟨(Below.refl _ _).drew, ⟨_, _, _, _, _, _, HM3.out.b2⟩, Nat.le_refl _⟩ ?st (fun k u u' h hr hk => (h hk).step hr) ?steps ?fin
      case st => exact ⟨fun v u u' h _ => h, fun v u u' h _ => h, fun v u u' h _ => h, fun v u u' h _ => h, fun v u u' h _ => h, fun v u u' h _ => h, fun v u u' h _ => h, fun v u u' h _ => h, fun v u u' h _ => h, fun v u u' h _ => h, fun v u u' h _ => h, fun v u u' h _ => h, fun v u u' h _ => h, fun v u u' h _ => h, fun v u u' h _ => h, fun v u u' h _ => h, fun v u u' h _ => h, fun v u u' h hr => h.step hr, fun v u u' h hr => h.step hr, fun v u u' h _ => h, fun v u u' h _ => h, fun v u u' h _ => h, fun v u u' h _ => h, fun v u u' h hr => h.step hr, fun v u u' h hr => h.step hr, fun v u u' h _ => h, fun v u u' h _ => h, fun v u u' h _ => h, fun v u u' h _ => h, fun v u u' h _ => h, fun v u u' h hr => h.step hr, fun v u u' h _ => h, trivial⟩
      case steps =>
        refine ⟨?_, ?_, ?_, ?_, ?_, ?_, ?_, ?_, ?_, ?_, ?_, ?_, ?_, ?_, ?_, ?_, ?_, ?_, ?_, ?_, ?_, ?_, ?_, ?_, ?_, ?_, ?_, ?_, ?_, ?_, ?_, ?_, ?_, trivial⟩
        · intro ρ wq hp hJ hr
          have r1 : ρ (.tmp 2) = .pointer (some ⟨w.heap.size, 0, none⟩) := hr.1
          clear hr
          refine gives_value (v := .pointer (some ⟨w.heap.size, 0, none⟩)) (w' := wq) ?_ ⟨rfl, hJ, MR.refl _, fun h => absurd h (by decide)⟩
          go_simp
        · intro ρ wq hp hJ hr
          have r1 : ρ (.tmp 47) = .pointer (some ⟨w.heap.size, 0, none⟩) := hr.1
          clear hr
          obtain ⟨c0, c1, c2, c3, c4, c5, d0, d1, d2, d3, d4, d5⟩ := HM3.out.limbs hJ.below
          refine gives_value (v := .bool x.write) (w' := wq) ?_ ⟨rfl, hJ, MR.refl _, fun h => absurd h (by decide)⟩
          go_simp
        · intro ρ wq hp hJ hr
          have r1 : ρ (.tmp 2) = .pointer (some ⟨w.heap.size, 0, none⟩) := hr.1
          clear hr
          refine gives_value (v := .pointer (some ⟨w.heap.size, 1, none⟩)) (w' := wq) ?_ ⟨rfl, hJ, MR.refl _, fun h => absurd h (by decide)⟩
          go_simp
        · intro ρ wq hp hJ hr
          have r1 : ρ (.tmp 49) = .pointer (some ⟨w.heap.size, 1, none⟩) := hr.1
          clear hr
          refine gives_value (v := .pointer (some ⟨w.heap.size, 1, none⟩)) (w' := wq) ?_ ⟨rfl, hJ, MR.refl _, fun h => absurd h (by decide)⟩
          go_simp
        · intro ρ wq hp hJ hr
          have r1 : ρ (.tmp 50) = .pointer (some ⟨w.heap.size, 1, none⟩) := hr.1
          clear hr
          obtain ⟨c0, c1, c2, c3, c4, c5, d0, d1, d2, d3, d4, d5⟩ := HM3.out.limbs hJ.below
          refine gives_value (v := .int .i64 x.lo) (w' := wq) ?_ ⟨rfl, hJ, MR.refl _, fun h => absurd h (by decide)⟩
          go_simp
        · intro ρ wq hp hJ hr
          have r1 : ρ (.tmp 2) = .pointer (some ⟨w.heap.size, 0, none⟩) := hr.1
          clear hr
          refine gives_value (v := .pointer (some ⟨w.heap.size, 1, none⟩)) (w' := wq) ?_ ⟨rfl, hJ, MR.refl _, fun h => absurd h (by decide)⟩
          go_simp
        · intro ρ wq hp hJ hr
          have r1 : ρ (.tmp 52) = .pointer (some ⟨w.heap.size, 1, none⟩) := hr.1
          clear hr
          refine gives_value (v := .pointer (some ⟨w.heap.size, 2, none⟩)) (w' := wq) ?_ ⟨rfl, hJ, MR.refl _, fun h => absurd h (by decide)⟩
          go_simp
        · intro ρ wq hp hJ hr
          have r1 : ρ (.tmp 53) = .pointer (some ⟨w.heap.size, 2, none⟩) := hr.1
          clear hr
          obtain ⟨c0, c1, c2, c3, c4, c5, d0, d1, d2, d3, d4, d5⟩ := HM3.out.limbs hJ.below
          refine gives_value (v := .int .i64 x.many) (w' := wq) ?_ ⟨rfl, hJ, MR.refl _, fun h => absurd h (by decide)⟩
          go_simp
        · intro ρ wq hp hJ hr
          have r1 : ρ (.tmp 3) = .pointer (some ⟨w.heap.size + 1, 0, none⟩) := hr.1
          clear hr
          refine gives_value (v := .pointer (some ⟨w.heap.size + 1, 1, none⟩)) (w' := wq) ?_ ⟨rfl, hJ, MR.refl _, fun h => absurd h (by decide)⟩
          go_simp
        · intro ρ wq hp hJ hr
          have r1 : ρ (.tmp 55) = .pointer (some ⟨w.heap.size + 1, 1, none⟩) := hr.1
          clear hr
          refine gives_value (v := .pointer (some ⟨w.heap.size + 1, 2, none⟩)) (w' := wq) ?_ ⟨rfl, hJ, MR.refl _, fun h => absurd h (by decide)⟩
          go_simp
        · intro ρ wq hp hJ hr
          have r1 : ρ (.tmp 56) = .pointer (some ⟨w.heap.size + 1, 2, none⟩) := hr.1
          clear hr
          obtain ⟨c0, c1, c2, c3, c4, c5, d0, d1, d2, d3, d4, d5⟩ := HM3.out.limbs hJ.below
          refine gives_value (v := .int .i64 y.many) (w' := wq) ?_ ⟨rfl, hJ, MR.refl _, fun h => absurd h (by decide)⟩
          go_simp
        · intro ρ wq hp hJ hr
          have r1 : ρ (.tmp 54) = .int .i64 x.many := hr.1
          have r2 : ρ (.tmp 57) = .int .i64 y.many := hr.2.1
          clear hr
          refine gives_value (v := .int .i64 (x.many + y.many)) (w' := wq) ?_ ⟨rfl, hJ, MR.refl _, fun h => absurd h (by decide)⟩
          go_simp
        · intro ρ wq hp hJ hr
          have r1 : ρ (.tmp 51) = .int .i64 x.lo := hr.1
          have r2 : ρ (.tmp 58) = .int .i64 (x.many + y.many) := hr.2.1
          clear hr
          refine gives_value (v := .agg #[.int .i64 x.lo, .int .i64 (x.many + y.many)]) (w' := wq) ?_ ⟨rfl, hJ, MR.refl _, fun h => absurd h (by decide)⟩
          go_simp
        · intro ρ wq hp hJ hr
          have r1 : ρ (.tmp 2) = .pointer (some ⟨w.heap.size, 0, none⟩) := hr.1
          clear hr
          refine gives_value (v := .pointer (some ⟨w.heap.size, 3, none⟩)) (w' := wq) ?_ ⟨rfl, hJ, MR.refl _, fun h => absurd h (by decide)⟩
          go_simp
        · intro ρ wq hp hJ hr
          have r1 : ρ (.tmp 60) = .pointer (some ⟨w.heap.size, 3, none⟩) := hr.1
          clear hr
          obtain ⟨c0, c1, c2, c3, c4, c5, d0, d1, d2, d3, d4, d5⟩ := HM3.out.limbs hJ.below
          refine gives_value (v := .slice Ad x.data.length cd) (w' := wq) ?_ ⟨rfl, hJ, MR.refl _, fun h => absurd h (by decide)⟩
          go_simp
        · intro ρ wq hp hJ hr
          have r1 : ρ (.tmp 3) = .pointer (some ⟨w.heap.size + 1, 0, none⟩) := hr.1
          clear hr
          refine gives_value (v := .pointer (some ⟨w.heap.size + 1, 3, none⟩)) (w' := wq) ?_ ⟨rfl, hJ, MR.refl _, fun h => absurd h (by decide)⟩
          go_simp
        · intro ρ wq hp hJ hr
          have r1 : ρ (.tmp 62) = .pointer (some ⟨w.heap.size + 1, 3, none⟩) := hr.1
          clear hr
          obtain ⟨c0, c1, c2, c3, c4, c5, d0, d1, d2, d3, d4, d5⟩ := HM3.out.limbs hJ.below
          refine gives_value (v := .slice Bd y.data.length dd) (w' := wq) ?_ ⟨rfl, hJ, MR.refl _, fun h => absurd h (by decide)⟩
          go_simp
        · intro ρ wq hp hJ hr
          have r1 : ρ (.tmp 61) = .slice Ad x.data.length cd := hr.1
          have r2 : ρ (.tmp 63) = .slice Bd y.data.length dd := hr.2.1
          clear hr
          refine gives_value (v := .slice (some ⟨wq.heap.size, 0, none⟩) 2 2) (w' := wq.alloc (.cells #[.slice Ad x.data.length cd, .slice Bd y.data.length dd] 41)) ?_ ⟨⟨_, rfl, hJ.size, by simp, heap_alloc_new _ _⟩, hJ.more ((Below.refl _ _).alloc (Nat.le_refl _) _) hltz, MR.more ((Below.refl _ _).alloc (Nat.le_refl _) _) (Nat.lt_of_lt_of_le hltz hJ.size), fun h => absurd h (by decide)⟩
          go_simp
        · intro ρ wq hp hJ hr
          have r1 : MF2 w3 41 (.slice Ad x.data.length cd) (.slice Bd y.data.length dd) (ρ (.tmp 64)) wq := hr.1
          clear hr
          obtain ⟨g, hg, hg1, hg2, hg3⟩ := r1
          have hbq : Below w.heap.size w wq := HM3.out.below.trans (hJ.below.mono (by omega))
          refine gives_enter (f := 107) (args := #[.slice (some ⟨g, 0, none⟩) 2 2]) (w' := wq) ?_ ((concat_string S g _ _ _ _ _ _ _ _ hg3 (Had.out.1.below hbq) (Hbd.out.1.below hbq) (strs_one _) (strs_one _) (by omega) (by omega)).mono ?_)
          · have hpf := hp.func 107
            go_simp
          rintro e u ⟨v, rfl, ho, hb⟩
          exact ⟨v, rfl, own_mono ho hJ.size, hJ.more hb hltz, MR.more hb (Nat.lt_of_lt_of_le hltz hJ.size), fun h => absurd h (by decide)⟩
        · intro ρ wq hp hJ hr
          have r1 : ρ (.tmp 2) = .pointer (some ⟨w.heap.size, 0, none⟩) := hr.1
          clear hr
          refine gives_value (v := .pointer (some ⟨w.heap.size, 4, none⟩)) (w' := wq) ?_ ⟨rfl, hJ, MR.refl _, fun h => absurd h (by decide)⟩
          go_simp
        · intro ρ wq hp hJ hr
          have r1 : ρ (.tmp 66) = .pointer (some ⟨w.heap.size, 4, none⟩) := hr.1
          clear hr
          obtain ⟨c0, c1, c2, c3, c4, c5, d0, d1, d2, d3, d4, d5⟩ := HM3.out.limbs hJ.below
          refine gives_value (v := .slice At x.tags.length ct) (w' := wq) ?_ ⟨rfl, hJ, MR.refl _, fun h => absurd h (by decide)⟩
          go_simp
        · intro ρ wq hp hJ hr
          have r1 : ρ (.tmp 3) = .pointer (some ⟨w.heap.size + 1, 0, none⟩) := hr.1
          clear hr
          refine gives_value (v := .pointer (some ⟨w.heap.size + 1, 4, none⟩)) (w' := wq) ?_ ⟨rfl, hJ, MR.refl _, fun h => absurd h (by decide)⟩
          go_simp
        · intro ρ wq hp hJ hr
          have r1 : ρ (.tmp 68) = .pointer (some ⟨w.heap.size + 1, 4, none⟩) := hr.1
          clear hr
          obtain ⟨c0, c1, c2, c3, c4, c5, d0, d1, d2, d3, d4, d5⟩ := HM3.out.limbs hJ.below
          refine gives_value (v := .slice Bt y.tags.length dt) (w' := wq) ?_ ⟨rfl, hJ, MR.refl _, fun h => absurd h (by decide)⟩
          go_simp
        · intro ρ wq hp hJ hr
          have r1 : ρ (.tmp 67) = .slice At x.tags.length ct := hr.1
          have r2 : ρ (.tmp 69) = .slice Bt y.tags.length dt := hr.2.1
          clear hr
          refine gives_value (v := .slice (some ⟨wq.heap.size, 0, none⟩) 2 2) (w' := wq.alloc (.cells #[.slice At x.tags.length ct, .slice Bt y.tags.length dt] 42)) ?_ ⟨⟨_, rfl, hJ.size, by simp, heap_alloc_new _ _⟩, hJ.more ((Below.refl _ _).alloc (Nat.le_refl _) _) hltz, MR.more ((Below.refl _ _).alloc (Nat.le_refl _) _) (Nat.lt_of_lt_of_le hltz hJ.size), fun h => absurd h (by decide)⟩
          go_simp
        · intro ρ wq hp hJ hr
          have r1 : MF2 w3 42 (.slice At x.tags.length ct) (.slice Bt y.tags.length dt) (ρ (.tmp 70)) wq := hr.1
          clear hr
          obtain ⟨g, hg, hg1, hg2, hg3⟩ := r1
          have hbq : Below w.heap.size w wq := HM3.out.below.trans (hJ.below.mono (by omega))
          refine gives_enter (f := 108) (args := #[.slice (some ⟨g, 0, none⟩) 2 2]) (w' := wq) ?_ ((concat_int S g _ _ _ _ _ _ _ _ hg3 (Hat.out.1.below hbq) (Hbt.out.1.below hbq) (ints_one _) (ints_one _) (by omega) (by omega)).mono ?_)
          · have hpf := hp.func 108
            go_simp
          rintro e u ⟨v, rfl, ho, hb⟩
          exact ⟨v, rfl, own_mono ho hJ.size, hJ.more hb hltz, MR.more hb (Nat.lt_of_lt_of_le hltz hJ.size), fun h => absurd h (by decide)⟩
        · intro ρ wq hp hJ hr
          have r1 : ρ (.tmp 2) = .pointer (some ⟨w.heap.size, 0, none⟩) := hr.1
          clear hr
          refine gives_value (v := .pointer (some ⟨w.heap.size, 5, none⟩)) (w' := wq) ?_ ⟨rfl, hJ, MR.refl _, fun h => absurd h (by decide)⟩
          go_simp
        · intro ρ wq hp hJ hr
          have r1 : ρ (.tmp 72) = .pointer (some ⟨w.heap.size, 5, none⟩) := hr.1
          clear hr
          obtain ⟨c0, c1, c2, c3, c4, c5, d0, d1, d2, d3, d4, d5⟩ := HM3.out.limbs hJ.below
          refine gives_value (v := .int .i64 x.born) (w' := wq) ?_ ⟨rfl, hJ, MR.refl _, fun h => absurd h (by decide)⟩
          go_simp
        · intro ρ wq hp hJ hr
          have r1 : ρ (.tmp 3) = .pointer (some ⟨w.heap.size + 1, 0, none⟩) := hr.1
          clear hr
          refine gives_value (v := .pointer (some ⟨w.heap.size + 1, 5, none⟩)) (w' := wq) ?_ ⟨rfl, hJ, MR.refl _, fun h => absurd h (by decide)⟩
          go_simp
        · intro ρ wq hp hJ hr
          have r1 : ρ (.tmp 74) = .pointer (some ⟨w.heap.size + 1, 5, none⟩) := hr.1
          clear hr
          obtain ⟨c0, c1, c2, c3, c4, c5, d0, d1, d2, d3, d4, d5⟩ := HM3.out.limbs hJ.below
          refine gives_value (v := .int .i64 y.born) (w' := wq) ?_ ⟨rfl, hJ, MR.refl _, fun h => absurd h (by decide)⟩
          go_simp
        · intro ρ wq hp hJ hr
          have r1 : ρ (.tmp 73) = .int .i64 x.born := hr.1
          have r2 : ρ (.tmp 75) = .int .i64 y.born := hr.2.1
          clear hr
          refine gives_value (v := .int .i64 (min x.born y.born)) (w' := wq) ?_ ⟨rfl, hJ, MR.refl _, fun h => absurd h (by decide)⟩
          go_simp
          rw [Int.min_def]; split <;> split <;> omega
        · intro ρ wq hp hJ hr
          have r1 : ρ (.tmp 48) = .bool x.write := hr.1
          have r2 : ρ (.tmp 59) = .agg #[.int .i64 x.lo, .int .i64 (x.many + y.many)] := hr.2.1
          have r3 : MF1 w3 9 (x.data.length + y.data.length) (x.data.map .string ++ y.data.map .string) (ρ (.tmp 65)) wq := hr.2.2.1
          have r4 : MF1 w3 3 (x.tags.length + y.tags.length) (x.tags.map (.int .i64) ++ y.tags.map (.int .i64)) (ρ (.tmp 71)) wq := hr.2.2.2.1
          have r5 : ρ (.tmp 76) = .int .i64 (min x.born y.born) := hr.2.2.2.2.1
          clear hr
          obtain ⟨A1, n1, k1, e1, _⟩ := own_slice' r3
          obtain ⟨A2, n2, k2, e2, _⟩ := own_slice' r4
          rw [e1] at r3
          rw [e2] at r4
          refine gives_value (v := .agg #[.bool x.write, .int .i64 x.lo, .int .i64 (x.many + y.many), .slice A1 n1 k1, .slice A2 n2 k2, .int .i64 (min x.born y.born)]) (w' := wq) ?_ ⟨⟨_, _, rfl, r3, r4⟩, hJ, MR.refl _, fun h => absurd h (by decide)⟩
          clear r3 r4
          go_simp
        · intro ρ wq hp hJ hr
          have r1 : ρ (.tmp 4) = .pointer (some ⟨w.heap.size + 2, 0, none⟩) := hr.1
          have r2 : MF7 w3 x y (ρ (.tmp 77)) wq := hr.2.1
          clear hr
          obtain ⟨p, q, e7, hp7, hq7⟩ := r2
          obtain ⟨A1, n1, k1, e1, _⟩ := own_slice' hp7
          obtain ⟨A2, n2, k2, e2, _⟩ := own_slice' hq7
          subst e1 e2
          obtain ⟨g1, g2, g3⟩ := hJ.put (x := x) (y := y) hltz hp7 hq7 _ rfl
          refine gives_skip (w' := _) ?_ ⟨trivial, g1, g2, fun _ => g3⟩
          obtain ⟨z0, z1, z2, z3, z4, z5, hz⟩ := hJ.row
          have z0 : wq.cell? ⟨w.heap.size + 2, 0, none⟩ = some _ := cell_of_row _ _ 0 _ _ _ hz
          have z1 : wq.cell? ⟨w.heap.size + 2, 1, none⟩ = some _ := cell_of_row _ _ 1 _ _ _ hz
          have z2 : wq.cell? ⟨w.heap.size + 2, 2, none⟩ = some _ := cell_of_row _ _ 2 _ _ _ hz
          have z3 : wq.cell? ⟨w.heap.size + 2, 3, none⟩ = some _ := cell_of_row _ _ 3 _ _ _ hz
          have z4 : wq.cell? ⟨w.heap.size + 2, 4, none⟩ = some _ := cell_of_row _ _ 4 _ _ _ hz
          have z5 : wq.cell? ⟨w.heap.size + 2, 5, none⟩ = some _ := cell_of_row _ _ 5 _ _ _ hz
          have f0 : ∀ j, wq.frozen? ⟨w.heap.size + 2, j, none⟩ = false := fun j => frozen_of_row _ _ j _ _ hz
          clear hp7 hq7 g1 g2 g3 hz
          go_simp
        · intro ρ wq hp hJ hr
          clear hr
          refine gives_value (v := .bool true) (w' := wq) ?_ ⟨rfl, hJ, MR.refl _, fun h => absurd h (by decide)⟩
          go_simp
          exact hp.const _
      case fin =>
        intro L u hd hsz hout hF hJ hE
        obtain ⟨p, q, hz, hp, hq⟩ := hE 31 (by decide) rfl
        have h5 : L.eval (.tmp 5) = .bool true := hF.2.2.2.2.2.2.2.2.2.2.2.2.2.2.2.2.2.2.2.2.2.2.2.2.2.2.2.2.2.2.2.1
        have h4 : L.tmps[4]? = some (.pointer (some ⟨w.heap.size + 2, 0, none⟩)) := hout 4 (by decide)
        have hd : L.defers = [] := hd
        clear hout hF hE
        obtain ⟨A1, n1, k1, e1, _⟩ := own_slice' hp
        obtain ⟨A2, n2, k2, e2, _⟩ := own_slice' hq
        subst e1 e2
        go_wp2_with fail
        have z0 : u.cell? ⟨w.heap.size + 2, 0, none⟩ = some _ := cell_of_row _ _ 0 _ _ _ hz
        have z1 : u.cell? ⟨w.heap.size + 2, 1, none⟩ = some _ := cell_of_row _ _ 1 _ _ _ hz
        have z2 : u.cell? ⟨w.heap.size + 2, 2, none⟩ = some _ := cell_of_row _ _ 2 _ _ _ hz
        have z3 : u.cell? ⟨w.heap.size + 2, 3, none⟩ = some _ := cell_of_row _ _ 3 _ _ _ hz
        have z4 : u.cell? ⟨w.heap.size + 2, 4, none⟩ = some _ := cell_of_row _ _ 4 _ _ _ hz
        have z5 : u.cell? ⟨w.heap.size + 2, 5, none⟩ = some _ := cell_of_row _ _ 5 _ _ _ hz
        rw [Hj.out]
        have hbf : Below w.heap.size w u := HM3.out.below.trans (hJ.below.mono (by omega))
        refine bodyPost_ret ?_ hd (ret_joined HS.out HM3.out.below.size Hokx.out Hoky.out (fun s hs => Had.out.2 s hs) (fun s hs => Hbd.out.2 s hs) (fun s hs => Hat.out.2 s hs) (fun s hs => Hbt.out.2 s hs) hp hq hbf)
        simp [results, Try.results97, go_sem, z0, z1, z2, z3, z4, z5, h4]
        simpa [Act.eval] using h5
      -- REGION END
    · have Hn := Lib.hid hn
      clear hn
      rcases hbad with h1 | ⟨h1, ⟨h2, h3⟩ | ⟨h2, h3⟩⟩ | ⟨h1, h2, h3⟩ | ⟨h1, h2, h3, h4⟩
      all_goals first
        | exact absurd (h1.symm.trans hs1) (by decide)
        | skip
          try rw [h2] at c0
          try rw [h3] at d0
          go_wp2
          have hM4 := hM3.put (Nat.le_refl _) (.bool false) (.int .i64 0) (.int .i64 0) (.slice none 0 0) (.slice none 0 0) (.int .i64 0)
          clear hM3 c0 c1 c2 c3 c4 c5 d0 d1 d2 d3 d4 d5 f0 f1 f2 f3 f4 f5 z0 z1 z2 z3 z4 z5
          generalize (((((w3.setCell ⟨w.heap.size + 2, 0, none⟩ (.bool false)).setCell ⟨w.heap.size + 2, 1, none⟩ (.int .i64 0)).setCell ⟨w.heap.size + 2, 2, none⟩ (.int .i64 0)).setCell ⟨w.heap.size + 2, 3, none⟩ (.slice none 0 0)).setCell ⟨w.heap.size + 2, 4, none⟩ (.slice none 0 0)).setCell ⟨w.heap.size + 2, 5, none⟩ (.int .i64 0) = w4 at hM4 ⊢
          obtain ⟨⟨z0, z1, z2, z3, z4, z5⟩, _⟩ := hM4.zs
          refine bodyPost_ret (v := .tuple #[.agg #[.bool false, .int .i64 0, .int .i64 0, .slice none 0 0, .slice none 0 0, .int .i64 0], .bool false]) (by simp [results, Try.results97, go_sem, z0, z1, z2, z3, z4, z5]) rfl ?_
          rw [Hn.out]
          exact ret_none hM4.below

theorem merge_any (S : Nat → Prop) (a b : Rq) (va vb : Value) (w : World) (hS : ∀ b, w.heap.size ≤ b → S b) (ha : ReqAt S w va a) (hb : ReqAt S w vb b) (oka : ReqOk a) (okb : ReqOk b) :
    Calls Try.prog 97 #[va, vb] w (RetMerge S (mergeM a b) w) := by
  unfold mergeM swapM
  by_cases hs : b.lo + b.many = a.lo
  · rw [if_pos hs]; exact merge_go S b a vb va _ w hS hb ha okb oka (.inr ⟨rfl, hs⟩)
  · rw [if_neg hs]; exact merge_go S a b va vb _ w hS ha hb oka okb (.inl ⟨rfl, hs⟩)
end Go.Proofs.Ytojmnfelecnenaa
namespace Go.Proofs.Ytojmnfelecnenaa
set_option linter.unusedSimpArgs false
set_option linter.unusedVariables false

structure Joined (a b x : Rq) : Prop where
  ok : ReqOk x
  write : x.write = a.write
  kind : a.write = b.write
  many : x.many = a.many + b.many
  tags : x.tags.length = a.tags.length + b.tags.length
  bornA : x.born ≤ a.born
  bornB : x.born ≤ b.born
  has : ∀ k, hasB x.lo x.many k = (hasB a.lo a.many k || hasB b.lo b.many k)
  dataA : a.write = true → ∀ k, hasB a.lo a.many k = true → ∃ (i j : Nat) (s : ByteArray), k - x.lo = i ∧ k - a.lo = j ∧ x.data[i]? = some s ∧ a.data[j]? = some s
  dataB : a.write = true → ∀ k, hasB b.lo b.many k = true → ∃ (i j : Nat) (s : ByteArray), k - x.lo = i ∧ k - b.lo = j ∧ x.data[i]? = some s ∧ b.data[j]? = some s
theorem hasB_iff {f m k : Int} : hasB f m k = true ↔ f ≤ k ∧ k - f < m := by unfold hasB; simp
theorem Joined.flip {a b x : Rq} (h : Joined a b x) : Joined b a x :=
  ⟨h.ok, h.write.trans h.kind, h.kind.symm, by rw [h.many, Int.add_comm], by rw [h.tags, Nat.add_comm], h.bornB, h.bornA, fun k => by rw [h.has, Bool.or_comm], fun hw => h.dataB (h.kind.trans hw), fun hw => h.dataA (h.kind.trans hw)⟩
theorem data_len {r : Rq} (h : ReqOk r) (hw : r.write = true) : (r.data.length : Int) = r.many := by
  have := h.shape; unfold shapeOk at this; rwa [if_pos hw] at this
theorem data_none {r : Rq} (h : ReqOk r) (hw : r.write = false) : r.data.length = 0 := by
  have := h.shape; unfold shapeOk at this; rwa [if_neg (by simp [hw])] at this
theorem join_facts {p q : Rq} (hp : ReqOk p) (hq : ReqOk q) (h : joinOk p q) : Joined p q (joinM p q) := by
  obtain ⟨h1, h2, h3, h4⟩ := h
  obtain ⟨a1, a2, a3, a4, a5⟩ := hp.span
  obtain ⟨b1, b2, b3, b4, b5⟩ := hq.span
  obtain ⟨t1, t2⟩ := hp.tags
  obtain ⟨u1, u2⟩ := hq.tags
  obtain ⟨n1, n2⟩ := hp.born
  obtain ⟨m1, m2⟩ := hq.born
  have hd : ∀ k : Nat, (joinM p q).data[k]? = if k < p.data.length then p.data[k]? else q.data[k - p.data.length]? := by
    intro k
    show (p.data ++ q.data)[k]? = _
    rw [List.getElem?_append]
  refine ⟨⟨?_, ?_, ?_, ?_, ?_⟩, rfl, h2, rfl, by simp [joinM], ?_, ?_, ?_, ?_, ?_⟩
  · show SpanOk p.lo (p.many + q.many) 4
    exact ⟨a1, a2, by omega, h3, by omega⟩
  · show shapeOk (joinM p q)
    unfold shapeOk joinM
    simp only
    cases hw : p.write with
    | true =>
      have e1 := data_len hp hw
      have e2 := data_len hq (h2.symm.trans hw)
      simp [List.length_append]; omega
    | false =>
      have e1 := data_none hp hw
      have e2 := data_none hq (h2.symm.trans hw)
      simp [List.length_append] at e1 e2 ⊢; exact ⟨e1, e2⟩
  · show 1 ≤ (p.tags ++ q.tags).length ∧ (p.tags ++ q.tags).length ≤ 4
    rw [List.length_append]; omega
  · show 0 ≤ min p.born q.born ∧ _
    simp only [joinM]; omega
  · show ((p.data ++ q.data).all _) = true
    have e1 := hp.data
    have e2 := hq.data
    unfold dataOk at e1 e2
    rw [List.all_append, e1, e2]; rfl
  · show min p.born q.born ≤ _; omega
  · show min p.born q.born ≤ _; omega
  · intro k
    rw [Bool.eq_iff_iff]
    simp only [Bool.or_eq_true, hasB_iff, joinM]
    omega
  · intro hw k hk
    rw [hasB_iff] at hk
    have e1 := data_len hp hw
    obtain ⟨j, hj⟩ : ∃ j : Nat, k - p.lo = j := ⟨(k - p.lo).toNat, by omega⟩
    have hlt : j < p.data.length := by omega
    refine ⟨j, j, p.data[j], hj, hj, ?_, List.getElem?_eq_getElem hlt⟩
    rw [hd, if_pos hlt]; exact List.getElem?_eq_getElem hlt
  · intro hw k hk
    rw [hasB_iff] at hk
    have e1 := data_len hp hw
    have e2 := data_len hq (h2.symm.trans hw)
    obtain ⟨j, hj⟩ : ∃ j : Nat, k - q.lo = j := ⟨(k - q.lo).toNat, by omega⟩
    have hlt : j < q.data.length := by omega
    refine ⟨p.data.length + j, j, q.data[j], by simp only [joinM]; omega, hj, ?_, List.getElem?_eq_getElem hlt⟩
    rw [hd, if_neg (by omega)]
    rw [Nat.add_sub_cancel_left]
    exact List.getElem?_eq_getElem hlt
theorem joined_some {p q x : Rq} (hp : ReqOk p) (hq : ReqOk q) (h : joinedM p q = some x) : Joined p q x := by
  unfold joinedM at h
  split at h
  · cases h; exact join_facts hp hq ‹_›
  · cases h
theorem merge_some {a b x : Rq} (ha : ReqOk a) (hb : ReqOk b) (h : mergeM a b = some x) : Joined a b x := by
  unfold mergeM swapM at h
  split at h
  · exact (joined_some hb ha h).flip
  · exact joined_some ha hb h
theorem merge_comm {a b : Rq} (ha : ReqOk a) (hb : ReqOk b) : mergeM b a = mergeM a b := by
  obtain ⟨a1, a2, a3, a4, a5⟩ := ha.span
  obtain ⟨b1, b2, b3, b4, b5⟩ := hb.span
  unfold mergeM swapM
  by_cases h1 : b.lo + b.many = a.lo
  · have h2 : ¬ a.lo + a.many = b.lo := by omega
    rw [if_pos h1, if_neg h2]
  · by_cases h2 : a.lo + a.many = b.lo
    · rw [if_neg h1, if_pos h2]
    · rw [if_neg h1, if_neg h2]
      show joinedM b a = joinedM a b
      unfold joinedM
      rw [if_neg (fun h : joinOk b a => h1 h.1), if_neg (fun h : joinOk a b => h2 h.1)]
end Go.Proofs.Ytojmnfelecnenaa
namespace Go.Proofs.Ytojmnfelecnenaa
set_option linter.unusedSimpArgs false
set_option linter.unusedVariables false
open Go.RowKit

/-- Since w nothing that was there was written; the blocks of the list are the call's own, and hold what it says. -/
structure Lay (w wr : World) (l : List (Nat × TypeId × Array Value)) : Prop where
  below : Below w.heap.size w wr
  row : ∀ x ∈ l, wr.heap[x.1]? = some (.cells x.2.2 x.2.1 (0, 0))
  own : ∀ x ∈ l, w.heap.size ≤ x.1
  nd : (l.map (·.1)).Nodup
section
variable {w wr w' : World} {l : List (Nat × TypeId × Array Value)}
theorem Lay.refl (w : World) : Lay w w [] := ⟨Below.refl _ _, by simp, by simp, by simp⟩
theorem Lay.lt (h : Lay w wr l) {x : Nat × TypeId × Array Value} (hx : x ∈ l) : x.1 < wr.heap.size := by
  have := h.row x hx
  rcases Nat.lt_or_ge x.1 wr.heap.size with h | h
  · exact h
  · rw [Array.getElem?_eq_none h] at this; cases this
theorem Lay.size (h : Lay w wr l) : w.heap.size ≤ wr.heap.size := h.below.size
theorem Lay.step (h : Lay w wr l) (hb : Below wr.heap.size wr w') : Lay w w' l :=
  ⟨h.below.trans (hb.mono h.size), fun x hx => (hb.block _ (h.lt hx)).trans (h.row x hx), h.own, h.nd⟩
theorem Lay.alloc (h : Lay w wr l) (cs : Array Value) (T : TypeId) : Lay w (wr.alloc (.cells cs T)) ((wr.heap.size, T, cs) :: l) := by
  have hs := h.step ((Below.refl wr.heap.size wr).alloc (Nat.le_refl _) (.cells cs T))
  refine ⟨hs.below, fun x hx => ?_, fun x hx => ?_, ?_⟩
  · rcases List.mem_cons.1 hx with rfl | hx
    · exact heap_alloc_new wr (.cells cs T)
    · exact hs.row x hx
  · rcases List.mem_cons.1 hx with rfl | hx
    · exact h.size
    · exact h.own x hx
  · rw [List.map_cons, List.nodup_cons]
    refine ⟨fun hm => ?_, h.nd⟩
    obtain ⟨x, hx, he⟩ := List.mem_map.1 hm
    have := h.lt hx
    omega
theorem Lay.alloc' (h : Lay w wr l) (n : Nat) (cs : Array Value) (T : TypeId) (hn : wr.heap.size = n) : Lay w (wr.alloc (.cells cs T)) ((n, T, cs) :: l) := hn ▸ h.alloc cs T
theorem Lay.drew (h : Lay w wr l) : Lay w wr.drew l := h.step (Below.refl _ _).drew
theorem Lay.at_ (h : Lay w wr l) (i : Nat) {b : Nat} {T : TypeId} {cs : Array Value} (hi : l[i]? = some (b, T, cs)) : wr.heap[b]? = some (.cells cs T (0, 0)) := h.row _ (List.mem_of_getElem? hi)
theorem Lay.cell (h : Lay w wr l) (i : Nat) {b : Nat} {T : TypeId} {cs : Array Value} (hi : l[i]? = some (b, T, cs)) (k : Nat) : wr.cell? ⟨b, k, none⟩ = cs[k]? := cell_of_row _ _ k _ _ _ (h.at_ i hi)
theorem Lay.frozen (h : Lay w wr l) (i : Nat) {b : Nat} {T : TypeId} {cs : Array Value} (hi : l[i]? = some (b, T, cs)) (k : Nat) : wr.frozen? ⟨b, k, none⟩ = false := frozen_of_row _ _ k _ _ (h.at_ i hi)
theorem Lay.c6 (h : Lay w wr l) (i : Nat) {b : Nat} {T : TypeId} {c0 c1 c2 c3 c4 c5 : Value} (hi : l[i]? = some (b, T, #[c0, c1, c2, c3, c4, c5])) :
    wr.cell? ⟨b, 0, none⟩ = some c0 ∧ wr.cell? ⟨b, 1, none⟩ = some c1 ∧ wr.cell? ⟨b, 2, none⟩ = some c2 ∧ wr.cell? ⟨b, 3, none⟩ = some c3 ∧ wr.cell? ⟨b, 4, none⟩ = some c4 ∧ wr.cell? ⟨b, 5, none⟩ = some c5 :=
  ⟨h.cell i hi 0, h.cell i hi 1, h.cell i hi 2, h.cell i hi 3, h.cell i hi 4, h.cell i hi 5⟩
/-- The same, behind one more block. -/
theorem Lay.ca6 (h : Lay w wr l) (i : Nat) {b : Nat} {T : TypeId} {c0 c1 c2 c3 c4 c5 : Value} (hi : l[i]? = some (b, T, #[c0, c1, c2, c3, c4, c5])) :
    (∀ o, (wr.alloc o).cell? ⟨b, 0, none⟩ = some c0) ∧ (∀ o, (wr.alloc o).cell? ⟨b, 1, none⟩ = some c1) ∧ (∀ o, (wr.alloc o).cell? ⟨b, 2, none⟩ = some c2) ∧ (∀ o, (wr.alloc o).cell? ⟨b, 3, none⟩ = some c3) ∧ (∀ o, (wr.alloc o).cell? ⟨b, 4, none⟩ = some c4) ∧ (∀ o, (wr.alloc o).cell? ⟨b, 5, none⟩ = some c5) := by
  have k : ∀ o, (wr.alloc o).heap[b]? = some (.cells #[c0, c1, c2, c3, c4, c5] T (0, 0)) := fun o => (Below.heap_alloc _ _ _ (h.lt (List.mem_of_getElem? hi))).trans (h.at_ i hi)
  exact ⟨fun o => cell_of_row _ _ 0 _ _ _ (k o), fun o => cell_of_row _ _ 1 _ _ _ (k o), fun o => cell_of_row _ _ 2 _ _ _ (k o), fun o => cell_of_row _ _ 3 _ _ _ (k o), fun o => cell_of_row _ _ 4 _ _ _ (k o), fun o => cell_of_row _ _ 5 _ _ _ (k o)⟩
theorem Lay.c1 (h : Lay w wr l) (i : Nat) {b : Nat} {T : TypeId} {c0 : Value} (hi : l[i]? = some (b, T, #[c0])) : wr.cell? ⟨b, 0, none⟩ = some c0 := h.cell i hi 0
theorem Lay.c2 (h : Lay w wr l) (i : Nat) {b : Nat} {T : TypeId} {c0 c1 : Value} (hi : l[i]? = some (b, T, #[c0, c1])) : wr.cell? ⟨b, 0, none⟩ = some c0 ∧ wr.cell? ⟨b, 1, none⟩ = some c1 := ⟨h.cell i hi 0, h.cell i hi 1⟩
/-- A cell of the block number i is written. -/
theorem Lay.set (h : Lay w wr l) (i : Nat) {b : Nat} {T : TypeId} {cs : Array Value} (hi : l[i]? = some (b, T, cs)) (k : Nat) (v : Value) : Lay w (wr.setCell ⟨b, k, none⟩ v) (l.set i (b, T, cs.setIfInBounds k v)) := by
  have hm := List.mem_of_getElem? hi
  have hb := h.own _ hm
  have h0 := h.at_ i hi
  have hnd := h.nd
  refine ⟨h.below.setCell hb _, fun x hx => ?_, fun x hx => ?_, ?_⟩
  · obtain ⟨j, hj⟩ := List.mem_iff_getElem?.1 hx
    rw [List.getElem?_set] at hj
    split at hj
    · rename_i e
      split at hj
      · cases hj
        exact heap_setCell_same _ _ k _ _ v h0
      · cases hj
    · rename_i e
      have hne : x.1 ≠ b := by
        intro he
        have h1 : (l.map (·.1))[i]? = some b := by rw [List.getElem?_map, hi]; rfl
        have h2 : (l.map (·.1))[j]? = some b := by rw [List.getElem?_map, hj]; simp [he]
        obtain ⟨l1, h1⟩ := List.getElem?_eq_some_iff.1 h1
        obtain ⟨l2, h2⟩ := List.getElem?_eq_some_iff.1 h2
        exact e ((List.getElem_inj hnd).1 (h1.trans h2.symm))
      rw [heap_setCell_other _ _ _ _ (by simpa using hne)]
      exact h.row x (List.mem_of_getElem? hj)
  · rcases List.mem_or_eq_of_mem_set hx with hx | rfl
    · exact h.own x hx
    · exact hb
  · have : (l.set i (b, T, cs.setIfInBounds k v)).map (·.1) = l.map (·.1) := by
      rw [List.map_set]
      apply List.ext_getElem?
      intro j
      rw [List.getElem?_set]
      split
      · rename_i e
        subst e
        rw [List.getElem?_map, hi]
        split
        · rfl
        · rename_i hh
          exfalso
          apply hh
          rw [List.length_map]
          exact (List.getElem?_eq_some_iff.1 hi).1
      · rfl
    rw [this]
    exact hnd
/-- Six cells in one go. -/
theorem Lay.put6 (h : Lay w wr l) (i : Nat) {b : Nat} {T : TypeId} {c0 c1 c2 c3 c4 c5 : Value} (hi : l[i]? = some (b, T, #[c0, c1, c2, c3, c4, c5])) (v0 v1 v2 v3 v4 v5 : Value) :
    Lay w ((((((wr.setCell ⟨b, 0, none⟩ v0).setCell ⟨b, 1, none⟩ v1).setCell ⟨b, 2, none⟩ v2).setCell ⟨b, 3, none⟩ v3).setCell ⟨b, 4, none⟩ v4).setCell ⟨b, 5, none⟩ v5) (l.set i (b, T, #[v0, v1, v2, v3, v4, v5])) := by
  have hlt : i < l.length := (List.getElem?_eq_some_iff.1 hi).1
  have g0 := h.set i hi 0 v0
  have g1 := g0.set i (by rw [List.getElem?_set, if_pos rfl, if_pos hlt]) 1 v1
  have g2 := g1.set i (by rw [List.getElem?_set, if_pos rfl, if_pos (by simpa using hlt)]) 2 v2
  have g3 := g2.set i (by rw [List.getElem?_set, if_pos rfl, if_pos (by simpa using hlt)]) 3 v3
  have g4 := g3.set i (by rw [List.getElem?_set, if_pos rfl, if_pos (by simpa using hlt)]) 4 v4
  have g5 := g4.set i (by rw [List.getElem?_set, if_pos rfl, if_pos (by simpa using hlt)]) 5 v5
  simpa [List.set_set] using g5
end
end Go.Proofs.Ytojmnfelecnenaa
namespace Go.Proofs.Ytojmnfelecnenaa
open Go.RowKit
set_option maxRecDepth 100000 in
set_option maxHeartbeats 4000000 in
theorem reqcheck_any (S : Nat → Prop) (r : Rq) (v : Value) (w : World) (h : ReqAt S w v r) :
    Calls Try.prog 95 #[v] w (Ret (errV (reqF r)) w) := by
  obtain ⟨Ad, cd, At, ct, rfl, hd, ht, dm, tm, _, _, _⟩ := h.opened
  have Hd := Lib.hid hd
  clear hd ht h
  by_cases hs : SpanOk r.lo r.many 4
  · have fs := spanF_pos hs
    have Hs := Lib.hid hs
    have hm1 : 1 ≤ r.many := hs.2.2.1
    clear hs
    by_cases hsh : shapeOk r
    · have Hsh := Lib.hid hsh
      have q : (r.write = true ∧ ((r.data.length : Int) == r.many) = true ∧ 0 < (r.data.length : Int)) ∨ (r.write = false ∧ (¬ 0 < (r.data.length : Int)) ∧ decide (0 < r.data.length) = false) := by
        unfold shapeOk at hsh
        cases hw : r.write with
        | true => rw [hw] at hsh; simp at hsh; left; exact ⟨rfl, by simpa using hsh, by omega⟩
        | false => rw [hw] at hsh; simp at hsh; right; exact ⟨rfl, by rw [hsh]; simp, by rw [hsh]; simp⟩
      clear hsh
      by_cases htg : tagsOk r
      · have Htg := Lib.hid htg
        have t1 : (1 : Int) ≤ (r.tags.length : Int) := by have := htg.1; omega
        have t2 : (r.tags.length : Int) ≤ 4 := by have := htg.2; omega
        have t0 : ((r.tags.length : Int) == 0) = false := by simp; intro h; rw [h] at t1; simp at t1
        clear htg
        by_cases hbn : bornOk r
        · have Hbn := Lib.hid hbn
          have b1 : 0 ≤ r.born := hbn.1
          have b2 : r.born ≤ 1000000000 := hbn.2
          clear hbn
          rcases q with ⟨hw, hq, hq2⟩ | ⟨hw, hq, hqd⟩
          · have hq3 : ((r.data.length : Int) != r.many) = false := by rw [bne, hq]; rfl
            cases hall : r.data.all (fun s => decide (s.size ≤ 4)) with
            | true =>
              rw [reqF_ok ⟨Hs.out, Hsh.out, Htg.out, Hbn.out, hall⟩]
              go_enter Try.func95, Try.ntmps95
              go_wp2_with (first | (go_at_call 102; refine (check_any _ _ _ _ (by omega)).mono ?_; rintro e w1 ⟨rfl, hb1⟩; obtain ⟨hc1, hf1⟩ := bcell hb1; have hz1 := hb1.size; simp only [World.size_alloc] at hz1) | (go_at_call 103; refine (contains1_any S r.data _ _ (Hd.out.below (((Below.refl _ _).alloc (Nat.le_refl _) _).trans (hb1.mono (by simp))))).mono ?_; rintro e w2 ⟨rfl, rfl⟩))
              go_ret
              exact ⟨rfl, ((Below.refl _ _).alloc (Nat.le_refl _) _).trans (hb1.mono (by simp))⟩
            | false =>
              rw [reqF_data Hs.out Hsh.out Htg.out Hbn.out hall]
              go_enter Try.func95, Try.ntmps95
              go_wp2_with (first | (go_at_call 102; refine (check_any _ _ _ _ (by omega)).mono ?_; rintro e w1 ⟨rfl, hb1⟩; obtain ⟨hc1, hf1⟩ := bcell hb1; have hz1 := hb1.size; simp only [World.size_alloc] at hz1) | (go_at_call 103; refine (contains1_any S r.data _ _ (Hd.out.below (((Below.refl _ _).alloc (Nat.le_refl _) _).trans (hb1.mono (by simp))))).mono ?_; rintro e w2 ⟨rfl, rfl⟩))
              go_ret
              exact ⟨rfl, ((Below.refl _ _).alloc (Nat.le_refl _) _).trans (hb1.mono (by simp))⟩
          · skip
            cases hall : r.data.all (fun s => decide (s.size ≤ 4)) with
            | true =>
              rw [reqF_ok ⟨Hs.out, Hsh.out, Htg.out, Hbn.out, hall⟩]
              go_enter Try.func95, Try.ntmps95
              go_wp2_with (first | (go_at_call 102; refine (check_any _ _ _ _ (by omega)).mono ?_; rintro e w1 ⟨rfl, hb1⟩; obtain ⟨hc1, hf1⟩ := bcell hb1; have hz1 := hb1.size; simp only [World.size_alloc] at hz1) | (go_at_call 103; refine (contains1_any S r.data _ _ (Hd.out.below (((Below.refl _ _).alloc (Nat.le_refl _) _).trans (hb1.mono (by simp))))).mono ?_; rintro e w2 ⟨rfl, rfl⟩))
              go_ret
              exact ⟨rfl, ((Below.refl _ _).alloc (Nat.le_refl _) _).trans (hb1.mono (by simp))⟩
            | false =>
              rw [reqF_data Hs.out Hsh.out Htg.out Hbn.out hall]
              go_enter Try.func95, Try.ntmps95
              go_wp2_with (first | (go_at_call 102; refine (check_any _ _ _ _ (by omega)).mono ?_; rintro e w1 ⟨rfl, hb1⟩; obtain ⟨hc1, hf1⟩ := bcell hb1; have hz1 := hb1.size; simp only [World.size_alloc] at hz1) | (go_at_call 103; refine (contains1_any S r.data _ _ (Hd.out.below (((Below.refl _ _).alloc (Nat.le_refl _) _).trans (hb1.mono (by simp))))).mono ?_; rintro e w2 ⟨rfl, rfl⟩))
              go_ret
              exact ⟨rfl, ((Below.refl _ _).alloc (Nat.le_refl _) _).trans (hb1.mono (by simp))⟩
        · have e := reqF_born Hs.out Hsh.out Htg.out hbn
          have bb : r.born < 0 ∨ 1000000000 < r.born := by unfold bornOk at hbn; omega
          rw [e]
          clear e hbn
          rcases q with ⟨hw, hq, hq2⟩ | ⟨hw, hq, hqd⟩
          · have hq3 : ((r.data.length : Int) != r.many) = false := by rw [bne, hq]; rfl
            rcases bb with bb | bb
            · skip
              go_enter Try.func95, Try.ntmps95
              go_wp2_with (go_at_call 102; refine (check_any _ _ _ _ (by omega)).mono ?_; rintro e w1 ⟨rfl, hb1⟩; obtain ⟨hc1, hf1⟩ := bcell hb1; have hz1 := hb1.size; simp only [World.size_alloc] at hz1)
              go_ret
              exact ⟨rfl, ((Below.refl _ _).alloc (Nat.le_refl _) _).trans (hb1.mono (by simp))⟩
            · skip
              go_enter Try.func95, Try.ntmps95
              go_wp2_with (go_at_call 102; refine (check_any _ _ _ _ (by omega)).mono ?_; rintro e w1 ⟨rfl, hb1⟩; obtain ⟨hc1, hf1⟩ := bcell hb1; have hz1 := hb1.size; simp only [World.size_alloc] at hz1)
              go_ret
              exact ⟨rfl, ((Below.refl _ _).alloc (Nat.le_refl _) _).trans (hb1.mono (by simp))⟩
          · rcases bb with bb | bb
            · skip
              go_enter Try.func95, Try.ntmps95
              go_wp2_with (go_at_call 102; refine (check_any _ _ _ _ (by omega)).mono ?_; rintro e w1 ⟨rfl, hb1⟩; obtain ⟨hc1, hf1⟩ := bcell hb1; have hz1 := hb1.size; simp only [World.size_alloc] at hz1)
              go_ret
              exact ⟨rfl, ((Below.refl _ _).alloc (Nat.le_refl _) _).trans (hb1.mono (by simp))⟩
            · skip
              go_enter Try.func95, Try.ntmps95
              go_wp2_with (go_at_call 102; refine (check_any _ _ _ _ (by omega)).mono ?_; rintro e w1 ⟨rfl, hb1⟩; obtain ⟨hc1, hf1⟩ := bcell hb1; have hz1 := hb1.size; simp only [World.size_alloc] at hz1)
              go_ret
              exact ⟨rfl, ((Below.refl _ _).alloc (Nat.le_refl _) _).trans (hb1.mono (by simp))⟩
      · have e := reqF_tags Hs.out Hsh.out htg
        have bb : r.tags.length = 0 ∨ 4 < (r.tags.length : Int) := by unfold tagsOk at htg; omega
        rw [e]
        clear e htg
        rcases q with ⟨hw, hq, hq2⟩ | ⟨hw, hq, hqd⟩
        · have hq3 : ((r.data.length : Int) != r.many) = false := by rw [bne, hq]; rfl
          rcases bb with bb | bb
          · skip
            go_enter Try.func95, Try.ntmps95
            go_wp2_with (go_at_call 102; refine (check_any _ _ _ _ (by omega)).mono ?_; rintro e w1 ⟨rfl, hb1⟩; obtain ⟨hc1, hf1⟩ := bcell hb1; have hz1 := hb1.size; simp only [World.size_alloc] at hz1)
            go_ret
            exact ⟨rfl, ((Below.refl _ _).alloc (Nat.le_refl _) _).trans (hb1.mono (by simp))⟩
          · have t0 : ((r.tags.length : Int) == 0) = false := by simp; intro h; rw [h] at bb; simp at bb
            go_enter Try.func95, Try.ntmps95
            go_wp2_with (go_at_call 102; refine (check_any _ _ _ _ (by omega)).mono ?_; rintro e w1 ⟨rfl, hb1⟩; obtain ⟨hc1, hf1⟩ := bcell hb1; have hz1 := hb1.size; simp only [World.size_alloc] at hz1)
            go_ret
            exact ⟨rfl, ((Below.refl _ _).alloc (Nat.le_refl _) _).trans (hb1.mono (by simp))⟩
        · rcases bb with bb | bb
          · skip
            go_enter Try.func95, Try.ntmps95
            go_wp2_with (go_at_call 102; refine (check_any _ _ _ _ (by omega)).mono ?_; rintro e w1 ⟨rfl, hb1⟩; obtain ⟨hc1, hf1⟩ := bcell hb1; have hz1 := hb1.size; simp only [World.size_alloc] at hz1)
            go_ret
            exact ⟨rfl, ((Below.refl _ _).alloc (Nat.le_refl _) _).trans (hb1.mono (by simp))⟩
          · have t0 : ((r.tags.length : Int) == 0) = false := by simp; intro h; rw [h] at bb; simp at bb
            go_enter Try.func95, Try.ntmps95
            go_wp2_with (go_at_call 102; refine (check_any _ _ _ _ (by omega)).mono ?_; rintro e w1 ⟨rfl, hb1⟩; obtain ⟨hc1, hf1⟩ := bcell hb1; have hz1 := hb1.size; simp only [World.size_alloc] at hz1)
            go_ret
            exact ⟨rfl, ((Below.refl _ _).alloc (Nat.le_refl _) _).trans (hb1.mono (by simp))⟩
    · have e := reqF_shape Hs.out hsh
      rw [e]
      clear e
      cases hw : r.write with
      | true =>
        have q1 : ((r.data.length : Int) == r.many) = false := by unfold shapeOk at hsh; rw [hw] at hsh; simpa using hsh
        have q2 : ((r.data.length : Int) != r.many) = true := by rw [bne, q1]; rfl
        clear hsh
        by_cases hl : 0 < (r.data.length : Int)
        · skip
          go_enter Try.func95, Try.ntmps95
          go_wp2_with (go_at_call 102; refine (check_any _ _ _ _ (by omega)).mono ?_; rintro e w1 ⟨rfl, hb1⟩; obtain ⟨hc1, hf1⟩ := bcell hb1; have hz1 := hb1.size; simp only [World.size_alloc] at hz1)
          go_ret
          exact ⟨rfl, ((Below.refl _ _).alloc (Nat.le_refl _) _).trans (hb1.mono (by simp))⟩
        · skip
          go_enter Try.func95, Try.ntmps95
          go_wp2_with (go_at_call 102; refine (check_any _ _ _ _ (by omega)).mono ?_; rintro e w1 ⟨rfl, hb1⟩; obtain ⟨hc1, hf1⟩ := bcell hb1; have hz1 := hb1.size; simp only [World.size_alloc] at hz1)
          go_ret
          exact ⟨rfl, ((Below.refl _ _).alloc (Nat.le_refl _) _).trans (hb1.mono (by simp))⟩
      | false =>
        have hl : 0 < (r.data.length : Int) := by unfold shapeOk at hsh; rw [hw] at hsh; simp at hsh; have := List.length_pos_iff.2 hsh; omega
        have hln : decide (0 < r.data.length) = true := decide_eq_true (by omega)
        clear hsh hl
        go_enter Try.func95, Try.ntmps95
        go_wp2_with (go_at_call 102; refine (check_any _ _ _ _ (by omega)).mono ?_; rintro e w1 ⟨rfl, hb1⟩; obtain ⟨hc1, hf1⟩ := bcell hb1; have hz1 := hb1.size; simp only [World.size_alloc] at hz1)
        go_ret
        exact ⟨rfl, ((Below.refl _ _).alloc (Nat.le_refl _) _).trans (hb1.mono (by simp))⟩
  · have fs := spanF_neg hs
    rw [reqF_span hs]
    clear hs
    go_enter Try.func95, Try.ntmps95
    go_wp2_with (go_at_call 102; refine (check_any _ _ _ _ (by omega)).mono ?_; rintro e w1 ⟨rfl, hb1⟩; obtain ⟨hc1, hf1⟩ := bcell hb1; have hz1 := hb1.size; simp only [World.size_alloc] at hz1)
    go_ret
    exact ⟨rfl, ((Below.refl _ _).alloc (Nat.le_refl _) _).trans (hb1.mono (by simp))⟩
end Go.Proofs.Ytojmnfelecnenaa
