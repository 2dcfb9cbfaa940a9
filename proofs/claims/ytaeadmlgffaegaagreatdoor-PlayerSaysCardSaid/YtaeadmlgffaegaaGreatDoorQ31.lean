/- A region that draws its order, and that ends with one operation that waits for all others: it alone may write what the others read. -/
import Derived.Test.YtaeadmlgffaegaaGreatDoorQ30
import Derived.Test.YtaeadmlgffaegaaGreatDoorQ24
set_option linter.unusedSimpArgs false
set_option linter.unusedVariables false
set_option maxRecDepth 100000
set_option maxHeartbeats 8000000
namespace Go.Proofs.YtaeadmlgffaegaaGreatDoor
open Go
section
variable {P:Program}
def StableBut (dead:List Tmp) (R:World→World→Prop):List (Tmp × SlotFact)→Prop
 | []=>True
 |g :: gs=>(dead.contains g.1=true∨∀ v w w',g.2 v w→R w w'→g.2 v w')∧StableBut dead R gs
theorem slotG_stable_but {dead:List Tmp} {R:World→World→Prop} {a:Act} {d:Tmp} {v:Value} {w w':World} (hd0:dead.contains d=false):∀ {Gs:List (Tmp × SlotFact)},StableBut dead R Gs→slotG Gs a d v w→R w w'→slotG Gs a d v w'
 | [],_,h,_=>h
 |g :: gs,hst,h,hr=>by
  unfold slotG at *
  rw [List.lookup_cons] at *
  by_cases hd:(d == g.1)=true
  ·have e:d=g.1:=beq_iff_eq.1 hd
   simp only [hd,cond_true] at *
   rcases hst.1 with h1 | h1
   ·rw [← e,hd0] at h1; cases h1
   ·exact h1 _ _ _ h hr
  ·simp only [Bool.not_eq_true] at hd
   simp only [hd,cond_false] at *
   exact slotG_stable_but (Gs:=gs) (a:=a) hd0 hst.2 h hr
def FinBut (dead:List Tmp) (f:Tmp→Value) (w:World):List (Tmp × SlotFact)→Prop
 | []=>True
 |g :: gs=>(dead.contains g.1=true∨g.2 (f g.1) w)∧FinBut dead f w gs
theorem slotG_fin_but {dead:List Tmp} {f:Tmp→Value} {w:World} {a:Act}:∀ {Gs:List (Tmp × SlotFact)},(Gs.map (·.1)).Nodup→(∀ d,d ∈ Gs.map (·.1)→dead.contains d=false→slotG Gs a d (f d) w)→FinBut dead f w Gs
 | [],_,_=>trivial
 |g :: gs,hn,h=>by
  rw [List.map_cons,List.nodup_cons] at hn
  refine ⟨?_,slotG_fin_but (a:=a) hn.2 (fun d hd hdd=>?_)⟩
  ·cases hc:dead.contains g.1 with
   |true=>exact .inl rfl
   |false =>
    right
    have:=h g.1 (by simp) hc
    unfold slotG at this
    rw [List.lookup_cons] at this
    simpa using this
  ·have:=h d (by simp [hd]) hdd
   unfold slotG at this ⊢
   rw [List.lookup_cons] at this
   have hne:(d == g.1)=false:=by
    have:d≠g.1:=fun e=>hn.1 (e▸hd)
    simpa using this
   rw [hne] at this
   exact this
def deadB (L:List Oper) (m:Nat) (dead:List Tmp):Bool:=(List.range L.length).all fun k=>k == m || match L[k]? with
 |some o=>(tmpsOf o).all (fun d=>!dead.contains d)
 |none=>true
theorem deadB_ok {L:List Oper} {m:Nat} {dead:List Tmp} (h:deadB L m dead=true) {k:Nat} {o:Oper} (ho:L[k]?=some o) (hk:k≠m) {d:Tmp} (hd:d ∈ tmpsOf o):dead.contains d=false:=by
 unfold deadB at h
 rw [List.all_eq_true] at h
 have hkl:k<L.length:=by
  rcases Nat.lt_or_ge k L.length with h' | h'
  ·exact h'
  ·rw [List.getElem?_eq_none h'] at ho; cases ho
 have h1:=h k (List.mem_range.2 hkl)
 rw [ho,Bool.or_eq_true,beq_iff_eq,List.all_eq_true] at h1
 have h2:=(h1.resolve_left hk) d hd
 simpa using h2
def StepR (P:Program) (G:Tmp→SlotFact) (J:World→Prop) (R:World→World→Prop) (o:Oper):Prop :=
 ∀ ρ w,Plain ρ→J w→Reads G ρ w (tmpsOf o)→OpGives P o ρ w (fun v w'=>GD G o.dst v w'∧J w'∧R w w')
def StepsR (P:Program) (G:Tmp→SlotFact) (J:World→Prop) (R:Nat→World→World→Prop):Nat→List Oper→Prop
 |_,[]=>True
 |i,o :: os=>StepR P G J (R i) o∧StepsR P G J R (i+1) os
theorem steps_at_r {G:Tmp→SlotFact} {J:World→Prop} {R:Nat→World→World→Prop}:∀ {ops:List Oper} {k:Nat},StepsR P G J R k ops→∀ {i:Nat} {o:Oper},ops[i]?=some o→StepR P G J (R (k+i)) o
 | [],_,_,i,o,h=>by simp at h
 |o' :: os,k,hs,0,o,h=>by simp at h; subst h; exact hs.1
 |o' :: os,k,hs,i+1,o,h=>by
  have:=steps_at_r hs.2 (i:=i) (o:=o) (by simpa using h)
  rwa [show k+1+i=k+(i+1) by omega] at this
def tailB (L:List Oper):Bool:=(List.range (L.length - 1)).all fun j=>(List.range L.length).any fun k=>decide (j<k) && match L[k]? with
 |some o=>o.after.toList.any (fun e=>Region.binds .any e && e.on == j)
 |none=>false
theorem tail_all {L:List Oper} (h:tailB L=true) {C:Nat→Prop} (hC:∀ k o,L[k]?=some o→C k→∀ e ∈ o.after,Region.binds .any e=true→C e.on) (hl:C (L.length - 1)):∀ j,j<L.length→C j:=by
 unfold tailB at h
 rw [List.all_eq_true] at h
 have key:∀ m j,j<L.length→L.length - 1 - j≤m→C j:=by
  intro m
  induction m with
  |zero=>intro j hj hm; have:j=L.length - 1:=by omega
         rw [this]; exact hl
  |succ m ih =>
   intro j hj hm
   by_cases hje:j=L.length - 1
   ·rw [hje]; exact hl
   ·have h1:=h j (List.mem_range.2 (by omega))
    rw [List.any_eq_true] at h1
    obtain ⟨k,hk,h2⟩:=h1
    rw [List.mem_range] at hk
    rw [Bool.and_eq_true,decide_eq_true_eq] at h2
    obtain ⟨h3,h4⟩:=h2
    cases ho:L[k]? with
    |none=>rw [ho] at h4; cases h4
    |some o =>
     rw [ho] at h4
     simp only [List.any_eq_true,Bool.and_eq_true,beq_iff_eq] at h4
     obtain ⟨e,he,hb,hj'⟩:=h4
     rw [← hj']
     exact hC k o ho (ih k hk (by omega)) e (by simpa using he) hb
 exact fun j hj=>key _ j hj (Nat.le_refl _)
theorem wp_region_tail {id n:Nat} (m:Nat) (dead q:List Tmp) {L:List Oper} {t:Oper} {Q:Exit→Act→World→Prop} {a:Act} {w:World} (hm:P.follows .mixedOrders=true) (Gs:List (Tmp × SlotFact)) (J:World→Prop) (R:Nat→World→World→Prop)
  (hB:regB a.tmps.size L=true) (hn:L.length=n+1) (ht:L[n]?=some t) (htd:t.dst=none) (hT:tailB L=true) (hGs:Gs.map (·.1)=dstsOf (L.take n)) (hnd:(dstsOf (L.take n)).Nodup) (hdead:deadB L m dead=true) (hq:(q.all fun d=>dead.contains d || (L[m]?.bind (·.dst)) == some d)=true) (hJ:J w.drew) (hst:∀ i,i≠m→StableAll (R i) Gs) (hstm:StableBut q (R m) Gs)
  (hsteps:StepsR P (slotG Gs a) J R 0 (L.take n))
  (hlast:∀ f ρ w',FinBut dead f w' Gs→J w'→(∀ d,d ∉ dstsOf (L.take n)→f d=a.eval (.tmp d))→Plain ρ→(∀ d,ρ (.tmp d)=f d)→OpGives P t ρ w' (fun _ w''=>Q .normal (laid f (L.take n) a) w'')):(Code.region id L.toArray true).wp P Q a w:=by
 have hR:=regB_ok hB
 have hget:∀ j:Nat,L.toArray[j]?=L[j]?:=fun j=>by simp
 have htake:∀ {j:Nat} {o:Oper},(L.take n)[j]?=some o→L[j]?=some o∧j<n:=fun {j o} h=>by
  rw [List.getElem?_take] at h
  split at h
  ·exact ⟨h,by assumption⟩
  ·cases h
 have hput:∀ {j:Nat} {o:Oper},L[j]?=some o→j<n→(L.take n)[j]?=some o:=fun {j o} h hj=>by rw [List.getElem?_take,if_pos hj]; exact h
 have hdst:∀ {j:Nat} {o:Oper} {d:Tmp},L[j]?=some o→o.dst=some d→j<n:=fun {j o d} h hd=>by
  have hjl:j<L.length:=by
   rcases Nat.lt_or_ge j L.length with h' | h'
   ·exact h'
   ·rw [List.getElem?_eq_none h'] at h; cases h
  apply Classical.byContradiction
  intro hjn
  have:j=n:=by omega
  subst this
  rw [ht] at h
  cases h
  rw [htd] at hd
  cases hd
 have done:∀ (fuel:Nat) (listed:Array Bool) (b:Act) (w:World),listed.size=L.length→(∀ j,j<L.length→listed.getD j false=true)→Q .normal b w→wpAny P .any L.toArray Q fuel listed b w:=by
  intro fuel listed b w hsz hall hq
  have hnil:Region.ready .any L.toArray listed=[]:=by
   rw [List.eq_nil_iff_forall_not_mem]
   intro j hjr
   obtain ⟨h1,o,ho,_⟩:=mem_ready.1 hjr
   rw [hget] at ho
   have hjl:j<L.length:=by
    rcases Nat.lt_or_ge j L.length with h | h
    ·exact h
    ·rw [List.getElem?_eq_none h] at ho; cases ho
   have h2:=hall j hjl
   simp only [Array.getD,hsz,hjl,dite_true] at h1 h2
   rw [h1] at h2; cases h2
  cases fuel with
  |zero=>exact ⟨hnil,hq⟩
  |succ fuel=>exact ⟨fun _=>hq,fun i hi=>by rw [hnil] at hi; cases hi⟩
 have main:∀ (fuel:Nat) (listed:Array Bool) (b:Act) (w:World),listed.size=L.length→listed.getD n false=false→((List.range L.length).filter (fun j=>!listed.getD j true)).length≤fuel→J w→b.defers=a.defers→b.tmps.size=a.tmps.size →
   (∀ d,(∀ j o,L[j]?=some o→o.dst=some d→listed.getD j false=true)→(dead.contains d=true→listed.getD m false=false)→slotG Gs a d (b.eval (.tmp d)) w)→(∀ d,d ∉ dstsOf (L.take n)→b.tmps[d]?=a.tmps[d]?)→(∀ k o,L[k]?=some o→listed.getD k false=true→∀ e ∈ o.after,Region.binds .any e=true→listed.getD e.on false=true)→wpAny P .any L.toArray Q fuel listed b w:=by
  intro fuel
  induction fuel with
  |zero =>
   intro listed b w hsz hun hcnt hj hd1 hd2 hG hU hC
   exfalso
   have h0:(List.range L.length).filter (fun j=>!listed.getD j true)=[]:=List.eq_nil_of_length_eq_zero (by omega)
   have hnl:n<L.length:=by omega
   have:=List.filter_eq_nil_iff.1 h0 n (List.mem_range.2 hnl)
   simp only [Array.getD,hsz,hnl,dite_true] at this hun
   rw [hun] at this
   exact this rfl
  |succ fuel ih =>
   intro listed b w hsz hln hcnt hj hd1 hd2 hG hU hC
   refine ⟨fun hr=>?_,fun i hi=>?_⟩
   ·exfalso
    have hall:∀ j,j<L.length→listed.getD j false=true:=by
     intro j hjl
     induction j using Nat.strongRecOn with
     |_ j ihj =>
      cases hl:listed.getD j false with
      |true=>rfl
      |false =>
       exfalso
       have hmem:j ∈ Region.ready .any L.toArray listed:=by
        refine mem_ready.2 ⟨?_,L[j],by rw [hget]; exact List.getElem?_eq_getElem hjl,fun e he hb=>?_⟩
        ·simp only [Array.getD,hsz,hjl,dite_true] at hl ⊢
         exact hl
        ·have ho:=hR.order j _ e (List.getElem?_eq_getElem hjl) he hb
         exact ihj e.on ho (by omega)
       rw [hr] at hmem; cases hmem
    have:=hall n (by omega)
    rw [hln] at this; cases this
   ·obtain ⟨hun,o,ho,hdone⟩:=mem_ready.1 hi
    have ho':=ho
    rw [hget] at ho'
    have hil:i<L.length:=by
     rcases Nat.lt_or_ge i L.length with h | h
     ·exact h
     ·rw [List.getElem?_eq_none h] at ho'; cases ho'
    unfold wpOp
    simp only [ho]
    have hw:Region.wanted o (yielded L.toArray b.tmps)=true:=by simp [Region.wanted,hR.guard i o ho']
    rw [if_pos hw]
    left
    by_cases hin:i=n
    ·subst hin
     rw [ht] at ho'
     cases ho'
     have hL1:L.length - 1=i:=by omega
     have hall:∀ j,j<L.length→j≠i→listed.getD j false=true:=by
      have h:=tail_all hT (C:=fun k=>k=i∨listed.getD k false=true) (fun k ok hok hk e he hb=>by
       rcases hk with hk | hk
       ·subst hk
        rw [ht] at hok
        cases hok
        exact .inr (hdone e he hb)
       ·exact .inr (hC k ok hok hk e he hb)) (by rw [hL1]; exact .inl rfl)
      exact fun j hjl hji=>(h j hjl).resolve_left hji
     have hF:FinBut dead (fun d=>b.eval (.tmp d)) w Gs:=slotG_fin_but (a:=a) (by rw [hGs]; exact hnd) (fun d _ hdd=>hG d (fun j oj hoj hdj=>hall j (by have:=hdst hoj hdj; omega) (by have:=hdst hoj hdj; omega)) (fun h=>by rw [hdd] at h; cases h))
     have hstep:=hlast (fun d=>b.eval (.tmp d)) b.eval w hF hj (fun d hd=>by simp [Act.eval,hU d hd]) ⟨fun _=>rfl,fun _=>rfl,fun _=>rfl⟩ (fun _=>rfl)
     rw [laid_eq (a:=b) (fun d hl=>by simp [Act.eval,hl]) (L.take i) a hd1.symm hd2.symm (fun d hl=>by
      by_cases hm:d ∈ dstsOf (L.take i)
      ·exact .inr hm
      ·exact .inl (hU d hm).symm)] at hstep
     refine wp_of_gives hstep fun v w' hq=>?_
     rw [htd]
     refine done _ _ _ _ (by simpa using hsz) (fun j hjl=>?_) hq
     by_cases hji:j=i
     ·subst hji; simp [Array.getD,hsz,hil]
     ·rw [getD_set_ne false (Ne.symm hji)]
      exact hall j hjl hji
    ·have hlt:i<n:=by omega
     have hunl:listed.getD i false=false:=by
      simp only [Array.getD,hsz,hil,dite_true] at hun ⊢
      exact hun
     have hstep:=steps_at_r hsteps (hput ho' hlt) b.eval w ⟨fun _=>rfl,fun _=>rfl,fun _=>rfl⟩ hj (reads_of fun d hd=>hG d (fun j oj hoj hdj=>by
      obtain ⟨e,he,hb,rfl⟩:=hR.waits i o j oj d ho' hoj hdj hd
      exact hdone e he hb) (fun hdd=>by
      by_cases him:i=m
      ·rw [← him]; exact hunl
      ·rw [deadB_ok hdead ho' him hd] at hdd; cases hdd))
     rw [Nat.zero_add] at hstep
     refine wp_of_gives hstep fun v w' ⟨hv,hj',hr'⟩=>?_
     have hcnt':((List.range L.length).filter (fun j=>!(listed.setIfInBounds i true).getD j true)).length≤fuel:=by
      have hlt:((List.range L.length).filter (fun j=>!(listed.setIfInBounds i true).getD j true)).length<((List.range L.length).filter (fun j=>!listed.getD j true)).length:=by
       have e:(List.range L.length).filter (fun j=>!(listed.setIfInBounds i true).getD j true)=((List.range L.length).filter (fun j=>!listed.getD j true)).filter (fun j=>j != i):=by
        rw [List.filter_filter]
        apply List.filter_congr
        intro j hj
        by_cases hji:j=i
        ·subst hji
         have:(listed.setIfInBounds j true).getD j true=true:=by simp [Array.getD,hsz,hil]
         rw [this]; simp
        ·rw [getD_set_ne true (Ne.symm hji)]
         simp [hji]
       rw [e]
       apply List.length_filter_lt_length_iff_exists.2
       exact ⟨i,List.mem_filter.2 ⟨List.mem_range.2 hil,by simpa using hun⟩,by simp⟩
      omega
     refine ih (listed.setIfInBounds i true) _ w' (by simpa using hsz) (by rw [getD_set_ne false hin]; exact hln) hcnt' hj' ?_ ?_ (fun d hd hdd=>?_) (fun d hd=>?_) (fun k ok hok hk e he hb=>?_)
     ·unfold Act.put; split <;> exact hd1
     ·unfold Act.put; split <;> simpa using hd2
     ·by_cases hod:o.dst=some d
      ·rw [hod] at hv
       have hdn:=hR.dst i o d ho' hod
       have:(b.put o.dst v).eval (.tmp d)=v:=by
        rw [hod]
        simp [Act.put,Act.eval,hd2,hdn]
       rw [this]
       exact hv
      ·have:(b.put o.dst v).eval (.tmp d)=b.eval (.tmp d):=Act.eval_put (fun e he=>by
        intro hh
        injection hh with hh
        exact hod (by rw [he,hh]))
       rw [this]
       have hold:slotG Gs a d (b.eval (.tmp d)) w:=by
        refine hG d (fun j oj hoj hdj=>?_) (fun hc=>?_)
        ·have h3:=hd j oj hoj hdj
         by_cases hji:j=i
         ·subst hji
          rw [ho'] at hoj
          cases hoj
          exact absurd hdj hod
         ·rwa [getD_set_ne false (Ne.symm hji)] at h3
        ·have h3:=hdd hc
         by_cases hmi:m=i
         ·rw [hmi]; exact hunl
         ·rwa [getD_set_ne false (Ne.symm hmi)] at h3
       by_cases him:i=m
       ·subst him
        cases hc:dead.contains d with
        |true =>
         have h3:=hdd hc
         simp [Array.getD,hsz,hil] at h3
        |false =>
         have hqc:q.contains d=false:=by
          cases hqd:q.contains d with
          |false=>rfl
          |true =>
           rw [List.all_eq_true] at hq
           have h4:=hq d (by simpa using hqd)
           rw [hc,ho',Bool.false_or,beq_iff_eq] at h4
           exact absurd h4 hod
         exact slotG_stable_but hqc hstm hold hr'
       ·exact slotG_stable (hst i him) hold hr'
     ·have hne:o.dst≠some d:=fun h=>hd (List.mem_filterMap.2 ⟨o,List.mem_of_getElem? (hput ho' hlt),h⟩)
      have hU':=hU d hd
      unfold Act.put
      split
      ·rename_i e he
       simp only
       rw [Array.getElem?_setIfInBounds_ne (fun h=>hne (by rw [he,h]))]
       exact hU'
      ·exact hU'
     ·by_cases hei:e.on=i
      ·rw [hei]
       simp [Array.getD,hsz,hil]
      ·rw [getD_set_ne false (Ne.symm hei)]
       by_cases hki:k=i
       ·subst hki
        rw [ho'] at hok
        cases hok
        exact hdone e he hb
       ·rw [getD_set_ne false (Ne.symm hki)] at hk
        exact hC k ok hok hk e he hb
 have hnone:∀ j,(Array.replicate L.toArray.size false).getD j false=false:=fun j=>by
  simp only [Array.getD]
  split <;> simp
 refine wp_region_any hm ?_
 refine main _ _ _ _ (by simp) (hnone n) ?_ hJ rfl rfl (fun d hd _=>?_) (fun _ _=>rfl) (fun k ok _ hk=>?_)
 ·have:=List.length_filter_le (fun j=>!(Array.replicate L.toArray.size false).getD j true) (List.range L.length)
  simpa using this
 ·have:d ∉ Gs.map (·.1):=by
   rw [hGs]
   intro hm
   obtain ⟨o,ho,hdo⟩:=List.mem_filterMap.1 hm
   obtain ⟨j,hj⟩:=List.mem_iff_getElem?.1 ho
   have:=hd j o (htake hj).1 hdo
   rw [hnone] at this; cases this
  rw [slotG_none this]
 ·exfalso
  rw [hnone] at hk; cases hk
end
end Go.Proofs.YtaeadmlgffaegaaGreatDoor
namespace Go.Proofs.YtaeadmlgffaegaaGreatDoor
open Go.RowKit Go.Sort
section
variable {T:Tys} {col col':Nat→Nat} {w w' w1:World} {b bd N:Nat} {x:Sv} {s:St}
theorem StAt.paintA (h:StAt T col w b bd N x s) (hb:Below w.heap.size w w') {c:Nat} (hc:c<3) (P:Nat→Prop) [DecidablePred P] (hP:∀ k,P k→w.heap.size≤k∧k<w'.heap.size) :
  StAt T (fun k=>if P k then 5+c else col k) w' b bd N x s:=by
 have hold:∀ k,k<w.heap.size→(if P k then 5+c else col k)=col k:=fun k hl=>if_neg (fun hp=>by have:=(hP k hp).1; omega)
 have hF:Fd (fun k=>if P k then 5+c else col k)=Fd col:=funext fun k=>propext ⟨fun e=>by
  have e:(if P k then 5+c else col k)=4:=e
  split at e
  ·omega
  ·exact e,fun e=>by
  have e:col k=4:=e
  show (if P k then 5+c else col k)=4
  rw [hold k (h.lt k (by omega))]; exact e⟩
 have him:∀ k,Im w col k→Im w' (fun k=>if P k then 5+c else col k) k:=fun k hk=>⟨Nat.lt_of_lt_of_le hk.1 hb.size,(hold k hk.1).trans hk.2⟩
 have g:=h.below hb
 have lv:=h.lt x.bv (by rw [h.cv]; decide)
 have lt:=h.lt x.bt (by rw [h.ct]; decide)
 have hnv:∀ k,Im w' (fun k=>if P k then 5+c else col k) k→k≠x.bv∧k≠x.bt:=fun k hk =>
  ⟨fun e=>(by have h1:=hk.2; rw [e] at h1; exact absurd (((hold _ lv).trans h.cv).symm.trans h1) (by decide)),fun e=>(by have h1:=hk.2; rw [e] at h1; exact absurd (((hold _ lt).trans h.ct).symm.trans h1) (by decide))⟩
 refine ⟨g.row,?_,g.n,(h.bufs.below hb).more him,(h.wait.below hb).more him,g.asks,fun j hj=>?_,g.done,g.errs,(hold b h.bl).trans h.cb,(hold _ lv).trans h.cv,(hold _ lt).trans h.ct,fun k hk=>?_⟩
 ·rw [hF]
  exact ⟨g.drv.row,g.drv.map,((h.drv.below hb).dev).more him,g.drv.nv,g.drv.nt,hnv⟩
 ·exact ((h.ask j hj).mono (G:=Fa (fun k=>if P k then 5+c else col k) j) (fun k hf hl=>(hold k hl).trans hf)).keep (fun k _ hl=>hb.block k hl)
 ·have hk:(if P k then 5+c else col k)≠0:=hk
  split at hk
  ·rename_i e; exact (hP k e).2
  ·exact Nat.lt_of_lt_of_le (h.lt k hk) hb.size
theorem StAt.lefted (h:StAt T col w b bd N x s) {c:Nat} (hc:c<3) {a:Ak} {ba:Nat} (ha:s.askAt c=some a) (hv:x.av c=.pointer (some ⟨ba,0,none⟩)) (hb:Below w.heap.size w w1) {lv:Value} {l:List Int} (hown:w1.ownsRow w.heap.size 3 1 lv l.length (l.map (.int .i64))) :
  ∃ col',StAt T col' (w1.setCell ⟨ba,3,none⟩ lv) b bd N x { s with asks:=s.asks.set c (some { a with left:=l }) }∧Rec col col' w w∧Chg (Fl col) w (w1.setCell ⟨ba,3,none⟩ lv):=by
 classical
 obtain ⟨lv0,hrow,hfa,_⟩:=h.askc hc ha hv
 have hl:=(Array.getElem?_eq_some_iff.1 hrow).1
 have hP:∀ k,lv.ownBlock=some k→w.heap.size≤k∧k<w1.heap.size:=fun k hk=>hown.lt k hk
 have g:=h.paintA hb hc (fun k=>lv.ownBlock=some k) hP
 have hfa':Fa (fun k=>if lv.ownBlock=some k then 5+c else col k) c ba:=by
  show (if _ then _ else _)=_
  split
  ·rfl
  ·exact hfa
 have r1:=(hb.block _ hl).trans hrow
 refine ⟨_,g.askd hc (Chg.setCell Chg.refl (.inl hfa') _) ⟨ba,lv,hv,hfa',heap_setCell_same _ _ 3 _ _ lv r1,⟨own_lo (own_keepD hown fun k hk=>heap_setCell_other _ _ _ _ (by have:=(hP k hk).1; simp; omega)) (Nat.zero_le _),fun k hk=>(if_pos hk:(if lv.ownBlock=some k then 5+c else col k)=5+c)⟩⟩,⟨fun k hk=>if_neg (fun hp=>by have:=(hP k hp).1; omega),fun k hk=>?_⟩,Chg.setCell (Chg.of_below hb) (.inl (Fl.of_a hc ba hfa)) _⟩
 by_cases hp:lv.ownBlock=some k
 ·exact .inr (hP k hp).1
 ·left
  have h1:(if lv.ownBlock=some k then 5+c else col k)≠0∧(if lv.ownBlock=some k then 5+c else col k)≠9:=hk
  rw [if_neg hp] at h1; exact h1
def A5 (T:Tys) (col:Nat→Nat) (w:World) (b bd N:Nat) (t:St) (w':World):Prop:=∃ (col':Nat→Nat) (y:Sv),StAt T col' w' b bd N y t∧Chg (Fl col) w w'∧Rec col col' w w
theorem A5.to {t:St} {y:Sv} (hc:Chg (Fl col) w w1) (hr:Rec col col' w w) (hs:StAt T col' w' b bd N y t) (h1:Chg (Fl col') w1 w'):A5 T col w b bd N t w':=⟨col',y,hs,hc.recol h1 hr.grow,hr⟩
theorem A5.to2 {t:St} {y:Sv} {col2:Nat→Nat} (hc:Chg (Fl col) w w1) (hr:Rec col col' w w) (hr2:Rec col' col2 w1 w1) (hs:StAt T col2 w' b bd N y t) (h1:Chg (Fl col') w1 w'):A5 T col w b bd N t w' :=
 ⟨col2,y,hs,hc.recol h1 hr.grow,⟨fun k hk=>(hr2.old k (Nat.lt_of_lt_of_le hk hc.size)).trans (hr.old k hk),fun k hk=>(hr2.grow k hk).elim (hr.grow k) (fun h2=>.inr (Nat.le_trans hc.size h2))⟩⟩
end
theorem rget_st {col:Nat→Nat} {w:World} {b bd N:Nat} {x:Sv} {s:St} (h:StAt Tr col w b bd N x s) (hI:Inv s) (p:Int) {g:Bf × Bool} (hg:getB s.bufs p=g) (w':World) (hb:Below w.heap.size w w') :
  Calls Tryz.prog 81 #[x.bufs,.int .i64 p] w' (Ret (.tuple #[.agg #[.int .i64 g.1.pos,.string g.1.data,.bool g.1.dirty,.int .i64 g.1.used],.bool g.2]) w'):=hg▸rget_any _ _ _ p _ (h.bufs.below hb) hI.rises (by have:=hI.len8; omega)
theorem held_box (u:World) (T:TypeId) (hs:List Bool) (h:hs.length=32):((u.alloc (.cells (hldV (List.replicate 32 false)) T)).setCells u.heap.size 0 (hs.map .bool)).heap[u.heap.size]?=some (.cells (hldV hs) T (0,0))∧Below u.heap.size u ((u.alloc (.cells (hldV (List.replicate 32 false)) T)).setCells u.heap.size 0 (hs.map .bool)):=by
 have h2:=heap_setCells_row u.heap.size _ (hs.map .bool) 0 _ _ (heap_alloc_new u (.cells (hldV (List.replicate 32 false)) T))
 have hsm:setMany (hldV (List.replicate 32 false)) 0 (hs.map .bool)=(hs.map .bool).toArray:=by
  have:=setMany_mid (hs.map Value.bool) [] ((List.replicate 32 false).map Value.bool) [] (by simp [h])
  simpa [hldV] using this
 rw [hsm] at h2
 exact ⟨h2,(Chg.setCells (F:=fun q=>u.heap.size≤q) (Chg.of_below ((Below.refl _ _).alloc (Nat.le_refl _) _)) (.inl (Nat.le_refl _)) 0 (hs.map .bool)).below (fun q hq=>hq) (Nat.le_refl _)⟩
def pE (o:Option (List Bf)):Int:=if o.isSome then 0 else 7
def RetPutB (o:Option (List Bf)) (w:World):Ending→World→Prop:=fun e w'=>∃ v,e=.returned (.tuple #[v,.int .i64 (pE o)])∧(∀ m,o=some m→w'.ownsRow w.heap.size 111 4 v m.length (flatB m))∧Below w.heap.size w w'
theorem rput_st {col:Nat→Nat} {w:World} {b bd N:Nat} {x:Sv} {s:St} (h:StAt Tr col w b bd N x s) (hI:Inv s) (y:Bf) {o:Option (List Bf)} (ho:putB s.bufs y s.heldP=o) (u:World) (hb:Below w.heap.size w u) :
  Calls Tryz.prog 90 #[x.bufs,bfV y,.agg (hldV (hlOf s))] u (RetPutB o u):=by
 have hp:putB s.bufs y (heldL (hlOf s))=o:=(putB_congr hI.inb (fun p h0 h1=>hlOf_at s h0 h1)).trans ho
 cases o with
 |none =>
  refine (rput_none _ s.bufs x.bufs y (hlOf s) u (h.bufs.below hb) hI.rises hI.inb (hlOf_len s) hI.len8 hp).mono ?_
  rintro e w' ⟨rfl,hb'⟩
  exact ⟨_,rfl,(fun m hm=>nomatch hm),hb'⟩
 |some m =>
  refine (rput_some _ s.bufs m x.bufs y (hlOf s) u (h.bufs.below hb) hI.rises hI.inb (hlOf_len s) hI.len8 hp).mono ?_
  rintro e w' ⟨v,rfl,ho,hb'⟩
  exact ⟨v,rfl,fun m' hm=>(by cases hm; exact ho),hb'⟩
theorem Inv.used1 {s:St} (h:Inv s):Inv { s with use:=s.use+1 } :=
 { h with used:=fun b hb=>⟨(h.used b hb).1,by have:=(h.used b hb).2; show b.used≤s.use+1; omega⟩,use0:=by have:=h.use0; show 0≤s.use+1; omega }
def loopOf:Code→Option Code
 |.seq a b=>(loopOf a).or (loopOf b)
 |.block _ a=>loopOf a
 |.loop b=>some b
 |_=>none
theorem frame_srv (a:Act) {v0 v2:Value} (h:a.tmps.size=222) (hd:a.defers=[]) (h0:a.tmps[0]?=some v0) (h2:a.tmps[2]?=some v2):∃ f:Nat→Value,a=⟨#[v0,f 1,v2,f 3,f 4,f 5,f 6,f 7,f 8,f 9,f 10,f 11,f 12,f 13,f 14,f 15,f 16,f 17,f 18,f 19,f 20,f 21,f 22,f 23,f 24,f 25,f 26,f 27,f 28,f 29,f 30,f 31,f 32,f 33,f 34,f 35,f 36,f 37,f 38,f 39,f 40,f 41,f 42,f 43,f 44,f 45,f 46,f 47,f 48,f 49,f 50,f 51,f 52,f 53,f 54,f 55,f 56,f 57,f 58,f 59,f 60,f 61,f 62,f 63,f 64,f 65,f 66,f 67,f 68,f 69,f 70,f 71,f 72,f 73,f 74,f 75,f 76,f 77,f 78,f 79,f 80,f 81,f 82,f 83,f 84,f 85,f 86,f 87,f 88,f 89,f 90,f 91,f 92,f 93,f 94,f 95,f 96,f 97,f 98,f 99,f 100,f 101,f 102,f 103,f 104,f 105,f 106,f 107,f 108,f 109,f 110,f 111,f 112,f 113,f 114,f 115,f 116,f 117,f 118,f 119,f 120,f 121,f 122,f 123,f 124,f 125,f 126,f 127,f 128,f 129,f 130,f 131,f 132,f 133,f 134,f 135,f 136,f 137,f 138,f 139,f 140,f 141,f 142,f 143,f 144,f 145,f 146,f 147,f 148,f 149,f 150,f 151,f 152,f 153,f 154,f 155,f 156,f 157,f 158,f 159,f 160,f 161,f 162,f 163,f 164,f 165,f 166,f 167,f 168,f 169,f 170,f 171,f 172,f 173,f 174,f 175,f 176,f 177,f 178,f 179,f 180,f 181,f 182,f 183,f 184,f 185,f 186,f 187,f 188,f 189,f 190,f 191,f 192,f 193,f 194,f 195,f 196,f 197,f 198,f 199,f 200,f 201,f 202,f 203,f 204,f 205,f 206,f 207,f 208,f 209,f 210,f 211,f 212,f 213,f 214,f 215,f 216,f 217,f 218,f 219,f 220,f 221],[]⟩:=by
 obtain ⟨⟨l⟩,d⟩:=a
 subst hd
 obtain ⟨g,hg⟩:∃ g:Nat→Value,∀ i,g i=l.getD i undef:=⟨_,fun _=>rfl⟩
 have e:l=(List.range 222).map g:=by
  apply List.ext_getElem?
  intro i
  rw [List.getElem?_map]
  by_cases hi:i<222
  ·rw [List.getElem?_range hi,Option.map_some,hg,List.getD_eq_getElem?_getD,List.getElem?_eq_getElem (show i<l.length from by have h:l.length=222:=h; omega)]; rfl
  ·rw [List.getElem?_eq_none (by have h:l.length=222:=h; omega),List.getElem?_eq_none (by simp; omega)]; rfl
 have e0:g 0=v0:=by
  have h0:l[0]?=some v0:=by simpa using h0
  rw [hg,List.getD_eq_getElem?_getD,h0]; rfl
 have e2:g 2=v2:=by
  have h2:l[2]?=some v2:=by simpa using h2
  rw [hg,List.getD_eq_getElem?_getD,h2]; rfl
 refine ⟨g,?_⟩
 rw [← e0,← e2,e]
 rfl
structure Srv (C:Code) (Q:Exit→Act→World→Prop) (col:Nat→Nat) (w:World) (b bd N k:Nat) (a0:Act) (wr:World) (col1:Nat→Nat) (y:Sv) (t:St) (a:Ak) (ba:Nat):Prop where
 code:Tryz.f78.body.bind loopOf=some C
 k3:k<3
 size:a0.tmps.size=222
 defers:a0.defers=[]
 p0:a0.tmps[0]?=some (.pointer (some ⟨b,0,none⟩))
 p2:a0.tmps[2]?=some (.int .i64 (k:Int))
 st:StAt Tr col1 wr b bd N y t
 chg:Chg (Fl col) w wr
 recol:Rec col col1 w w
 inv:Inv t
 use:0≤t.use∧t.use≤900000000∧0≤t.tag∧t.tag≤900000000
 ask:t.askAt k=some a
 ptr:y.av k=.pointer (some ⟨ba,0,none⟩)
 fin:∀ a' w',a'.tmps.size=222→a'.defers=[]→a'.tmps[0]?=some (.pointer (some ⟨b,0,none⟩))→a'.tmps[2]?=some (.int .i64 ((k+1:Nat):Int))→A5 Tr col w b bd N (t.serve1 k) w'→Q .normal a' w'
theorem srv_dead (C:Code) (Q:Exit→Act→World→Prop) (col:Nat→Nat) (w:World) (b bd N k:Nat) (a0:Act) (wr:World) (col1:Nat→Nat) (y:Sv) (t:St) (a:Ak) (ba:Nat) (h:Srv C Q col w b bd N k a0 wr col1 y t a ba) (hk1:¬ a.kind=1) (hdd:t.dead=true):C.wp Tryz.prog Q a0 wr:=by
 obtain ⟨hC,h3,z1,z2,z3,z4,hst,hch,hrec,hIn,hu,ho,ep,hto⟩:=h
 obtain ⟨f,rfl⟩:=frame_srv a0 z1 z2 z3 z4
 have HT:=Lib.hid hto
 have HS:=Lib.hid hst
 have HC:=Lib.hid hch
 have HR:=Lib.hid hrec
 have HIn:=Lib.hid hIn
 have Hu:=Lib.hid hu
 have hz:=zero_buf
 obtain ⟨j0,hj0,hy0,hy1,hy2⟩:=info_parts intInfo
 have hk3:(k:Int)<3:=by omega
 have hk0:¬ (k:Int)<0:=by omega
 have cA:wr.cell? ⟨b,11+k,none⟩=some (.pointer (some ⟨ba,0,none⟩)):=(hst.cellA h3).trans (congrArg some ep)
 obtain ⟨lv,hrow,hfa,how⟩:=hst.askc h3 ho ep
 have Hne:=Lib.hid (hst.ask_ne hfa)
 have Ha:=Lib.hid (hIn.ask k a ho)
 have Ho:=Lib.hid ho
 have Ep:=Lib.hid ep
 have Hrow:=Lib.hid hrow
 have How:=Lib.hid how
 have k0:wr.cell? ⟨ba,0,none⟩=some (.int .i64 a.kind):=cell_of_row _ _ 0 _ _ _ hrow
 have p1:wr.cell? ⟨ba,1,none⟩=some (.int .i64 a.pos):=cell_of_row _ _ 1 _ _ _ hrow
 have c2:wr.cell? ⟨b,2,none⟩=some y.bufs:=hst.cell 2
 have hgg:∃ g,getB t.bufs a.pos=g:=⟨_,rfl⟩
 obtain ⟨g,hg⟩:=hgg
 have Hg:=Lib.hid hg
 have Hfb:Hid (Fl col1 b):=show _∧_ from ⟨by rw [hst.cb]; decide,by rw [hst.cb]; decide⟩
 have Hln:Hid (t.bufs.length≤65536):=show _≤_ by have:=hIn.len8; omega
 have Hlo:Hid (0≤a.pos∧a.pos<32):=show _∧_ by have:=Ha.out.lo; have:=Ha.out.hi; omega
 obtain ⟨hs,hhs⟩:∃ l,hlOf t=l:=⟨_,rfl⟩
 have hlen:hs.length=32:=hhs▸hlOf_len t
 have Hhs:=Lib.hid hhs
 have Hlen:=Lib.hid hlen
 have hC:=Option.some.inj (Eq.symm hC)
 subst hC
 clear z1 z2 z3 z4 hst hch hrec hIn hu hto hhs hlen ho ep hrow how hfa hg
 have hk1b:(a.kind == 1)=false:=by simp only [beq_eq_false_iff_ne]; exact hk1
 have c20:wr.cell? ⟨b,20,none⟩=some (.bool t.dead):=HS.out.cell 20
 rw [hdd] at c20
 have Hsr:Hid (t.serve1 k=t.answer k noB 9):=show _=_ by
  unfold St.serve1
  rw [Ho.out]
  simp only
  rw [if_neg hk1]
  rcases Ha.out.kind with h | h | h
  ·exact absurd h hk1
  ·rw [if_pos h]; unfold St.write; rw [hdd,if_pos rfl]
  ·rw [if_neg (by omega),if_pos h]; unfold St.sync; rw [hdd,if_pos rfl]
 clear hdd hk1
 go_wp2_with fail
 refine (ranswer_any col1 wr b bd N y t k noB 9 HS.out h3).mono ?_
 rintro e w4 ⟨rfl,hS7,hst7⟩
 have Hst7:=Lib.hid hst7
 have HK7:=Lib.hid (hS7.chg Hfb.out)
 clear hst7 hS7 c20 k0 cA p1 c2
 go_wp2_with fail
 refine HT.out _ _ rfl rfl rfl (by first | rfl | go_num) ?_
 rw [Hsr.out]
 exact A5.to HC.out HR.out Hst7.out HK7.out
end Go.Proofs.YtaeadmlgffaegaaGreatDoor
