/- A region that draws its order: as XRegInv, and what an operation brings about may speak of the values that it read. -/
import Derived.Test.YtagndjihiklmiaaGreatDoorQ4
set_option linter.unusedSimpArgs false
set_option linter.unusedVariables false
set_option maxRecDepth 100000
set_option maxHeartbeats 8000000
namespace Go.Proofs.YtagndjihiklmiaaGreatDoor
open Go
section
variable {P:Program}
def argsOf (f:Tmp→Value) (o:Oper):List Value:=(tmpsOf o).map f
theorem argsOf_same {f g:Tmp→Value} {o:Oper} (h:∀ d,d ∈ tmpsOf o→f d=g d):argsOf f o=argsOf g o:=by
 unfold argsOf;exact List.map_congr_left h
theorem argsOf_store {f:Tmp→Value} {o:Oper} {T:TypeId} {p q:Tmp} (h:o.op=Op.store T (.tmp p) (.tmp q)):argsOf f o=[f p,f q]:=by
 unfold argsOf tmpsOf;rw [h];rfl
def StepEv (P:Program) (G:Tmp→SlotFact) (J:World→Prop) (R:World→World→Prop) (Ev:Nat→List Value→World→Prop) (i:Nat) (o:Oper):Prop :=
 ∀ ρ w,Plain ρ→J w→Reads G ρ w (tmpsOf o)→OpGives P o ρ w (fun v w'=>GD G o.dst v w'∧J w'∧R w w'∧Ev i (argsOf (fun d=>ρ (.tmp d)) o) w')
def StepsEv (P:Program) (G:Tmp→SlotFact) (J:World→Prop) (R:World→World→Prop) (Ev:Nat→List Value→World→Prop):Nat→List Oper→Prop
 |_,[]=>True
 |i,o :: os=>StepEv P G J R Ev i o∧StepsEv P G J R Ev (i+1) os
theorem steps_at_ev {G:Tmp→SlotFact} {J:World→Prop} {R:World→World→Prop} {Ev:Nat→List Value→World→Prop}:∀ {ops:List Oper} {k:Nat},StepsEv P G J R Ev k ops→∀ {i:Nat} {o:Oper},ops[i]?=some o→StepEv P G J R Ev (k+i) o
 | [],_,_,i,o,h=>by simp at h
 |o' :: os,k,hs,0,o,h=>by simp at h; subst h; exact hs.1
 |o' :: os,k,hs,i+1,o,h=>by
  have:=steps_at_ev hs.2 (i:=i) (o:=o) (by simpa using h)
  rwa [show k+1+i=k+(i+1) by omega] at this
theorem wp_region_ev {id:Nat} {ops:List Oper} {Q:Exit→Act→World→Prop} {a:Act} {w:World} (hm:P.follows .mixedOrders=true) (Gs:List (Tmp × SlotFact)) (J:World→Prop) (R:World→World→Prop) (Ev:Nat→List Value→World→Prop)
  (hB:regB a.tmps.size ops=true) (hGs:Gs.map (·.1)=dstsOf ops) (hnd:(dstsOf ops).Nodup) (hJ:J w.drew) (hst:StableAll R Gs) (hev:∀ k vs w w',Ev k vs w→R w w'→Ev k vs w') (hsteps:StepsEv P (slotG Gs a) J R Ev 0 ops)
  (hfin:∀ f w',FinFacts f w' Gs→J w'→(∀ d,d ∉ dstsOf ops→f d=a.eval (.tmp d))→(∀ k o,ops[k]?=some o→Ev k (argsOf f o) w')→Q .normal (laid f ops a) w'):(Code.region id ops.toArray true).wp P Q a w:=by
 have hR:=regB_ok hB;have hget:∀ j:Nat,ops.toArray[j]?=ops[j]?:=fun j=>by simp
 have main:∀ (fuel:Nat) (listed:Array Bool) (b:Act) (w:World),listed.size=ops.length→((List.range ops.length).filter (fun j=>!listed.getD j true)).length≤fuel→J w→b.defers=a.defers→b.tmps.size=a.tmps.size →
   (∀ d,(∀ j o,ops[j]?=some o→o.dst=some d→listed.getD j false=true)→slotG Gs a d (b.eval (.tmp d)) w)→(∀ d,d ∉ dstsOf ops→b.tmps[d]?=a.tmps[d]?)→(∀ k o,ops[k]?=some o→listed.getD k false=true→∀ e ∈ o.after,Region.binds .any e=true→listed.getD e.on false=true)→(∀ k o,ops[k]?=some o→listed.getD k false=true→Ev k (argsOf (fun d=>b.eval (.tmp d)) o) w)→wpAny P .any ops.toArray Q fuel listed b w:=by
  have fin:∀ (listed:Array Bool) (b:Act) (w:World),(∀ j,j<ops.length→listed.getD j false=true)→J w→b.defers=a.defers→b.tmps.size=a.tmps.size →
    (∀ d,(∀ j o,ops[j]?=some o→o.dst=some d→listed.getD j false=true)→slotG Gs a d (b.eval (.tmp d)) w)→(∀ d,d ∉ dstsOf ops→b.tmps[d]?=a.tmps[d]?)→(∀ k o,ops[k]?=some o→listed.getD k false=true→Ev k (argsOf (fun d=>b.eval (.tmp d)) o) w)→Q .normal b w:=by
   intro listed b w hall hj hd1 hd2 hG hU hE
   have hf:=hfin (fun d=>b.eval (.tmp d)) w (slotG_fin (a:=a) (by rw [hGs]; exact hnd) (fun d _=>hG d (fun j o hjo _=>hall j (by
    rcases Nat.lt_or_ge j ops.length with h | h
    ·exact h
    ·rw [List.getElem?_eq_none h] at hjo; cases hjo)))) hj (fun d hd=>by simp [Act.eval,hU d hd]) (fun k o hko=>hE k o hko (hall k (by
    rcases Nat.lt_or_ge k ops.length with h | h
    ·exact h
    ·rw [List.getElem?_eq_none h] at hko; cases hko)))
   rw [laid_eq (a:=b) (fun d hl=>by simp [Act.eval,hl]) ops a hd1.symm hd2.symm (fun d hl=>by
    by_cases hm:d ∈ dstsOf ops
    ·exact .inr hm
    ·exact .inl (hU d hm).symm)] at hf
   exact hf
  intro fuel
  induction fuel with
  |zero =>
   intro listed b w hsz hcnt hj hd1 hd2 hG hU hC hE
   have hall:∀ j,j<ops.length→listed.getD j false=true:=by
    intro j hjl;have h0:(List.range ops.length).filter (fun j=>!listed.getD j true)=[]:=List.eq_nil_of_length_eq_zero (by omega);have:=List.filter_eq_nil_iff.1 h0 j (List.mem_range.2 hjl);simp only [Array.getD,hsz,hjl,dite_true] at this ⊢
    simpa using this
   refine ⟨?_,fin listed b w hall hj hd1 hd2 hG hU hE⟩;rw [List.eq_nil_iff_forall_not_mem];intro j hjr;obtain ⟨h1,o,ho,_⟩:=mem_ready.1 hjr;rw [hget] at ho
   have hjl:j<ops.length:=by
    rcases Nat.lt_or_ge j ops.length with h | h
    ·exact h
    ·rw [List.getElem?_eq_none h] at ho; cases ho
   have h2:=hall j hjl;simp only [Array.getD,hsz,hjl,dite_true] at h1 h2;rw [h1] at h2; cases h2
  |succ fuel ih =>
   intro listed b w hsz hcnt hj hd1 hd2 hG hU hC hE;refine ⟨fun hr=>?_,fun i hi=>?_⟩
   ·refine fin listed b w (fun j hjl=>?_) hj hd1 hd2 hG hU hE
    induction j using Nat.strongRecOn with
    |_ j ihj =>
     cases hl:listed.getD j false with
     |true=>rfl
     |false =>
      exfalso
      have hmem:j ∈ Region.ready .any ops.toArray listed:=by
       refine mem_ready.2 ⟨?_,ops[j],by rw [hget]; exact List.getElem?_eq_getElem hjl,fun e he hb=>?_⟩
       ·simp only [Array.getD,hsz,hjl,dite_true] at hl ⊢
        exact hl
       ·have ho:=hR.order j _ e (List.getElem?_eq_getElem hjl) he hb
        exact ihj e.on ho (by omega)
      rw [hr] at hmem; cases hmem
   ·obtain ⟨hun,o,ho,hdone⟩:=mem_ready.1 hi
    have ho':=ho;rw [hget] at ho'
    have hil:i<ops.length:=by
     rcases Nat.lt_or_ge i ops.length with h | h
     ·exact h
     ·rw [List.getElem?_eq_none h] at ho'; cases ho'
    unfold wpOp;simp only [ho];have hw:Region.wanted o (yielded ops.toArray b.tmps)=true:=by simp [Region.wanted,hR.guard i o ho']
    rw [if_pos hw];left
    have hstep:=steps_at_ev hsteps ho' b.eval w ⟨fun _=>rfl,fun _=>rfl,fun _=>rfl⟩ hj (reads_of fun d hd=>hG d fun j oj hoj hdj=>by
     obtain ⟨e,he,hb,rfl⟩:=hR.waits i o j oj d ho' hoj hdj hd
     exact hdone e he hb)
    rw [Nat.zero_add] at hstep;refine wp_of_gives hstep fun v w' ⟨hv,hj',hr',hev'⟩=>?_
    have hcnt':((List.range ops.length).filter (fun j=>!(listed.setIfInBounds i true).getD j true)).length≤fuel:=by
     have hlt:((List.range ops.length).filter (fun j=>!(listed.setIfInBounds i true).getD j true)).length<((List.range ops.length).filter (fun j=>!listed.getD j true)).length:=by
      have e:(List.range ops.length).filter (fun j=>!(listed.setIfInBounds i true).getD j true)=((List.range ops.length).filter (fun j=>!listed.getD j true)).filter (fun j=>j != i):=by
       rw [List.filter_filter];apply List.filter_congr;intro j hj;by_cases hji:j=i
       ·subst hji
        have:(listed.setIfInBounds j true).getD j true=true:=by simp [Array.getD,hsz,hil]
        rw [this]; simp
       ·rw [getD_set_ne true (Ne.symm hji)]
        simp [hji]
      rw [e];apply List.length_filter_lt_length_iff_exists.2;exact ⟨i,List.mem_filter.2 ⟨List.mem_range.2 hil,by simpa using hun⟩,by simp⟩
     omega
    refine ih (listed.setIfInBounds i true) _ w' (by simpa using hsz) hcnt' hj' ?_ ?_ (fun d hd=>?_) (fun d hd=>?_) (fun k ok hok hk e he hb=>?_) (fun k ok hok hk=>?_)
    ·unfold Act.put; split <;> exact hd1
    ·unfold Act.put; split <;> simpa using hd2
    ·by_cases hod:o.dst=some d
     ·rw [hod] at hv
      have hdn:=hR.dst i o d ho' hod
      have:(b.put o.dst v).eval (.tmp d)=v:=by
       rw [hod];simp [Act.put,Act.eval,hd2,hdn]
      rw [this];exact hv
     ·have:(b.put o.dst v).eval (.tmp d)=b.eval (.tmp d):=Act.eval_put (fun e he=>by
       intro hh;injection hh with hh
       exact hod (by rw [he,hh]))
      rw [this];refine slotG_stable hst (hG d fun j oj hoj hdj=>?_) hr';have h3:=hd j oj hoj hdj;by_cases hji:j=i
      ·subst hji
       rw [ho'] at hoj
       cases hoj
       exact absurd hdj hod
      ·rwa [getD_set_ne false (Ne.symm hji)] at h3
    ·have hne:o.dst≠some d:=fun h=>hd (List.mem_filterMap.2 ⟨o,List.mem_of_getElem? ho',h⟩)
     have hU':=hU d hd;unfold Act.put
     split
     ·rename_i e he
      simp only;rw [Array.getElem?_setIfInBounds_ne (fun h=>hne (by rw [he,h]))];exact hU'
     ·exact hU'
    ·by_cases hei:e.on=i
     ·rw [hei]
      simp [Array.getD,hsz,hil]
     ·rw [getD_set_ne false (Ne.symm hei)]
      by_cases hki:k=i
      ·subst hki
       rw [ho'] at hok
       cases hok
       exact hdone e he hb
      ·rw [getD_set_ne false (Ne.symm hki)] at hk
       exact hC k ok hok hk e he hb
    ·by_cases hki:k=i
     ·subst hki
      rw [ho'] at hok
      cases hok
      rw [argsOf_same (f:=fun d=>(b.put o.dst v).eval (.tmp d)) (g:=fun d=>b.eval (.tmp d)) (fun d hd=>?_)]
      ·exact hev'
      ·refine Act.eval_put (fun e he hh=>?_)
       injection hh with hh
       subst hh;obtain ⟨e',h1,h2,h3⟩:=hR.waits k o k o d ho' ho' he hd;have:=hR.order k o e' ho' h1 h2;omega
     ·rw [getD_set_ne false (Ne.symm hki)] at hk
      rw [argsOf_same (f:=fun d=>(b.put o.dst v).eval (.tmp d)) (g:=fun d=>b.eval (.tmp d)) (fun d hd=>?_)]
      ·exact hev k _ _ _ (hE k ok hok hk) hr'
      ·refine Act.eval_put (fun e he hh=>?_)
       injection hh with hh
       subst hh;obtain ⟨e',h1,h2,h3⟩:=hR.waits k ok i o d hok ho' he hd;have h4:=hC k ok hok hk e' h1 h2;rw [h3] at h4;simp only [Array.getD,hsz,hil,dite_true] at hun h4;rw [hun] at h4
       cases h4
 refine wp_region_any hm ?_;refine main _ _ _ _ (by simp) ?_ hJ rfl rfl (fun d hd=>?_) (fun _ _=>rfl) (fun k ok _ hk=>?_) (fun k ok _ hk=>?_)
 ·have:=List.length_filter_le (fun j=>!(Array.replicate ops.toArray.size false).getD j true) (List.range ops.length)
  simpa using this
 ·have:d ∉ Gs.map (·.1):=by
   rw [hGs];intro hm;obtain ⟨o,ho,hdo⟩:=List.mem_filterMap.1 hm;obtain ⟨j,hj⟩:=List.mem_iff_getElem?.1 ho;have:=hd j o hj hdo;simp at this;rw [Array.getElem?_replicate] at this
   split at this <;> simp at this
  rw [slotG_none this]
 ·exfalso
  simp at hk;rw [Array.getElem?_replicate] at hk
  split at hk <;> simp at hk
 ·exfalso
  simp at hk;rw [Array.getElem?_replicate] at hk
  split at hk <;> simp at hk
theorem steps_ev {G:Tmp→SlotFact} {J:World→Prop} {R:World→World→Prop} {Ev:Nat→World→Prop}:∀ {ops:List Oper} {k:Nat},StepsOk P G J R Ev k ops→StepsEv P G J R (fun k _=>Ev k) k ops
 | [],_,_=>trivial
 |_ :: _,_,h=>⟨fun ρ w hp hj hr=>h.1 ρ w hp hj hr,steps_ev h.2⟩
theorem wp_region_inv {id:Nat} {ops:List Oper} {Q:Exit→Act→World→Prop} {a:Act} {w:World} (hm:P.follows .mixedOrders=true) (Gs:List (Tmp × SlotFact)) (J:World→Prop) (R:World→World→Prop) (Ev:Nat→World→Prop)
  (hB:regB a.tmps.size ops=true) (hGs:Gs.map (·.1)=dstsOf ops) (hnd:(dstsOf ops).Nodup) (hJ:J w.drew) (hst:StableAll R Gs) (hev:∀ k w w',Ev k w→R w w'→Ev k w') (hsteps:StepsOk P (slotG Gs a) J R Ev 0 ops)
  (hfin:∀ f w',FinFacts f w' Gs→J w'→(∀ k,k<ops.length→Ev k w')→Q .normal (laid f ops a) w'):(Code.region id ops.toArray true).wp P Q a w :=
 wp_region_ev hm Gs J R (fun k _=>Ev k) hB hGs hnd hJ hst (fun k _ w w'=>hev k w w') (steps_ev hsteps) (fun f w' hF hJ _ hE=>hfin f w' hF hJ (fun k hk=>hE k _ (List.getElem?_eq_getElem hk)))
theorem wp_region_inv2 {id:Nat} {ops:List Oper} {Q:Exit→Act→World→Prop} {a:Act} {w:World} (hm:P.follows .mixedOrders=true) (Gs:List (Tmp × SlotFact)) (J:World→Prop) (R:World→World→Prop) (Ev:Nat→World→Prop)
  (hB:regB a.tmps.size ops=true) (hGs:Gs.map (·.1)=dstsOf ops) (hnd:(dstsOf ops).Nodup) (hJ:J w.drew) (hst:StableAll R Gs) (hev:∀ k w w',Ev k w→R w w'→Ev k w') (hsteps:StepsOk P (slotG Gs a) J R Ev 0 ops)
  (hfin:∀ b w',b.defers=a.defers→b.tmps.size=a.tmps.size→(∀ d,d ∉ dstsOf ops→b.tmps[d]?=a.tmps[d]?)→FinFacts (fun d=>b.eval (.tmp d)) w' Gs→J w'→(∀ k,k<ops.length→Ev k w')→Q .normal b w'):(Code.region id ops.toArray true).wp P Q a w:=by
 have hR:=regB_ok hB;refine wp_region_inv hm Gs J R Ev hB hGs hnd hJ hst hev hsteps fun f w' hF hJ' hE=>hfin _ w' (laid_defers _ _) (laid_size _ _) (fun d hd=>laid_out _ _ hd) (fin_same (fun d hd=>?_) hF) hJ' hE;rw [hGs] at hd;have hd':=hd;obtain ⟨o,ho,hdo⟩:=List.mem_filterMap.1 hd';obtain ⟨j,hj⟩:=List.mem_iff_getElem?.1 ho;have hl:=hR.dst j o d hj hdo;have h1:=laid_in (f:=f) ops a hd hl;show (laid f ops a).eval (.tmp d)=f d;unfold Act.eval;rw [Array.getElem?_eq_some_iff] at h1;obtain ⟨h2,h3⟩:=h1;simp [h2,h3]
end
end Go.Proofs.YtagndjihiklmiaaGreatDoor
