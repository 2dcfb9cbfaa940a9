/- The reference's StepFault: which steps may be. -/
import Derived.Test.YtagndjihiklmiaaGreatDoorQ45
set_option linter.unusedSimpArgs false
set_option linter.unusedVariables false
set_option maxRecDepth 100000
set_option maxHeartbeats 8000000
namespace Go.Proofs.YtagndjihiklmiaaGreatDoor
open Go.RowKit
theorem checkM_some {z:Stp} {k:Nat} (hk:formK z.word=some k) (h1:partsB k z=false) (h2:boundB z=false):checkM z=if blankB z.data || z.data.toList == [45] then 3 else 0:=by
 unfold checkM;rw [hk];simp only [h1,h2];simp
theorem con2 (x:UInt8):([32,10]:List UInt8).contains x=(x == 32 || x == 10):=by
 rw [List.contains_cons,List.contains_cons,List.contains_nil,Bool.or_false]
theorem blank_hit {s:ByteArray} {i:Nat} {x:UInt8} (h:Lib.NoAny s.data.toList [32,10] i) (hx:s.data.toList[i]?=some x) (hc:([32,10]:List UInt8).contains x=true):blankB s=true:=by
 unfold blankB Lib.containsAny;rw [Lib.indexAny_hit h hx hc];simp
theorem blank_none {s:ByteArray} (h:Lib.NoAny s.data.toList [32,10] s.size):blankB s=false:=by
 unfold blankB Lib.containsAny;rw [Lib.indexAny_none (by rw [← Lib.size_eq]; exact h)];rfl
theorem formS_c:formS 0=[]∧formS 1=[97]∧formS 2=[97,98]∧formS 3=[97,98,100]:=⟨rfl,rfl,rfl,rfl⟩
theorem eqc (x c:UInt8):((x.toNat:Int) == (c.toNat:Int))=(x == c):=by
 rw [Bool.eq_iff_iff,beq_iff_eq,beq_iff_eq,← UInt8.toNat_inj];omega
theorem rfault_any (z:Stp) (w:World) (hs:z.word.size≤maxLen) (hds:z.data.size≤maxLen):Calls Tryz.prog 19 #[stpV z] w (Ret (.int .i64 (checkM z)) w):=by
 unfold maxLen at hds;go_enter Tryz.func19,Tryz.ntmps19;go_wp2_with fail;have B:=StpBox.new 32 z w;generalize World.alloc _ _=W at B ⊢;generalize w.heap.size=bb at B ⊢;obtain ⟨c0,c1,c2,c3⟩:=B.c;have HB:=Lib.hid B;clear B;refine (rform_any z.word W).mono ?_;rintro e w1 ⟨rfl,rfl⟩
 cases hk:formK z.word with
 |none =>
  have HM:Hid (checkM z=3):=show _=_ by unfold checkM; rw [hk]
  rw [formT_none hk];clear hk;go_wp2;go_ret;exact ⟨by rw [HM.out]; rfl,HB.out.bel⟩
 |some k =>
  have h3:=formK_le hk;rw [formT_some hk];have Hk:=Lib.hid hk;clear hk;go_upto_region 2 with fail
  go_cut [42] from 7 to 89 (fun v wx=>v=.bool (partsB k z)∧wx=W)
  case first =>
   rcases (by omega:k=0∨k=1∨k=2∨k=3) with rfl | rfl | rfl | rfl <;> simp only [formS_c] <;> rcases Bool.eq_false_or_eq_true (z.a != 0) with ha | ha <;> rcases Bool.eq_false_or_eq_true (z.b != 0) with hb | hb <;> rcases Bool.eq_false_or_eq_true z.data.toList.isEmpty with hd | hd
   all_goals
    go_wp2_with fail;go_meet
    case rel=>exact ⟨by simp [partsB,ha,hb,hd],rfl⟩
  case rest =>
   obtain ⟨rfl,e⟩:=hcut;rw [e];clear e
   cases hp:partsB k z with
   |true =>
    have HM:Hid (checkM z=3):=show _=_ by unfold checkM; rw [Hk.out]; simp only [hp]; rfl
    clear hp;go_wp2;go_ret;exact ⟨by rw [HM.out]; rfl,HB.out.bel⟩
   |false =>
    have Hp:=Lib.hid hp;clear hp;go_upto_region 4 with fail
    go_cut [66] from 43 to 89 (fun v wx=>v=.bool (boundB z)∧wx=W)
    case first =>
     rcases Bool.eq_false_or_eq_true (decide (z.a<0)) with e1 | e1 <;> rcases Bool.eq_false_or_eq_true (decide (999<z.a)) with e2 | e2 <;> rcases Bool.eq_false_or_eq_true (decide (z.b<0)) with e3 | e3 <;> rcases Bool.eq_false_or_eq_true (decide (999<z.b)) with e4 | e4 <;> rcases Bool.eq_false_or_eq_true (decide (9<(z.data.size:Int))) with e5 | e5
     all_goals
      go_wp2_with fail;go_meet
      case rel=>exact ⟨by unfold boundB; rw [e1,e2,e3,e4,e5]; rfl,rfl⟩
    case rest =>
     obtain ⟨rfl,e⟩:=hcut;rw [e];clear e
     cases hb:boundB z with
     |true =>
      have HM:Hid (checkM z=1):=show _=_ by unfold checkM; rw [Hk.out]; simp only [Hp.out,hb]; rfl
      clear hb;go_wp2;go_ret;exact ⟨by rw [HM.out]; rfl,HB.out.bel⟩
     |false =>
      have HC:=Lib.hid (checkM_some Hk.out Hp.out hb);clear hb c0 c1 c2 c3;go_wp2;go_loopw [5] (fun i wr=>∃ p:Nat,p≤z.data.size∧i=.int .i64 p∧wr=W∧Hid (Lib.NoAny z.data.data.toList [32,10] p)) (fun i _=>z.data.size - (intOf i).toNat)
      case atStart=>exact ⟨0,by omega,rfl,rfl,Lib.NoAny.zero _ _⟩
      case round =>
       obtain ⟨p,hp,rfl,rfl,hno⟩:=hrel;obtain ⟨c0,c1,c2,c3⟩:=HB.out.c;by_cases hlt:p<z.data.size
       ·obtain ⟨x,hx⟩:∃ x:UInt8,z.data[p]'hlt=x:=⟨_,rfl⟩
        have Hx:=Lib.hid (show z.data.data.toList[p]?=some x by rw [← hx]; exact Lib.data_getElem? z.data p hlt);have hp1:(p:Int)<(z.data.size:Int):=by omega
        have h32:((x.toNat:Int) == 32)=(x == 32):=eqc x 32;have h10:((x.toNat:Int) == 10)=(x == 10):=eqc x 10;have Hc:Hid (([32,10]:List UInt8).contains x=(x == 32 || x == 10)):=con2 x;rcases Bool.eq_false_or_eq_true (x == 32) with e | e <;> rcases Bool.eq_false_or_eq_true (x == 10) with e2 | e2
        rotate_right
        ·rw [e] at h32
         rw [e2] at h10;have hn2:=Lib.hid (hno.out.succ Hx.out (by rw [Hc.out,e,e2]; rfl));go_wp2;go_round
         case measure=>simp [intOf]; omega
         case rel=>exact ⟨p+1,by omega,by first | rfl | simp,by trivial,hn2⟩
        all_goals
         rw [e] at h32;rw [e2] at h10;have HM:Hid (checkM z=3):=show _=_ by rw [HC.out,blank_hit hno.out Hx.out (by rw [Hc.out,e,e2]; rfl)]; rfl
         go_wp2;go_ret;exact ⟨by rw [HM.out]; rfl,HB.out.bel⟩
       ·obtain rfl:p=z.data.size:=by omega
        have hp1:¬ ((z.data.size:Int)<(z.data.size:Int)):=by omega
        have Hb:=Lib.hid (blank_none hno.out)
        cases hq:z.data.toList == [45]
        all_goals
         have HM:Hid (checkM z=_):=show _=_ by rw [HC.out,Hb.out,hq]
         go_wp2;go_ret;exact ⟨by rw [HM.out]; rfl,HB.out.bel⟩
end Go.Proofs.YtagndjihiklmiaaGreatDoor
namespace Go.Proofs.YtagndjihiklmiaaGreatDoor
open Go.RowKit
def natF:Int→List UInt8→Option Int
 |n,[]=>some n
 |n,c :: l=>if c.toNat<48 || 57<c.toNat then none else natF (10 * n+((c.toNat:Int) - 48)) l
def natM (s:ByteArray) (most:Int):Int :=
 if s.size<1 || 9<s.size || (s.data.toList.head? == some 48 && 1<s.size) then -1
 else match natF 0 s.data.toList with
  |none => -1
  |some n=>if most<n then -1 else n
theorem natural_any (s:ByteArray) (most:Int) (w:World) (hs:s.size≤maxLen):Calls Tryz.prog 18 #[.string s,.int .i64 most] w (RetSame (.int .i64 (natM s most)) w):=by
 unfold maxLen at hs;by_cases h1:s.size<1
 ·have d1:decide ((s.size:Int)<1)=true:=decide_eq_true (by omega)
  have e:natM s most = -1:=by unfold natM; simp [h1]
  rw [e];clear e;go_enter Tryz.func18,Tryz.ntmps18;go_wp2;go_ret;exact ⟨rfl,rfl⟩
 have d1:decide ((s.size:Int)<1)=false:=decide_eq_false (by omega);by_cases h2:9<s.size
 ·have d2:decide ((9:Int)<(s.size:Int))=true:=decide_eq_true (by omega)
  have e:natM s most = -1:=by unfold natM; simp [h2]
  rw [e];clear e;go_enter Tryz.func18,Tryz.ntmps18;go_wp2;go_ret;exact ⟨rfl,rfl⟩
 have d2:decide ((9:Int)<(s.size:Int))=false:=decide_eq_false (by omega);have h0:0<s.size:=by omega
 obtain ⟨x,hx⟩:∃ x:UInt8,s[0]'h0=x:=⟨_,rfl⟩
 have Hx:=Lib.hid (show s.data.toList[0]?=some x by rw [← hx]; exact Lib.data_getElem? s 0 h0);have hp0:(0:Int)<(s.size:Int):=by omega
 have hhd:Hid (s.data.toList.head?=some x):=show _=_ by rw [List.head?_eq_getElem?]; exact Hx.out
 have h48:((x.toNat:Int) == 48)=(x == 48):=by
  rw [Bool.eq_iff_iff,beq_iff_eq,beq_iff_eq,← UInt8.toNat_inj];show _↔x.toNat=48;omega
 have key:∀ (hz:(x == 48 && decide (1<s.size))=false),Calls Tryz.prog 18 #[.string s,.int .i64 most] w (RetSame (.int .i64 (natM s most)) w):=by
  intro hz
  have hM:Hid (natM s most=match natF 0 s.data.toList with
    |none => -1
    |some n=>if most<n then -1 else n):=show _=_ by
   unfold natM;rw [if_neg];intro hh;simp only [Bool.or_eq_true,decide_eq_true_eq,Bool.and_eq_true,beq_iff_eq] at hh
   rcases hh with (hh | hh) | ⟨hh,hh2⟩
   ·exact h1 hh
   ·exact h2 hh
   ·rw [hhd.out] at hh
    have e1:x=48:=Option.some.inj hh;rw [e1,decide_eq_true hh2] at hz
    cases hz
  have hg:(x == 48)=false∨((x == 48)=true∧decide ((1:Int)<(s.size:Int))=false):=by
   cases hxx:(x == 48) with
   |false=>exact .inl rfl
   |true =>
    rw [hxx,Bool.true_and,decide_eq_false_iff_not] at hz;exact .inr ⟨rfl,decide_eq_false (by omega)⟩
  clear hz hhd;have HH:=Lib.hid hg;clear hg
  rcases HH.out with hq | ⟨hq,hq1⟩
  ·rw [hq] at h48
   clear hq HH;go_enter Tryz.func18,Tryz.ntmps18;go_wp2;go_loopw [5,6] (fun n i wr=>∃ (p:Nat) (v:Int),p≤s.size∧i=.int .i64 p∧n=.int .i64 v∧wr=w∧0≤v∧v<10 ^ p∧Hid (natF 0 s.data.toList=natF v (s.data.toList.drop p))) (fun _ i _=>s.size - (intOf i).toNat)
   case atStart=>exact ⟨0,0,by omega,rfl,rfl,rfl,by omega,by decide,rfl⟩
   case round =>
    obtain ⟨p,v,hp,rfl,rfl,rfl,hv0,hv1,HN⟩:=hrel;by_cases hlt:p<s.size
    ·obtain ⟨y,hy⟩:∃ y:UInt8,s[p]'hlt=y:=⟨_,rfl⟩
     have Hy:=Lib.hid (show s.data.toList.drop p=y :: s.data.toList.drop (p+1) by
      have h:=Lib.data_getElem? s p hlt;rw [hy] at h;obtain ⟨hl,he⟩:=List.getElem?_eq_some_iff.1 h
      rw [List.drop_eq_getElem_cons hl,he])
     have hp1:(p:Int)<(s.size:Int):=by omega
     have hy8:=UInt8.toNat_lt y
     have hpow:(10:Int) ^ p≤10 ^ 8:=by
      have:(10:Nat) ^ p≤10 ^ 8:=Nat.pow_le_pow_right (by omega) (by omega)
      exact_mod_cast this
     by_cases hb:y.toNat<48∨57<y.toNat
     ·have HM:=Lib.hid (show natM s most = -1 by
       rw [hM.out,HN.out,Hy.out];unfold natF
       rw [if_pos (by simpa using hb)])
      by_cases hb1:y.toNat<48
      ·have e1:decide ((y.toNat:Int)<48)=true:=decide_eq_true (by omega)
       go_wp2;go_ret;exact ⟨congrArg Ending.returned (congrArg (Value.int .i64) HM.out.symm),rfl⟩
      ·have e1:decide ((y.toNat:Int)<48)=false:=decide_eq_false (by omega)
       have e2:decide ((57:Int)<(y.toNat:Int))=true:=decide_eq_true (by omega);go_wp2;go_ret;exact ⟨congrArg Ending.returned (congrArg (Value.int .i64) HM.out.symm),rfl⟩
     ·have e1:decide ((y.toNat:Int)<48)=false:=decide_eq_false (by omega)
      have e2:decide ((57:Int)<(y.toNat:Int))=false:=decide_eq_false (by omega);have w1:IntKind.i64.wrap (10 * v)=10 * v:=IntWalk.i64_in _ (by omega);have w2:IntKind.u8.wrap ((y.toNat:Int) - 48)=(y.toNat:Int) - 48:=by simp only [IntKind.wrap,IntKind.bits,IntKind.signed]; simp; omega
      have w3:IntKind.i64.wrap ((y.toNat:Int) - 48)=(y.toNat:Int) - 48:=IntWalk.i64_in _ (by omega);have w4:IntKind.i64.wrap (10 * v+((y.toNat:Int) - 48))=10 * v+((y.toNat:Int) - 48):=IntWalk.i64_in _ (by omega)
      have HN2:=Lib.hid (show natF 0 s.data.toList=natF (10 * v+((y.toNat:Int) - 48)) (s.data.toList.drop (p+1)) by
       rw [HN.out,Hy.out]
       conv=>lhs; unfold natF
       rw [if_neg (by simpa using hb)])
      have hv2:10 * v+((y.toNat:Int) - 48)<10 ^ (p+1):=by
       rw [Int.pow_succ]; omega
      go_wp2;go_round
      case measure=>simp [intOf]; omega
      case rel=>exact ⟨p+1,_,by omega,by first | rfl | simp,rfl,by trivial,by omega,hv2,HN2⟩
    ·obtain rfl:p=s.size:=by omega
     have hp1:¬ ((s.size:Int)<(s.size:Int)):=by omega
     have HN2:=Lib.hid (show natF 0 s.data.toList=some v by
      rw [HN.out,List.drop_of_length_le (by rw [← Lib.size_eq]; exact Nat.le_refl _)]; rfl)
     by_cases hmo:most<v
     ·have d4:decide (most<v)=true:=decide_eq_true hmo
      have HM:=Lib.hid (show natM s most = -1 by rw [hM.out,HN2.out]; simp only; rw [if_pos hmo]);go_wp2;go_ret;exact ⟨congrArg Ending.returned (congrArg (Value.int .i64) HM.out.symm),rfl⟩
     ·have d4:decide (most<v)=false:=decide_eq_false hmo
      have HM:=Lib.hid (show natM s most=v by rw [hM.out,HN2.out]; simp only; rw [if_neg hmo]);go_wp2;go_ret;exact ⟨congrArg Ending.returned (congrArg (Value.int .i64) HM.out.symm),rfl⟩
  ·rw [hq] at h48
   clear hq HH;go_enter Tryz.func18,Tryz.ntmps18;go_wp2;go_loopw [5,6] (fun n i wr=>∃ (p:Nat) (v:Int),p≤s.size∧i=.int .i64 p∧n=.int .i64 v∧wr=w∧0≤v∧v<10 ^ p∧Hid (natF 0 s.data.toList=natF v (s.data.toList.drop p))) (fun _ i _=>s.size - (intOf i).toNat)
   case atStart=>exact ⟨0,0,by omega,rfl,rfl,rfl,by omega,by decide,rfl⟩
   case round =>
    obtain ⟨p,v,hp,rfl,rfl,rfl,hv0,hv1,HN⟩:=hrel;by_cases hlt:p<s.size
    ·obtain ⟨y,hy⟩:∃ y:UInt8,s[p]'hlt=y:=⟨_,rfl⟩
     have Hy:=Lib.hid (show s.data.toList.drop p=y :: s.data.toList.drop (p+1) by
      have h:=Lib.data_getElem? s p hlt;rw [hy] at h;obtain ⟨hl,he⟩:=List.getElem?_eq_some_iff.1 h
      rw [List.drop_eq_getElem_cons hl,he])
     have hp1:(p:Int)<(s.size:Int):=by omega
     have hy8:=UInt8.toNat_lt y
     have hpow:(10:Int) ^ p≤10 ^ 8:=by
      have:(10:Nat) ^ p≤10 ^ 8:=Nat.pow_le_pow_right (by omega) (by omega)
      exact_mod_cast this
     by_cases hb:y.toNat<48∨57<y.toNat
     ·have HM:=Lib.hid (show natM s most = -1 by
       rw [hM.out,HN.out,Hy.out];unfold natF
       rw [if_pos (by simpa using hb)])
      by_cases hb1:y.toNat<48
      ·have e1:decide ((y.toNat:Int)<48)=true:=decide_eq_true (by omega)
       go_wp2;go_ret;exact ⟨congrArg Ending.returned (congrArg (Value.int .i64) HM.out.symm),rfl⟩
      ·have e1:decide ((y.toNat:Int)<48)=false:=decide_eq_false (by omega)
       have e2:decide ((57:Int)<(y.toNat:Int))=true:=decide_eq_true (by omega);go_wp2;go_ret;exact ⟨congrArg Ending.returned (congrArg (Value.int .i64) HM.out.symm),rfl⟩
     ·have e1:decide ((y.toNat:Int)<48)=false:=decide_eq_false (by omega)
      have e2:decide ((57:Int)<(y.toNat:Int))=false:=decide_eq_false (by omega);have w1:IntKind.i64.wrap (10 * v)=10 * v:=IntWalk.i64_in _ (by omega);have w2:IntKind.u8.wrap ((y.toNat:Int) - 48)=(y.toNat:Int) - 48:=by simp only [IntKind.wrap,IntKind.bits,IntKind.signed]; simp; omega
      have w3:IntKind.i64.wrap ((y.toNat:Int) - 48)=(y.toNat:Int) - 48:=IntWalk.i64_in _ (by omega);have w4:IntKind.i64.wrap (10 * v+((y.toNat:Int) - 48))=10 * v+((y.toNat:Int) - 48):=IntWalk.i64_in _ (by omega)
      have HN2:=Lib.hid (show natF 0 s.data.toList=natF (10 * v+((y.toNat:Int) - 48)) (s.data.toList.drop (p+1)) by
       rw [HN.out,Hy.out]
       conv=>lhs; unfold natF
       rw [if_neg (by simpa using hb)])
      have hv2:10 * v+((y.toNat:Int) - 48)<10 ^ (p+1):=by
       rw [Int.pow_succ]; omega
      go_wp2;go_round
      case measure=>simp [intOf]; omega
      case rel=>exact ⟨p+1,_,by omega,by first | rfl | simp,rfl,by trivial,by omega,hv2,HN2⟩
    ·obtain rfl:p=s.size:=by omega
     have hp1:¬ ((s.size:Int)<(s.size:Int)):=by omega
     have HN2:=Lib.hid (show natF 0 s.data.toList=some v by
      rw [HN.out,List.drop_of_length_le (by rw [← Lib.size_eq]; exact Nat.le_refl _)]; rfl)
     by_cases hmo:most<v
     ·have d4:decide (most<v)=true:=decide_eq_true hmo
      have HM:=Lib.hid (show natM s most = -1 by rw [hM.out,HN2.out]; simp only; rw [if_pos hmo]);go_wp2;go_ret;exact ⟨congrArg Ending.returned (congrArg (Value.int .i64) HM.out.symm),rfl⟩
     ·have d4:decide (most<v)=false:=decide_eq_false hmo
      have HM:=Lib.hid (show natM s most=v by rw [hM.out,HN2.out]; simp only; rw [if_neg hmo]);go_wp2;go_ret;exact ⟨congrArg Ending.returned (congrArg (Value.int .i64) HM.out.symm),rfl⟩
 cases hz:(x == 48 && decide (1<s.size)) with
 |false=>exact key hz
 |true =>
  rw [Bool.and_eq_true,decide_eq_true_eq] at hz;rw [hz.1] at h48;have d3:decide ((1:Int)<(s.size:Int))=true:=decide_eq_true (by omega)
  have e:natM s most = -1:=by
   unfold natM;rw [if_pos];simp only [Bool.or_eq_true,decide_eq_true_eq,Bool.and_eq_true,beq_iff_eq];exact .inr ⟨by rw [hhd.out,eq_of_beq hz.1],hz.2⟩
  rw [e];clear e hz key hhd;go_enter Tryz.func18,Tryz.ntmps18;go_wp2;go_ret;exact ⟨rfl,rfl⟩
theorem rstrInfo:(Tryz.prog.info? 9).map (fun i=>(i.zero,i.size,i.bytes))=some (some (.string ByteArray.empty),1,16):=by kernel_rfl
def cutAt (s:ByteArray) (f i:Nat):List UInt8:=(s.data.toList.drop f).take (i - f)
theorem cutAt_succ {s:ByteArray} {f i:Nat} {x:UInt8} (hf:f≤i) (hx:s.data.toList[i]?=some x):cutAt s f (i+1)=cutAt s f i ++ [x]:=by
 unfold cutAt;rw [show i+1 - f=(i - f)+1 by omega,List.take_add_one,List.getElem?_drop,show f+(i - f)=i by omega,hx];rfl
theorem cutAt_extract (s:ByteArray) (f i:Nat):(s.extract f i).data.toList=cutAt s f i:=by
 rw [Lib.extract_data];unfold cutAt
 first | rfl | rw [List.drop_take]
theorem toB_cut (s:ByteArray) (f i:Nat):toB (cutAt s f i)=s.extract f i:=by
 apply Go.WideShapes.bytes_inj;rw [cutAt_extract];rfl
theorem cut_hit {s:ByteArray} {f p:Nat} {x:UInt8} {ps:List ByteArray} (hf:f≤p) (hx:s.data.toList[p]?=some x) (e:(x == 32)=true) (hn:NoBl (cutAt s f p)) (h:splitM s=ps ++ (splitL (s.data.toList.drop f)).map toB) :
  splitM s=(ps ++ [s.extract f p]) ++ (splitL (s.data.toList.drop (p+1))).map toB:=by
 have h1:s.data.toList.drop f=cutAt s f p ++ 32 :: s.data.toList.drop (p+1):=by
  obtain ⟨hl,he⟩:=List.getElem?_eq_some_iff.1 hx;have h2:s.data.toList.drop p=x :: s.data.toList.drop (p+1):=by rw [List.drop_eq_getElem_cons hl,he]
  rw [eq_of_beq e] at h2;rw [← h2];unfold cutAt;have:=List.take_append_drop (p - f) (s.data.toList.drop f);rw [List.drop_drop,show f+(p - f)=p by omega] at this;exact this.symm
 rw [h,h1,splitL_hit _ hn,List.map_cons,toB_cut,List.append_assoc];rfl
theorem cut_end {s:ByteArray} {f:Nat} {ps:List ByteArray} (hn:NoBl (cutAt s f s.size)) (h:splitM s=ps ++ (splitL (s.data.toList.drop f)).map toB) :
  splitM s=ps ++ [s.extract f s.size]:=by
 have h1:s.data.toList.drop f=cutAt s f s.size:=by
  unfold cutAt;rw [List.take_of_length_le];rw [List.length_drop,← Lib.size_eq];exact Nat.le_refl _
 rw [h,h1,splitL_nb hn,List.map_cons,toB_cut];rfl
theorem rsplit_any (s:ByteArray) (w:World) (hs:s.size≤1000):Calls Tryz.prog 16 #[.string s] w fun e w'=>∃ v,e=.returned v∧Below w.heap.size w w'∧w'.ownsRow w.heap.size 9 1 v (splitM s).length ((splitM s).map .string):=by
 obtain ⟨i0,hi0,hz0,hz1,hz2⟩:=info_parts rstrInfo;go_enter Tryz.func16,Tryz.ntmps16;go_wp2;go_loopw [3,4,5] (fun l fr i wr=>∃ (f p:Nat) (ps:List ByteArray),f≤p∧p≤s.size∧fr=.int .i64 f∧i=.int .i64 p∧Below w.heap.size w wr∧Hid (wr.ownsRow w.heap.size 9 1 l ps.length (ps.map .string))∧ps.length≤p∧Hid (NoBl (cutAt s f p))∧Hid (splitM s=ps ++ (splitL (s.data.toList.drop f)).map toB)) (fun _ _ i _=>s.size - (intOf i).toNat)
 case atStart=>exact ⟨0,0,[],by omega,by omega,rfl,rfl,Below.refl _ _,World.ownsRow_nil _ _ _ _,by simp,(fun b hb=>by simp [cutAt] at hb),by unfold splitM; rfl⟩
 case round =>
  obtain ⟨f,p,ps,hfp,hp,rfl,rfl,hb,HO,hpl,HNB,HS⟩:=hrel;by_cases hlt:p<s.size
  ·obtain ⟨x,hx⟩:∃ x:UInt8,s[p]'hlt=x:=⟨_,rfl⟩
   have Hx:=Lib.hid (show s.data.toList[p]?=some x by rw [← hx]; exact Lib.data_getElem? s p hlt);have hp1:(p:Int)<(s.size:Int):=by omega
   have h32:((x.toNat:Int) == 32)=(x == 32):=by
    rw [Bool.eq_iff_iff,beq_iff_eq,beq_iff_eq,← UInt8.toNat_inj];show _↔x.toNat=32;omega
   rcases Bool.eq_false_or_eq_true (x == 32) with e | e
   ·rw [e] at h32
    have hfi:(f:Int)≤(p:Int):=by omega
    have HS2:=Lib.hid (cut_hit hfp Hx.out e HNB.out HS.out);have Hrow:=Lib.hid (rd_row1 wr (.string (s.extract f p)) 9);have HB1:=Lib.hid (hb.alloc hb.size (Obj.cells #[.string (s.extract f p)] 9));have HO1:=Lib.hid (own_keepL HO.out (fun g _ hg=>((Below.refl wr.heap.size wr).alloc (Nat.le_refl _) (Obj.cells #[.string (s.extract f p)] 9)).block g hg));go_wp2_with (at_builtin; refine wpList_append_rd (S:=fun _=>True) _ rfl (.tmp 16) (.tmp 21) _ rfl w.heap.size 9 i0 _ 1 16 Tryz.underlying22 hi0 hz0 hz1 hz2 rfl (by omega) _ ps.length (ps.map .string) rfl HO1.out _ 1 _ rfl Hrow.out (fun u hu=>by simp at hu; subst hu; rfl) (by simp only [maxLen]; omega) (by omega) HB1.out.size ?_; intro v5 w8 hown8 hg8 hat8);have HB2:=Lib.hid (HB1.out.grown hg8 HB1.out.size (fun k hk=>(HO1.out.lt k hk).1))
    have HO2:Hid (w8.ownsRow w.heap.size 9 1 v5 (ps ++ [s.extract f p]).length ((ps ++ [s.extract f p]).map .string)):=by
     show World.ownsRow _ _ _ _ _ _ _;rw [List.length_append,List.map_append];exact hown8
    clear hown8 hg8 hat8;go_roundw
    case rel=>exact ⟨p+1,p+1,ps ++ [s.extract f p],by omega,by omega,by first | rfl | simp,by first | rfl | simp,HB2.out,HO2,by simp; omega,(fun b hb=>by simp [cutAt] at hb),HS2⟩
    case measure=>simp [intOf]; omega
   ·rw [e] at h32
    have HNB2:Hid (NoBl (cutAt s f (p+1))):=fun b hb=>by
     rw [cutAt_succ hfp Hx.out] at hb;rcases List.mem_append.1 hb with hb | hb
     ·exact HNB.out b hb
     ·rw [List.mem_singleton.1 hb]; exact e
    go_wp2;go_round
    case measure=>simp [intOf]; omega
    case rel=>exact ⟨f,p+1,ps,by omega,by omega,rfl,by first | rfl | simp,hb,HO,by omega,HNB2,HS⟩
  ·obtain rfl:p=s.size:=by omega
   have hp1:¬ ((s.size:Int)<(s.size:Int)):=by omega
   have hfi:(f:Int)≤(s.size:Int):=by omega
   have HS2:=Lib.hid (cut_end HNB.out HS.out);have Hrow:=Lib.hid (rd_row1 wr (.string (s.extract f s.size)) 9);have HB1:=Lib.hid (hb.alloc hb.size (Obj.cells #[.string (s.extract f s.size)] 9));have HO1:=Lib.hid (own_keepL HO.out (fun g _ hg=>((Below.refl wr.heap.size wr).alloc (Nat.le_refl _) (Obj.cells #[.string (s.extract f s.size)] 9)).block g hg));go_wp2_with (at_builtin; refine wpList_append_rd (S:=fun _=>True) _ rfl (.tmp 25) (.tmp 29) _ rfl w.heap.size 9 i0 _ 1 16 Tryz.underlying22 hi0 hz0 hz1 hz2 rfl (by omega) _ ps.length (ps.map .string) rfl HO1.out _ 1 _ rfl Hrow.out (fun u hu=>by simp at hu; subst hu; rfl) (by simp only [maxLen]; omega) (by omega) HB1.out.size ?_; intro v5 w8 hown8 hg8 hat8);have HB2:=Lib.hid (HB1.out.grown hg8 HB1.out.size (fun k hk=>(HO1.out.lt k hk).1));go_ret;refine ⟨_,rfl,HB2.out,?_⟩;rw [HS2.out,List.length_append,List.map_append];exact hown8
end Go.Proofs.YtagndjihiklmiaaGreatDoor
