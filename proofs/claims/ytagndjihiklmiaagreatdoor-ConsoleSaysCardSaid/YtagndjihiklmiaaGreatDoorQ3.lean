/- The model: which one is next. -/
import Derived.Test.YtagndjihiklmiaaGreatDoorQ2
set_option linter.unusedSimpArgs false
set_option linter.unusedVariables false
set_option maxRecDepth 100000
set_option maxHeartbeats 8000000
namespace Go.Proofs.YtagndjihiklmiaaGreatDoor
open Go.RowKit
theorem bestOf_ok {ok:Rq→Bool} {key:Rq→Int} {l:List Rq}:∀ {k j:Nat},bestOf ok key l k=j→∃ r,l[j]?=some r∧ok r=true∧j<k
 |0,j,h=>by simp [bestOf] at h
 |k+1,j,h=>by
  rw [bestOf] at h
  split at h
  ·obtain ⟨r,h1,h2,h3⟩:=bestOf_ok h; exact ⟨r,h1,h2,by omega⟩
  ·rename_i r hr
   split at h
   ·rename_i hc
    obtain rfl:k=j:=by omega
    simp at hc;exact ⟨r,hr,hc.1,by omega⟩
   ·obtain ⟨r,h1,h2,h3⟩:=bestOf_ok h; exact ⟨r,h1,h2,by omega⟩
theorem bestOf_some {ok:Rq→Bool} {key:Rq→Int} {l:List Rq} {r:Rq} {j:Nat} (hj:l[j]?=some r) (ho:ok r=true):∀ {k:Nat},j<k→0≤bestOf ok key l k
 |0,h=>by omega
 |k+1,h=>by
  by_cases hjk:j=k
  ·subst hjk
   rw [bestOf,hj];simp only
   split
   ·omega
   ·rename_i hc
    simp [ho] at hc;omega
  ·have ih:=bestOf_some (key:=key) hj ho (show j<k by omega)
   rw [bestOf]
   split
   ·exact ih
   ·split
    ·omega
    ·exact ih
theorem oldest_ok {l:List Rq} {wb:Bool} (h:0≤oldest l wb):∃ (j:Nat) (r:Rq),oldest l wb=j∧l[j]?=some r∧r.write=wb∧j<l.length:=by
 obtain ⟨j,hj⟩:=Int.eq_ofNat_of_zero_le h;obtain ⟨r,h1,h2,h3⟩:=bestOf_ok hj;exact ⟨j,r,hj,h1,by simpa using h2,h3⟩
theorem fromI_ok {l:List Rq} {wb:Bool} {a:Int} (h:0≤fromI l wb a):∃ (j:Nat) (r:Rq),fromI l wb a=j∧l[j]?=some r∧r.write=wb∧a≤r.lo∧j<l.length:=by
 obtain ⟨j,hj⟩:=Int.eq_ofNat_of_zero_le h;obtain ⟨r,h1,h2,h3⟩:=bestOf_ok hj;simp at h2;exact ⟨j,r,hj,h1,h2.1,h2.2,h3⟩
theorem oldest_some {l:List Rq} {wb:Bool} {r:Rq} {j:Nat} (hj:l[j]?=some r) (hw:r.write=wb):0≤oldest l wb :=
 bestOf_some hj (by simp [hw]) (by rcases Nat.lt_or_ge j l.length with h | h; exact h; rw [List.getElem?_eq_none h] at hj; cases hj)
theorem fromI_some {l:List Rq} {wb:Bool} {r:Rq} {j:Nat} {a:Int} (hj:l[j]?=some r) (hw:r.write=wb) (ha:a≤r.lo):0≤fromI l wb a :=
 bestOf_some hj (by simp [hw,ha]) (by rcases Nat.lt_or_ge j l.length with h | h; exact h; rw [List.getElem?_eq_none h] at hj; cases hj)
theorem kinds {l:List Rq} (h:l≠[]):0≤oldest l false∨0≤oldest l true:=by
 cases l with
 |nil=>exact absurd rfl h
 |cons r l =>
  cases hw:r.write with
  |false=>left; exact oldest_some (j:=0) rfl hw
  |true=>right; exact oldest_some (j:=0) rfl hw
def endOf (l:List Rq) (i:Int):Int:=(l.getD i.toNat default).lo+(l.getD i.toNat default).many
theorem endOf_at {l:List Rq} {j:Nat} {r:Rq} (h:l[j]?=some r):endOf l j=r.lo+r.many:=by
 unfold endOf; rw [Int.toNat_natCast,List.getD_eq_getElem?_getD,h]; rfl
def pickM (l:List Rq) (t:Tn) (now:Int):Int :=
 if expB (l.getD (oldest l t.write).toNat default) now then oldest l t.write
 else if fromI l t.write t.wh<0 then fromI l t.write 0 else fromI l t.write t.wh
def nextM (l:List Rq) (t:Tn) (now:Int):Int × Tn :=
 if 0<t.gone∧t.gone<3∧0≤fromI l t.write t.wh then (fromI l t.write t.wh,{ t with gone:=t.gone+1,wh:=endOf l (fromI l t.write t.wh) })
 else (pickM l (turnedM l t) now,{ turnedM l t with gone:=1,wh:=endOf l (pickM l (turnedM l t) now) })
theorem nextM_on {l:List Rq} {t:Tn} {now:Int} (h1:0<t.gone) (h2:t.gone<3) (h3:0≤fromI l t.write t.wh) :
  nextM l t now=(fromI l t.write t.wh,{ t with gone:=t.gone+1,wh:=endOf l (fromI l t.write t.wh) }):=if_pos ⟨h1,h2,h3⟩
theorem nextM_new {l:List Rq} {t:Tn} {now:Int} (h:¬ (0<t.gone∧t.gone<3∧0≤fromI l t.write t.wh)) :
  nextM l t now=(pickM l (turnedM l t) now,{ turnedM l t with gone:=1,wh:=endOf l (pickM l (turnedM l t) now) }):=if_neg h
theorem turned_kind {l:List Rq} {t:Tn} (hne:l≠[]):0≤oldest l (turnedM l t).write:=by
 have hk:=kinds hne;unfold turnedM;by_cases h1:0≤oldest l false
 ·by_cases h2:0≤oldest l true
  ·rw [if_neg (by simp [h2])]
   split
   ·exact h2
   ·exact h1
  ·rw [if_pos ⟨h1,h2⟩]; exact h1
 ·have h2:=hk.resolve_left h1
  rw [if_neg (by simp [h1]),if_pos ⟨h2,.inl h1⟩]; exact h2
end Go.Proofs.YtagndjihiklmiaaGreatDoor
namespace Go.Proofs.YtagndjihiklmiaaGreatDoor
open Go.RowKit
def Apart (a b:Rq):Prop:=meetB b.lo b.many a.lo a.many=false
theorem meetB_comm (a b c d:Int):meetB a b c d=meetB c d a b:=by unfold meetB; exact Bool.and_comm _ _
theorem Apart.symm {a b:Rq} (h:Apart a b):Apart b a:=by unfold Apart at *; rw [meetB_comm]; exact h
theorem good_iff (l:List Rq):goodReqs l=true↔(∀ r ∈ l,reqF r=0)∧l.Pairwise Apart:=by
 unfold goodReqs;rw [List.all_eq_true,List.pairwise_iff_getElem];constructor
 ·intro h
  have key:∀ i (hi:i<l.length),reqF l[i]=0∧apartFrom l[i] (l.take i)=true:=by
   intro i hi;have:=h i (List.mem_range.2 hi);rw [okAt_some (List.getElem?_eq_getElem hi)] at this
   simpa using this
  constructor
  ·intro r hr
   obtain ⟨i,hi,rfl⟩:=List.getElem_of_mem hr;exact (key i hi).1
  ·intro i j hi hj hij
   have:=(key j hj).2;unfold apartFrom at this;rw [List.all_eq_true] at this;have h2:=this l[i] (List.mem_iff_getElem?.2 ⟨i,by rw [List.getElem?_take,if_pos hij]; exact List.getElem?_eq_getElem hi⟩)
   simpa [Apart] using h2
 ·rintro ⟨h1,h2⟩ i hi
  rw [List.mem_range] at hi;rw [okAt_some (List.getElem?_eq_getElem hi)];simp only [Bool.and_eq_true,decide_eq_true_eq];refine ⟨h1 _ (List.getElem_mem hi),?_⟩;unfold apartFrom;rw [List.all_eq_true];intro q hq;obtain ⟨j,hj⟩:=List.mem_iff_getElem?.1 hq;rw [List.getElem?_take] at hj
  split at hj
  ·rename_i hji
   rw [List.getElem?_eq_getElem (by omega)] at hj
   cases hj
   have:=h2 j i (by omega) hi hji
   simpa [Apart] using this
  ·cases hj
theorem pairwise_perm {l l':List Rq} (h:l.Perm l') (hp:l.Pairwise Apart):l'.Pairwise Apart :=
 (h.pairwise_iff (fun {a b} hab=>Apart.symm hab)).1 hp
theorem good_perm {l l':List Rq} (h:l.Perm l') (hg:goodReqs l=true):goodReqs l'=true:=by
 rw [good_iff] at *;exact ⟨fun r hr=>hg.1 r (h.mem_iff.2 hr),pairwise_perm h hg.2⟩
theorem perm_back {l:List Rq} {i:Nat} {r:Rq} (h:l[i]?=some r):l.Perm (l.eraseIdx i ++ [r]):=by
 have hi:i<l.length:=by
  rcases Nat.lt_or_ge i l.length with h1 | h1
  ·exact h1
  ·rw [List.getElem?_eq_none h1] at h; cases h
 have e:r=l[i]:=by rw [List.getElem?_eq_getElem hi] at h; cases h; rfl
 rw [e,List.eraseIdx_eq_take_drop_succ];have h2:l=l.take i ++ (l[i] :: l.drop (i+1)):=by rw [← List.drop_eq_getElem_cons hi,List.take_append_drop]
 rw [List.append_assoc]
 conv=>lhs; rw [h2]
 exact List.Perm.append_left _ (List.perm_append_comm (l₁:=[l[i]]))
theorem pick_kind {l:List Rq} {t':Tn} {now:Int} (hg:goodReqs l=true) (h:0≤oldest l t'.write):∃ (j:Nat) (r:Rq),pickM l t' now=j∧l[j]?=some r∧j<l.length∧r.write=t'.write:=by
 obtain ⟨o,r,ho,hr,hw,hlt⟩:=oldest_ok h;unfold pickM
 split
 ·exact ⟨o,r,ho,hr,hlt,hw⟩
 ·split
  ·have h0:0≤fromI l t'.write 0:=fromI_some hr hw (good_mem hg hr).span.1
   obtain ⟨j,r',hj,hr',hw',_,hl⟩:=fromI_ok h0;exact ⟨j,r',hj,hr',hl,hw'⟩
  ·rename_i hn
   obtain ⟨j,r',hj,hr',hw',_,hl⟩:=fromI_ok (Int.not_lt.1 hn);exact ⟨j,r',hj,hr',hl,hw'⟩
structure NextIs (l:List Rq) (t:Tn) (now:Int) (j:Nat) (r:Rq) (t':Tn):Prop where
 eq:nextM l t now=((j:Int),t')
 get:l[j]?=some r
 lt:j<l.length
 kind:r.write=t'.write
 gone:1≤t'.gone∧t'.gone≤3
 wh:t'.wh=r.lo+r.many
 on:1<t'.gone→t'.write=t.write∧t.wh≤r.lo
 st:0≤t.starved→t.starved≤2→0≤t'.starved∧t'.starved≤2
 st64:i64 t.starved→i64 t'.starved
theorem turned_starved (l:List Rq) (t:Tn):((turnedM l t).starved=t.starved)∨(turnedM l t).starved=0∨((turnedM l t).starved=t.starved+1∧t.starved<2)∨(oldest l false<0∧oldest l true<0):=by
 unfold turnedM
 split
 ·left; rfl
 ·rename_i h1
  split
  ·right; left; rfl
  ·rename_i h2
   right; right;rcases Int.lt_or_le (oldest l true) 0 with h3 | h3
   ·rcases Int.lt_or_le (oldest l false) 0 with h4 | h4
    ·right; exact ⟨h4,h3⟩
    ·exact absurd ⟨h4,by omega⟩ h1
   ·left
    refine ⟨rfl,?_⟩;rcases Int.lt_or_le t.starved 2 with h4 | h4
    ·exact h4
    ·exact absurd ⟨h3,.inr h4⟩ h2
theorem next_is {l:List Rq} (t:Tn) (now:Int) (hg:goodReqs l=true) (hne:l≠[]):∃ j r t',NextIs l t now j r t':=by
 by_cases h:0<t.gone∧t.gone<3∧0≤fromI l t.write t.wh
 ·obtain ⟨h1,h2,h3⟩:=h
  obtain ⟨j,r,hj,hr,hw,hlo,hl⟩:=fromI_ok h3;refine ⟨j,r,{ t with gone:=t.gone+1,wh:=endOf l (fromI l t.write t.wh) },⟨?_,hr,hl,hw,by simp; omega,?_,fun _=>⟨rfl,hlo⟩,fun a b=>⟨a,b⟩,id⟩⟩
  ·rw [nextM_on h1 h2 h3,hj]
  ·show endOf l (fromI l t.write t.wh)=_
   rw [hj,endOf_at hr]
 ·obtain ⟨j,r,hj,hr,hl,hw⟩:=pick_kind (now:=now) hg (turned_kind (t:=t) hne)
  have hk:=kinds hne;refine ⟨j,r,{ turnedM l t with gone:=1,wh:=endOf l (pickM l (turnedM l t) now) },⟨?_,hr,hl,hw,by simp,?_,by simp,fun a b=>?_,fun a=>?_⟩⟩
  ·rw [nextM_new h,hj]
  ·show endOf l (pickM l (turnedM l t) now)=_
   rw [hj,endOf_at hr]
  ·show 0≤(turnedM l t).starved∧(turnedM l t).starved≤2
   rcases turned_starved l t with h | h | h | h <;> omega
  ·show i64 (turnedM l t).starved
   unfold i64 at *;rcases turned_starved l t with h | h | h | h <;> omega
end Go.Proofs.YtagndjihiklmiaaGreatDoor
namespace Go.Proofs.YtagndjihiklmiaaGreatDoor
open Go.RowKit
theorem all_take_succ {α:Type} (p:α→Bool) (l:List α) (k:Nat) (x:α) (h:l[k]?=some x):(l.take (k+1)).all p=((l.take k).all p && p x):=by
 rw [List.take_add_one,h]; simp
theorem all_not {α:Type} (p:α→Bool) (l:List α) (k:Nat) (x:α) (h:l[k]?=some x) (hp:p x=false):l.all p=false:=by
 rw [List.all_eq_false];exact ⟨x,List.mem_of_getElem? h,by simp [hp]⟩
theorem all_end {α:Type} (p:α→Bool) (l:List α) (k:Nat) (hk:l.length≤k) (h:(l.take k).all p=true):l.all p=true:=by
 rwa [List.take_of_length_le hk] at h
end Go.Proofs.YtagndjihiklmiaaGreatDoor
namespace Go.Proofs.YtagndjihiklmiaaGreatDoor
open Go.RowKit
theorem check1_any (s:ByteArray) (w:World) (hs:s.size≤9223372036854775807):Calls Tryz.prog 192 #[.string s] w (RetSame (.bool (decide (4<s.size))) w):=by
 by_cases h:4<s.size
 all_goals
  go_enter Tryz.func192,Tryz.ntmps192;go_wp2;go_ret;exact ⟨by simp [h]; try omega,rfl⟩
def RetIdx (P:Int→Prop) (w:World):Ending→World→Prop:=fun e w'=>∃ n:Int,e=.returned (.int .i64 n)∧P n∧w=w'
def idxTells (n:Int) (b:Bool):Prop:=0≤n↔b=true
theorem index1_any (S:Nat→Prop) (l:List ByteArray) (v:Value) (w:World) (h:StrsAt S w v l) :
  Calls Tryz.prog 210 #[v,.func (.func 192) #[] #[]] w (RetIdx (fun n=>idxTells n (!l.all (fun s=>decide (s.size≤4)))) w):=by
 obtain ⟨A,cap,rfl,h1,h2⟩:=h.form;unfold maxLen at h2;have Hl:=Lib.hid h;clear h;go_enter Tryz.func210,Tryz.ntmps210;go_wp2;go_loop [8] (fun i=>∃ k:Nat,k≤l.length∧i=.int .i64 k∧Hid ((l.take k).all (fun s=>decide (s.size≤4))=true)) (fun i=>l.length - (intOf i).toNat)
 case atStart=>exact ⟨0,by omega,rfl,rfl⟩
 case round =>
  obtain ⟨k,hk,rfl,hall⟩:=hrel;by_cases hlt:k<l.length
  ·obtain ⟨b,off,rfl,_,hb,hc⟩:=Hl.out.at_ (by omega)
   have hx:l[k]?=some l[k]:=List.getElem?_eq_getElem hlt;obtain ⟨hcell,hsz⟩:=hc k _ hx;unfold maxLen at hsz;clear hc;have Hx:=Lib.hid hx;clear hx;generalize l[k]=s at hcell hsz Hx
   cases hs:decide (4<s.size) with
   |false =>
    go_wp2_with (go_at_call 192; refine (check1_any _ _ (by omega)).mono ?_; rintro e w1 ⟨rfl,rfl⟩);go_round
    case rel=>exact ⟨k+1,by omega,by go_num,by show _=true; rw [all_take_succ _ _ _ _ Hx.out,hall.out]; simp at hs ⊢; omega⟩
    case measure=>simp [intOf]; omega
   |true =>
    go_wp2_with (go_at_call 192; refine (check1_any _ _ (by omega)).mono ?_; rintro e w1 ⟨rfl,rfl⟩);go_ret;refine ⟨k,rfl,?_,rfl⟩;rw [all_not _ _ _ _ Hx.out (by simp at hs ⊢; omega)];simp [idxTells]
  ·go_wp2
   go_ret;refine ⟨-1,rfl,?_,rfl⟩;rw [all_end _ _ _ (by omega) hall.out];simp [idxTells]
theorem contains1_any (S:Nat→Prop) (l:List ByteArray) (v:Value) (w:World) (h:StrsAt S w v l) :
  Calls Tryz.prog 191 #[v,.func (.func 192) #[] #[]] w (RetSame (.bool (!l.all (fun s=>decide (s.size≤4)))) w):=by
 go_enter Tryz.func191,Tryz.ntmps191;go_wp2_with (go_at_call 210; refine (index1_any S l _ _ h).mono ?_; rintro e w1 ⟨n,rfl,hn,rfl⟩);go_ret;refine ⟨?_,rfl⟩
 cases hb:(!l.all (fun s=>decide (s.size≤4))) with
 |true=>rw [hb] at hn; have:=hn.2 rfl; simp [this]
 |false=>rw [hb] at hn; have:¬ 0≤n:=fun h=>by cases hn.1 h
         simp; omega
theorem reqfault_any (S:Nat→Prop) (r:Rq) (v:Value) (w:World) (h:ReqAt S w v r) :
  Calls Tryz.prog 141 #[v] w (Ret (.int .i64 (reqF r:Nat)) w):=by
 obtain ⟨Ad,cd,At,ct,rfl,hd,ht,dm,tm,_,_,_⟩:=h.opened;have Hd:=Lib.hid hd;clear hd ht h;by_cases hs:SpanOk r.lo r.many 4;have fs:=spanF_pos hs;have Hs:=Lib.hid hs;have hm1:1≤r.many:=hs.2.2.1;clear hs;by_cases hsh:shapeOk r;have Hsh:=Lib.hid hsh
 have q:(r.write=true∧((r.data.length:Int) == r.many)=true∧0<(r.data.length:Int))∨(r.write=false∧¬ 0<(r.data.length:Int)):=by
  unfold shapeOk at hsh
  cases hw:r.write with
  |true=>rw [hw] at hsh; simp at hsh; left; exact ⟨rfl,by simpa using hsh,by omega⟩
  |false=>rw [hw] at hsh; simp at hsh; right; exact ⟨rfl,by rw [hsh]; simp⟩
 clear hsh;by_cases htg:tagsOk r;have Htg:=Lib.hid htg;have t1:(1:Int)≤(r.tags.length:Int):=by have:=htg.1; omega
 have t2:(r.tags.length:Int)≤4:=by have:=htg.2; omega
 have t0:((r.tags.length:Int) == 0)=false:=by simp; intro h; rw [h] at t1; simp at t1
 clear htg;by_cases hbn:bornOk r;have Hbn:=Lib.hid hbn;have b1:0≤r.born:=hbn.1;have b2:r.born≤1000000000:=hbn.2;clear hbn
 rcases q with ⟨hw,hq,hq2⟩ | ⟨hw,hq⟩
 have hq3:((r.data.length:Int) != r.many)=false:=by rw [bne,hq]; rfl
 rotate_left;rotate_left;have e:=reqF_born Hs.out Hsh.out Htg.out hbn;have bb:r.born<0∨1000000000<r.born:=by unfold bornOk at hbn; omega
 rw [e];clear e hbn
 rcases q with ⟨hw,hq,hq2⟩ | ⟨hw,hq⟩
 have hq3:((r.data.length:Int) != r.many)=false:=by rw [bne,hq]; rfl
 rcases bb with bb | bb;rotate_left;rotate_left;rcases bb with bb | bb;rotate_left;rotate_left;have e:=reqF_tags Hs.out Hsh.out htg;have bb:r.tags.length=0∨4<(r.tags.length:Int):=by unfold tagsOk at htg; omega
 rw [e];clear e htg
 rcases q with ⟨hw,hq,hq2⟩ | ⟨hw,hq⟩
 have hq3:((r.data.length:Int) != r.many)=false:=by rw [bne,hq]; rfl
 rcases bb with bb | bb;rotate_left;have t0:((r.tags.length:Int) == 0)=false:=by simp; intro h; rw [h] at bb; simp at bb
 rotate_left;rcases bb with bb | bb;rotate_left;have t0:((r.tags.length:Int) == 0)=false:=by simp; intro h; rw [h] at bb; simp at bb
 rotate_left;have e:=reqF_shape Hs.out hsh;rw [e];clear e;rcases Bool.eq_false_or_eq_true (r.write) with hw | hw;have q1:((r.data.length:Int) == r.many)=false:=by unfold shapeOk at hsh; rw [hw] at hsh; simpa using hsh
 have q2:((r.data.length:Int) != r.many)=true:=by rw [bne,q1]; rfl
 clear hsh;by_cases hl:0<(r.data.length:Int);rotate_left;rotate_left;have hl:0<(r.data.length:Int):=by unfold shapeOk at hsh; rw [hw] at hsh; simp at hsh; have:=List.length_pos_iff.2 hsh; omega
 clear hsh;rotate_left;have fs:=spanF_neg hs;rw [reqF_span hs];clear hs;rotate_left
 all_goals
  go_enter Tryz.func141,Tryz.ntmps141;go_wp2_with (go_at_call 177; refine (spanfault_any _ _ _ _).mono ?_; rintro e w1 ⟨rfl,hb1⟩; obtain ⟨hc1,hf1⟩:=bcell hb1; have hz1:=hb1.size; simp only [World.size_alloc] at hz1)
  first
   |(go_ret
     exact ⟨rfl,((Below.refl _ _).alloc (Nat.le_refl _) _).trans (hb1.mono (by simp))⟩)
   |(go_loop [4] (fun i=>∃ k:Nat,k≤r.data.length∧i=.int .i64 k∧Hid ((r.data.take k).all (fun s=>decide (s.size≤4))=true)) (fun i=>r.data.length - (intOf i).toNat)
     case atStart=>exact ⟨0,by omega,rfl,rfl⟩
     case round =>
      obtain ⟨k,hk,rfl,hall⟩:=hrel;by_cases hlt:k<r.data.length
      ·first
        |(exfalso; omega)
        |(obtain ⟨b,off,rfl,_,hbl,hc⟩:=(Hd.out.below (((Below.refl _ _).alloc (Nat.le_refl _) _).trans (hb1.mono (by simp)))).at_ (by omega)
          have hx:r.data[k]?=some r.data[k]:=List.getElem?_eq_getElem hlt;obtain ⟨hcell,hsz⟩:=hc k _ hx;unfold maxLen at hsz;clear hc;have Hx:=Lib.hid hx;clear hx;generalize r.data[k]=s at hcell hsz Hx;by_cases hs:s.size≤4
          ·go_wp2
           go_round
           case rel=>exact ⟨k+1,by omega,by go_num,by show _=true; rw [all_take_succ _ _ _ _ Hx.out,hall.out]; simpa using hs⟩
           case measure=>simp [intOf]; omega
          ·go_wp2
           go_ret;refine ⟨?_,((Below.refl _ _).alloc (Nat.le_refl _) _).trans (hb1.mono (by simp))⟩
           rw [reqF_data Hs.out Hsh.out Htg.out Hbn.out (all_not _ _ _ _ Hx.out (by simpa using hs))]; rfl)
      ·go_wp2
       go_ret;refine ⟨?_,((Below.refl _ _).alloc (Nat.le_refl _) _).trans (hb1.mono (by simp))⟩
       rw [reqF_ok ⟨Hs.out,Hsh.out,Htg.out,Hbn.out,all_end _ _ _ (by omega) hall.out⟩]; rfl)
end Go.Proofs.YtagndjihiklmiaaGreatDoor
namespace Go.Proofs.YtagndjihiklmiaaGreatDoor
open Go.RowKit Go.Sort
structure TwoSpans (B:Nat) (w wr:World) (af am bf bm:Int):Prop where
 below:Below B w wr
 lt:B+1<wr.heap.size
 b1:wr.heap[B]?=some (.cells #[.int .i64 af,.int .i64 am] 115 (0,0))
 b2:wr.heap[B+1]?=some (.cells #[.int .i64 bf,.int .i64 bm] 115 (0,0))
theorem TwoSpans.c {B:Nat} {w wr:World} {af am bf bm:Int} (h:TwoSpans B w wr af am bf bm) :
  wr.cell? ⟨B,0,none⟩=some (.int .i64 af)∧wr.cell? ⟨B,1,none⟩=some (.int .i64 am)∧wr.cell? ⟨B+1,0,none⟩=some (.int .i64 bf)∧wr.cell? ⟨B+1,1,none⟩=some (.int .i64 bm) :=
 ⟨cell_of_row _ _ 0 _ _ _ h.b1,cell_of_row _ _ 1 _ _ _ h.b1,cell_of_row _ _ 0 _ _ _ h.b2,cell_of_row _ _ 1 _ _ _ h.b2⟩
theorem TwoSpans.next {B:Nat} {w wr w':World} {af am bf bm:Int} (h:TwoSpans B w wr af am bf bm) (hb:Below wr.heap.size wr w') (hB:B≤wr.heap.size:=by omega):TwoSpans B w w' af am bf bm :=
 ⟨h.below.trans (hb.mono hB),by have:=hb.size; have:=h.lt; omega,(hb.block _ (by have:=h.lt; omega)).trans h.b1,(hb.block _ h.lt).trans h.b2⟩
theorem TwoSpans.step {B:Nat} {w wr w':World} {af am bf bm:Int} (h:TwoSpans B w wr af am bf bm) (hb:Below wr.heap.size wr w'):TwoSpans B w w' af am bf bm :=
 h.next hb (by have:=h.lt; omega)
theorem TwoSpans.rg {B:Nat} {w wr:World} {af am bf bm:Int} (h:TwoSpans B w wr af am bf bm) :
  (∀ d os,(grow (redrawn wr d) os).cell? ⟨B,0,none⟩=some (.int .i64 af))∧(∀ d os,(grow (redrawn wr d) os).cell? ⟨B,1,none⟩=some (.int .i64 am)) ∧
  (∀ d os,(grow (redrawn wr d) os).cell? ⟨B+1,0,none⟩=some (.int .i64 bf))∧(∀ d os,(grow (redrawn wr d) os).cell? ⟨B+1,1,none⟩=some (.int .i64 bm)) :=
 ⟨fun _ _=>cell_regrown h.c.1 _ _,fun _ _=>cell_regrown h.c.2.1 _ _,fun _ _=>cell_regrown h.c.2.2.1 _ _,fun _ _=>cell_regrown h.c.2.2.2 _ _⟩
theorem meet_of_has {af am bf bm k:Int} (hx:hasB af am k=true) (hy:hasB bf bm k=true):meetB af am bf bm=true:=by
 simp [hasB,meetB] at *; omega
theorem not_meet {af am bf bm:Int} (ha:SpanOk af am 32) (hb:SpanOk bf bm 32) (h:∀ k,0≤k→k<32→¬ (hasB af am k=true∧hasB bf bm k=true)):meetB af am bf bm=false:=by
 obtain ⟨a1,a2,a3,a4,a5⟩:=ha;obtain ⟨b1,b2,b3,b4,b5⟩:=hb;have h1:=h (if af≤bf then bf else af) (by split <;> omega) (by split <;> omega);by_cases c:af≤bf
 ·rw [if_pos c] at h1
  simp [hasB] at h1;simp [meetB]; omega
 ·rw [if_neg c] at h1
  simp [hasB] at h1;simp [meetB]; omega
theorem rmeet_any (af am bf bm:Int) (w:World) (ha:SpanOk af am 32) (hb:SpanOk bf bm 32) :
  Calls Tryz.prog 142 #[spanV af am,spanV bf bm] w (Ret (.bool (meetB af am bf bm)) w):=by
 have Ha:=Lib.hid ha;have Hb:=Lib.hid hb;obtain ⟨a1,a2,a3,a4,a5⟩:=ha;obtain ⟨b1,b2,b3,b4,b5⟩:=hb;go_enter Tryz.func142,Tryz.ntmps142;go_wp2;go_loopw [5,6,7] (fun i _ _ wr=>∃ k:Int,0≤k∧k≤32∧i=.int .i64 k∧TwoSpans w.heap.size w wr af am bf bm∧Hid (∀ j,0≤j→j<k→¬ (hasB af am j=true∧hasB bf bm j=true))) (fun i _ _ _=>(32 - intOf i).toNat)
 case atStart =>
  exact ⟨0,by omega,by omega,rfl,⟨((Below.refl _ _).alloc (Nat.le_refl _) _).alloc (by simp) _,by simp,heap_alloc2_old _ _ _,heap_alloc2_new _ _ _⟩,fun j h1 h2=>by omega⟩
 case round =>
  obtain ⟨k,hk0,hk1,rfl,hT,hno⟩:=hrel;obtain ⟨c1,c2,c3,c4⟩:=hT.c;have hlt:=hT.lt;go_wp2_with (go_at_call 66; refine (rhas_any _ _ _ _ (by omega) (by omega) (by omega) (by omega)).mono ?_; rintro e w' ⟨rfl,hb'⟩; obtain ⟨hc',hf'⟩:=bcell hb'; have hz':=hb'.size)
  ·go_ret
   refine ⟨?_,hT.below.trans ((Below.mono ‹_› (by omega)).trans (Below.mono ‹_› (by omega)))⟩;rw [meet_of_has ‹hasB af am k=true› ‹_›]; rfl
  ·go_roundw
   case rel =>
    refine ⟨k+1,by omega,by omega,rfl,(hT.next ‹_› (by omega)).next ‹_› (by omega),fun j j1 j2=>?_⟩;by_cases hj:j=k
    ·subst hj; simp [*]
    ·exact hno.out j j1 (by omega)
   case measure=>simp [intOf]; omega
  ·go_roundw
   case rel =>
    refine ⟨k+1,by omega,by omega,rfl,(hT.next ‹_› (by omega)).next ‹_› (by omega),fun j j1 j2=>?_⟩;by_cases hj:j=k
    ·subst hj; simp [*]
    ·exact hno.out j j1 (by omega)
   case measure=>simp [intOf]; omega
  ·go_ret
   refine ⟨?_,hT.below⟩;rw [not_meet Ha.out Hb.out (fun j j1 j2=>hno.out j j1 (by omega))]; rfl
end Go.Proofs.YtagndjihiklmiaaGreatDoor
namespace Go.Proofs.YtagndjihiklmiaaGreatDoor
open Go.RowKit Go.Sort
end Go.Proofs.YtagndjihiklmiaaGreatDoor
namespace Go.Proofs.YtagndjihiklmiaaGreatDoor
open Go.RowKit
theorem drewN_below (B:Nat) (w:World) (n:Nat):Below B w (w.drewN n):=⟨rfl,rfl,rfl,Nat.le_refl _,fun _ _=>rfl⟩
theorem bestOf_cases {ok:Rq→Bool} {key:Rq→Int} {l:List Rq} {k:Nat} {x:Rq} (hx:l[k]?=some x) :
  (ok x=false∧bestOf ok key l (k+1)=bestOf ok key l k)∨(ok x=true∧bestOf ok key l k = -1∧bestOf ok key l (k+1)=k) ∨
  (∃ j y,ok x=true∧bestOf ok key l k=((j:Nat):Int)∧j<k∧l[j]?=some y∧key x<key y∧bestOf ok key l (k+1)=k)∨(∃ j y,ok x=true∧bestOf ok key l k=((j:Nat):Int)∧j<k∧l[j]?=some y∧¬ key x<key y∧bestOf ok key l (k+1)=(j:Int)):=by
 have hr:=bestOf_range ok key l k;have hlt:=(List.getElem?_eq_some_iff.1 hx).1
 cases ho:ok x with
 |false=>exact .inl ⟨rfl,bestOf_no hx ho⟩
 |true =>
  by_cases hn:bestOf ok key l k<0
  ·exact .inr (.inl ⟨rfl,by omega,bestOf_first hx ho hn⟩)
  ·obtain ⟨j,hj⟩:∃ j:Nat,bestOf ok key l k=j:=⟨(bestOf ok key l k).toNat,by omega⟩
   have hy:l[j]?=some l[j]:=List.getElem?_eq_getElem (by omega);by_cases hu:key x<key l[j]
   ·exact .inr (.inr (.inl ⟨j,_,rfl,hj,by omega,hy,hu,bestOf_less hx ho hj hy hu⟩))
   ·exact .inr (.inr (.inr ⟨j,_,rfl,hj,by omega,hy,hu,bestOf_more hx hj hy hu⟩))
theorem oldest_any (S:Nat→Prop) (l:List Rq) (v:Value) (wb:Bool) (w:World) (h:ReqsAt S w v l) :
  Calls Tryz.prog 127 #[v,.bool wb] w (Ret (.int .i64 (oldest l wb)) w):=by
 obtain ⟨A,cap,rfl,h1,h2⟩:=h.form;unfold maxLen at h2;have Hl:=Lib.hid h;clear h;go_enter Tryz.func127,Tryz.ntmps127;go_wp2;go_loopw [5,10] (fun b i wr=>∃ k:Nat,k≤l.length∧i=.int .i64 k∧b=.int .i64 (bestOf (fun r:Rq=>r.write == wb) (fun r:Rq=>r.born) l k)∧Below w.heap.size w wr) (fun _ i _=>l.length - (intOf i).toNat)
 case atStart=>exact ⟨0,by omega,rfl,rfl,Below.refl _ _⟩
 case round =>
  obtain ⟨k,hk,rfl,rfl,hb⟩:=hrel;by_cases hlt:k<l.length
  ·have hkl:(k:Int)<(l.length:Int):=by omega
   have Hm:=Lib.hid (Hl.out.below hb);obtain ⟨b,off,rfl,_,hbl,hc⟩:=Hm.out.at_ (by omega);have hx:l[k]?=some l[k]:=List.getElem?_eq_getElem hlt;obtain ⟨Ad,cd,At,ct,_,k0,k1,k2,k3,k4,k5⟩:=hc k _ hx;have hcs:=bestOf_cases (ok:=(fun r:Rq=>r.write == wb)) (key:=(fun r:Rq=>r.born)) hx;have Hc:=Lib.hid hc;clear hx hc;generalize l[k]=r at *
   rcases hcs with ⟨ho,hr⟩ | ⟨ho,hm1,hr⟩ | ⟨j,y,ho,hj,hjk,hxj,hless,hr⟩ | ⟨j,y,ho,hj,hjk,hxj,hless,hr⟩
   all_goals
    have HR:=Lib.hid hr;have ho:(r.write == wb)=_:=ho;clear hr
    try
     rw [hm1];clear hm1
    try
     rw [hj];have hjl:(j:Int)<(l.length:Int):=by omega
     have hj0:¬ (j:Int)<0:=by omega
     have hq:=Hc.out j _ hxj;obtain ⟨_,_,_,_,_,j0,j1,j2,_,_,j5⟩:=hq;clear hj hxj
    go_wp2_with fail;try go_quiet (fail)
    try go_wp2
    go_roundw
    case rel=>exact ⟨k+1,by omega,by go_num,by rw [HR.out],by first | exact hb | exact (hb.trans (drewN_below _ _ _)) | exact ((hb.alloc hb.size _).trans (drewN_below _ _ _)) | exact (hb.alloc hb.size _)⟩
    case measure=>simp [intOf]; omega
  ·obtain rfl:k=l.length:=by omega
   go_wp2;go_ret;exact ⟨rfl,hb⟩
theorem roldest_any (S:Nat→Prop) (l:List Rq) (v:Value) (wb:Bool) (w:World) (h:ReqsAt S w v l) :
  Calls Tryz.prog 107 #[v,.bool wb] w (Ret (.int .i64 (oldest l wb)) w):=by
 obtain ⟨A,cap,rfl,h1,h2⟩:=h.form;unfold maxLen at h2;have Hl:=Lib.hid h;clear h;go_enter Tryz.func107,Tryz.ntmps107;go_wp2;go_loopw [5,6] (fun b i wr=>∃ k:Nat,k≤l.length∧i=.int .i64 k∧b=.int .i64 (bestOf (fun r:Rq=>r.write == wb) (fun r:Rq=>r.born) l k)∧Below w.heap.size w wr) (fun _ i _=>l.length - (intOf i).toNat)
 case atStart=>exact ⟨0,by omega,rfl,rfl,Below.refl _ _⟩
 case round =>
  obtain ⟨k,hk,rfl,rfl,hb⟩:=hrel;by_cases hlt:k<l.length
  ·have hkl:(k:Int)<(l.length:Int):=by omega
   have Hm:=Lib.hid (Hl.out.below hb);obtain ⟨b,off,rfl,_,hbl,hc⟩:=Hm.out.at_ (by omega);have hx:l[k]?=some l[k]:=List.getElem?_eq_getElem hlt;obtain ⟨Ad,cd,At,ct,_,k0,k1,k2,k3,k4,k5⟩:=hc k _ hx;have hcs:=bestOf_cases (ok:=(fun r:Rq=>r.write == wb)) (key:=(fun r:Rq=>r.born)) hx;have Hc:=Lib.hid hc;clear hx hc;generalize l[k]=r at *
   rcases hcs with ⟨ho,hr⟩ | ⟨ho,hm1,hr⟩ | ⟨j,y,ho,hj,hjk,hxj,hless,hr⟩ | ⟨j,y,ho,hj,hjk,hxj,hless,hr⟩
   all_goals
    have HR:=Lib.hid hr;have ho:(r.write == wb)=_:=ho;clear hr
    try
     rw [hm1];clear hm1
    try
     rw [hj];have hjl:(j:Int)<(l.length:Int):=by omega
     have hj0:¬ (j:Int)<0:=by omega
     have hq:=Hc.out j _ hxj;obtain ⟨_,_,_,_,_,j0,j1,j2,_,_,j5⟩:=hq;clear hj hxj
    go_wp2_with fail;try go_quiet (fail)
    try go_wp2
    go_roundw
    case rel=>exact ⟨k+1,by omega,by go_num,by rw [HR.out],by first | exact hb | exact (hb.trans (drewN_below _ _ _)) | exact ((hb.alloc hb.size _).trans (drewN_below _ _ _)) | exact (hb.alloc hb.size _)⟩
    case measure=>simp [intOf]; omega
  ·obtain rfl:k=l.length:=by omega
   go_wp2;go_ret;exact ⟨rfl,hb⟩
theorem from_any (S:Nat→Prop) (l:List Rq) (v:Value) (wb:Bool) (at_:Int) (w:World) (h:ReqsAt S w v l) :
  Calls Tryz.prog 125 #[v,.bool wb,.int .i64 at_] w (Ret (.int .i64 (fromI l wb at_)) w):=by
 obtain ⟨A,cap,rfl,h1,h2⟩:=h.form;unfold maxLen at h2;have Hl:=Lib.hid h;clear h;go_enter Tryz.func125,Tryz.ntmps125;go_wp2;go_loopw [7,12] (fun b i wr=>∃ k:Nat,k≤l.length∧i=.int .i64 k∧b=.int .i64 (bestOf (fun r:Rq=>r.write == wb && decide (at_≤r.lo)) (fun r:Rq=>r.lo) l k)∧Below w.heap.size w wr) (fun _ i _=>l.length - (intOf i).toNat)
 case atStart=>exact ⟨0,by omega,rfl,rfl,Below.refl _ _⟩
 case round =>
  obtain ⟨k,hk,rfl,rfl,hb⟩:=hrel;by_cases hlt:k<l.length
  ·have hkl:(k:Int)<(l.length:Int):=by omega
   have Hm:=Lib.hid (Hl.out.below hb);obtain ⟨b,off,rfl,_,hbl,hc⟩:=Hm.out.at_ (by omega);have hx:l[k]?=some l[k]:=List.getElem?_eq_getElem hlt;obtain ⟨Ad,cd,At,ct,_,k0,k1,k2,k3,k4,k5⟩:=hc k _ hx;have hcs:=bestOf_cases (ok:=(fun r:Rq=>r.write == wb && decide (at_≤r.lo))) (key:=(fun r:Rq=>r.lo)) hx;have Hc:=Lib.hid hc;clear hx hc;generalize l[k]=r at *
   rcases Bool.eq_false_or_eq_true (r.write == wb) with hw | hw <;> rcases Bool.eq_false_or_eq_true (decide (at_≤r.lo)) with hat | hat <;> rcases hcs with ⟨ho,hr⟩ | ⟨ho,hm1,hr⟩ | ⟨j,y,ho,hj,hjk,hxj,hless,hr⟩ | ⟨j,y,ho,hj,hjk,hxj,hless,hr⟩
   all_goals try (exfalso; simp only [hw,hat] at ho; cases ho; done)
   all_goals
    have HR:=Lib.hid hr;clear ho;try have hat2:at_≤r.lo:=of_decide_eq_true hat
    try have hat3:¬ at_≤r.lo:=of_decide_eq_false hat
    clear hr
    try
     rw [hm1];clear hm1
    try
     rw [hj];have hjl:(j:Int)<(l.length:Int):=by omega
     have hj0:¬ (j:Int)<0:=by omega
     have hq:=Hc.out j _ hxj;obtain ⟨_,_,_,_,_,j0,j1,j2,_,_,j5⟩:=hq;clear hj hxj
    go_wp2_with fail;try go_quiet (fail)
    try go_wp2
    go_roundw
    case rel=>exact ⟨k+1,by omega,by go_num,by rw [HR.out],by first | exact hb | exact (hb.trans (drewN_below _ _ _)) | exact ((hb.alloc hb.size _).trans (drewN_below _ _ _)) | exact (hb.alloc hb.size _)⟩
    case measure=>simp [intOf]; omega
  ·obtain rfl:k=l.length:=by omega
   go_wp2;go_ret;exact ⟨rfl,hb⟩
theorem rfrom_any (S:Nat→Prop) (l:List Rq) (v:Value) (wb:Bool) (at_:Int) (w:World) (h:ReqsAt S w v l) :
  Calls Tryz.prog 106 #[v,.bool wb,.int .i64 at_] w (Ret (.int .i64 (fromI l wb at_)) w):=by
 obtain ⟨A,cap,rfl,h1,h2⟩:=h.form;unfold maxLen at h2;have Hl:=Lib.hid h;clear h;go_enter Tryz.func106,Tryz.ntmps106;go_wp2;go_loopw [7,8] (fun b i wr=>∃ k:Nat,k≤l.length∧i=.int .i64 k∧b=.int .i64 (bestOf (fun r:Rq=>r.write == wb && decide (at_≤r.lo)) (fun r:Rq=>r.lo) l k)∧Below w.heap.size w wr) (fun _ i _=>l.length - (intOf i).toNat)
 case atStart=>exact ⟨0,by omega,rfl,rfl,Below.refl _ _⟩
 case round =>
  obtain ⟨k,hk,rfl,rfl,hb⟩:=hrel;by_cases hlt:k<l.length
  ·have hkl:(k:Int)<(l.length:Int):=by omega
   have Hm:=Lib.hid (Hl.out.below hb);obtain ⟨b,off,rfl,_,hbl,hc⟩:=Hm.out.at_ (by omega);have hx:l[k]?=some l[k]:=List.getElem?_eq_getElem hlt;obtain ⟨Ad,cd,At,ct,_,k0,k1,k2,k3,k4,k5⟩:=hc k _ hx;have hcs:=bestOf_cases (ok:=(fun r:Rq=>r.write == wb && decide (at_≤r.lo))) (key:=(fun r:Rq=>r.lo)) hx;have Hc:=Lib.hid hc;clear hx hc;generalize l[k]=r at *
   rcases Bool.eq_false_or_eq_true (r.write == wb) with hw | hw <;> rcases Bool.eq_false_or_eq_true (decide (at_≤r.lo)) with hat | hat <;> rcases hcs with ⟨ho,hr⟩ | ⟨ho,hm1,hr⟩ | ⟨j,y,ho,hj,hjk,hxj,hless,hr⟩ | ⟨j,y,ho,hj,hjk,hxj,hless,hr⟩
   all_goals try (exfalso; simp only [hw,hat] at ho; cases ho; done)
   all_goals
    have HR:=Lib.hid hr;clear ho;try have hat2:at_≤r.lo:=of_decide_eq_true hat
    try have hat3:¬ at_≤r.lo:=of_decide_eq_false hat
    clear hr
    try
     rw [hm1];clear hm1
    try
     rw [hj];have hjl:(j:Int)<(l.length:Int):=by omega
     have hj0:¬ (j:Int)<0:=by omega
     have hq:=Hc.out j _ hxj;obtain ⟨_,_,_,_,_,j0,j1,j2,_,_,j5⟩:=hq;clear hj hxj
    go_wp2_with fail;try go_quiet (fail)
    try go_wp2
    go_roundw
    case rel=>exact ⟨k+1,by omega,by go_num,by rw [HR.out],by first | exact hb | exact (hb.trans (drewN_below _ _ _)) | exact ((hb.alloc hb.size _).trans (drewN_below _ _ _)) | exact (hb.alloc hb.size _)⟩
    case measure=>simp [intOf]; omega
  ·obtain rfl:k=l.length:=by omega
   go_wp2;go_ret;exact ⟨rfl,hb⟩
end Go.Proofs.YtagndjihiklmiaaGreatDoor
