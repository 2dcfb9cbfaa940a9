/- Use and Clean, the program's and the reference's. -/
import Derived.Test.YtaeadmlgffaegaaGreatDoorQ18
set_option linter.unusedSimpArgs false
set_option linter.unusedVariables false
set_option maxRecDepth 100000
set_option maxHeartbeats 8000000
namespace Go.Proofs.YtaeadmlgffaegaaGreatDoor
open Go.RowKit
theorem ownB_slice {w:World} {base n size:Nat} {e:TypeId} {v:Value} {xs:List Value} (h:w.ownsRow base e size v n xs):∃ A cap,v=.slice A n cap∧n≤cap∧cap≤9223372036854775807:=by
 rcases h.2 with ⟨h,h0⟩ | ⟨g,cap,cur,h,_,_,h3,h4,_⟩
 ·exact ⟨none,0,by rw [h,h0],by omega,by omega⟩
 ·unfold maxLen at h4; exact ⟨_,cap,h,h3,by omega⟩
theorem bufs_of_own {w:World} {base:Nat} {v:Value} {l:List Bf} {S:Nat→Prop} (hS:∀ b,base≤b→S b) (h:w.ownsRow base 111 4 v l.length (flatB l)) (hok:∀ b ∈ l,BfOk b):BufsAt S w v l:=⟨Rd.of_own w hS h,hok⟩
theorem own_cells4 {w:World} {base g n cap:Nat} {l:List Bf} (h:w.ownsRow base 111 4 (.slice (some ⟨g,0,none⟩) n cap) n (flatB l)) {i:Nat} {x:Bf} (hx:l[i]?=some x) :
  w.cell? ⟨g,i * 4,none⟩=some (.int .i64 x.pos)∧w.cell? ⟨g,i * 4+1,none⟩=some (.string x.data)∧w.cell? ⟨g,i * 4+2,none⟩=some (.bool x.dirty)∧w.cell? ⟨g,i * 4+3,none⟩=some (.int .i64 x.used):=by
 have hg:=fun j hj=>flatB_get l i j x hx hj
 have hc:=fun j u hu=>h.cells (g:=g) rfl j u hu
 simp only [Go.WideShapes.add_plain,Nat.zero_add] at hc
 exact ⟨hc (i * 4+0) _ ((hg 0 (by omega)).trans rfl),hc (i * 4+1) _ ((hg 1 (by omega)).trans rfl),hc (i * 4+2) _ ((hg 2 (by omega)).trans rfl),hc (i * 4+3) _ ((hg 3 (by omega)).trans rfl)⟩
def RetBufs (l:List Bf) (w:World):Ending→World→Prop:=RetOwn 111 4 l.length (flatB l) w
theorem use_any (S:Nat→Prop) (l:List Bf) (v:Value) (p now:Int) (w:World) (h:BufsAt S w v l) (hr:Rises l) (hn:l.length≤65536) :
  Calls Tryz.prog 129 #[v,.int .i64 p,.int .i64 now] w (RetBufs (useB l p now) w):=by
 obtain ⟨A,cap,rfl,h1,h2⟩:=h.form
 have hl:(useB l p now).length=l.length:=by simp [useB]
 unfold RetBufs
 rw [hl]
 have H:=Lib.hid h
 have HR:=Lib.hid hr
 clear h hr hl
 go_enter Tryz.func129,Tryz.ntmps129
 go_wp2_with fail
 refine (bclone_any S _ l.length (flatB l) _ H.out.1 (flatB_one l) hn).mono ?_
 rintro e w1 ⟨v1,rfl,hown,hb1⟩
 have Hown:=Lib.hid hown
 have Hb1:=Lib.hid hb1
 obtain ⟨A1,cp1,rfl,hc1,hc2⟩:=ownB_slice hown
 clear hown hb1
 go_wp2_with fail
 refine (find_any (fun _=>True) l _ p _ (bufs_of_own (fun _ _=>trivial) Hown.out H.out.2) HR.out hn).mono ?_
 rintro e w2 ⟨rfl,hb2⟩
 have Ho2:=Lib.hid (own_below Hown.out hb2)
 have Hb2:=Lib.hid (Hb1.out.trans (hb2.mono Hb1.out.size))
 clear hb2
 cases hi:isB l p with
 |false =>
  go_wp2_with fail
  go_ret
  exact ⟨_,rfl,by rw [useB_no hi]; exact Ho2.out,Hb2.out⟩
 |true =>
  obtain ⟨x,hx,hp⟩:=isB_at HR.out hi
  have hlt:=(List.getElem?_eq_some_iff.1 hx).1
  have hi1:((posB l p:Nat):Int)<(l.length:Int):=by omega
  obtain ⟨g,cp,e,hbg,hgl,_,_⟩:=own_pos Ho2.out (by omega)
  cases e
  obtain ⟨k0,k1,k2,k3⟩:=own_cells4 Ho2.out hx
  have hfr:=own_frozen Ho2.out (by omega)
  have Hx:=Lib.hid hx
  have Hp:=Lib.hid hp
  clear hx hp
  go_wp2_with fail
  go_ret
  refine ⟨_,rfl,?_,Hb2.out.setCell hbg _⟩
  rw [useB_at HR.out Hx.out Hp.out,← flatB_set1 (c:={ x with used:=now }) Hx.out 3 (by omega) (.int .i64 now) rfl]
  exact ownB_setCell Ho2.out (by omega)
theorem clean_any (S:Nat→Prop) (l:List Bf) (v:Value) (p:Int) (d:ByteArray) (w:World) (h:BufsAt S w v l) (hr:Rises l) (hn:l.length≤65536) :
  Calls Tryz.prog 67 #[v,.int .i64 p,.string d] w (RetBufs (cleanB l p d) w):=by
 obtain ⟨A,cap,rfl,h1,h2⟩:=h.form
 have hl:(cleanB l p d).length=l.length:=by simp [cleanB]
 unfold RetBufs
 rw [hl]
 have H:=Lib.hid h
 have HR:=Lib.hid hr
 clear h hr hl
 go_enter Tryz.func67,Tryz.ntmps67
 go_wp2_with fail
 refine (bclone_any S _ l.length (flatB l) _ H.out.1 (flatB_one l) hn).mono ?_
 rintro e w1 ⟨v1,rfl,hown,hb1⟩
 have Hown:=Lib.hid hown
 have Hb1:=Lib.hid hb1
 obtain ⟨A1,cp1,rfl,hc1,hc2⟩:=ownB_slice hown
 clear hown hb1
 go_wp2_with fail
 refine (find_any (fun _=>True) l _ p _ (bufs_of_own (fun _ _=>trivial) Hown.out H.out.2) HR.out hn).mono ?_
 rintro e w2 ⟨rfl,hb2⟩
 have Ho2:=Lib.hid (own_below Hown.out hb2)
 have Hb2:=Lib.hid (Hb1.out.trans (hb2.mono Hb1.out.size))
 clear hb2
 cases hi:isB l p with
 |false =>
  go_wp2_with fail
  go_ret
  exact ⟨_,rfl,by rw [cleanB_no (fun b hb hp=>absurd hp (isB_false.1 hi b hb))]; exact Ho2.out,Hb2.out⟩
 |true =>
  obtain ⟨x,hx,hp⟩:=isB_at HR.out hi
  have hlt:=(List.getElem?_eq_some_iff.1 hx).1
  have hi1:((posB l p:Nat):Int)<(l.length:Int):=by omega
  obtain ⟨g,cp,e,hbg,hgl,_,_⟩:=own_pos Ho2.out (by omega)
  cases e
  obtain ⟨k0,k1,k2,k3⟩:=own_cells4 Ho2.out hx
  have hfr:=own_frozen Ho2.out (by omega)
  have Hx:=Lib.hid hx
  have Hp:=Lib.hid hp
  clear hx hp
  by_cases hd:x.data=d
  ·have ht:(x.data.toList == d.toList)=true:=by rw [hd]; exact beq_self_eq_true _
   have Hd:=Lib.hid hd
   clear hd
   go_wp2_with fail
   go_ret
   refine ⟨_,rfl,?_,Hb2.out.setCell hbg _⟩
   rw [cleanB_at HR.out Hx.out Hp.out Hd.out,← flatB_set1 (c:={ x with dirty:=false }) Hx.out 2 (by omega) (.bool false) rfl]
   exact ownB_setCell Ho2.out (by omega)
  ·have ht:(x.data.toList == d.toList)=false:=by simpa using bytes_ne hd
   have Hd:=Lib.hid hd
   clear hd
   go_wp2_with fail
   go_ret
   exact ⟨_,rfl,by rw [cleanB_other HR.out Hx.out Hp.out Hd.out]; exact Ho2.out,Hb2.out⟩
def upto (f:Bf→Bf) (l:List Bf) (k:Nat):List Bf:=(l.take k).map f ++ l.drop k
theorem upto_at {f:Bf→Bf} {l:List Bf} {k:Nat} {x:Bf} (hx:l[k]?=some x):(upto f l k)[k]?=some x:=by
 have hlt:=(List.getElem?_eq_some_iff.1 hx).1
 unfold upto
 rw [List.getElem?_append_right (by simp; exact Nat.min_le_left _ _),List.length_map,List.length_take,Nat.min_eq_left (by omega),Nat.sub_self,List.getElem?_drop,Nat.add_zero,hx]
theorem upto_succ {f:Bf→Bf} {l:List Bf} {k:Nat} {x:Bf} (hx:l[k]?=some x):upto f l (k+1)=(upto f l k).set k (f x):=by
 have hlt:=(List.getElem?_eq_some_iff.1 hx).1
 have hk:((l.take k).map f).length=k:=by rw [List.length_map,List.length_take]; omega
 unfold upto
 rw [List.take_add_one,hx,List.set_append,hk,if_neg (by omega),Nat.sub_self,List.map_append]
 obtain ⟨h,rfl⟩:=List.getElem?_eq_some_iff.1 hx
 have e:=List.drop_eq_getElem_cons h
 simp
 rw [e,List.set_cons_zero]
theorem upto_same {f:Bf→Bf} {l:List Bf} {k:Nat} {x:Bf} (hx:l[k]?=some x) (hf:f x=x):upto f l (k+1)=upto f l k:=by
 rw [upto_succ hx,hf]
 have:=upto_at (f:=f) hx
 obtain ⟨h,e⟩:=List.getElem?_eq_some_iff.1 this
 conv=>lhs; rw [← e]
 exact List.set_getElem_self h
theorem upto_zero (f:Bf→Bf) (l:List Bf):upto f l 0=l:=by simp [upto]
theorem upto_all (f:Bf→Bf) {l:List Bf} {k:Nat} (hk:l.length≤k):upto f l k=l.map f:=by unfold upto; rw [List.take_of_length_le hk,List.drop_eq_nil_of_le hk,List.append_nil]
theorem ruse_any (S:Nat→Prop) (l:List Bf) (v:Value) (p now:Int) (w:World) (h:BufsAt S w v l) (hn:l.length≤65536) :
  Calls Tryz.prog 120 #[v,.int .i64 p,.int .i64 now] w (RetBufs (useB l p now) w):=by
 obtain ⟨i0,hi0,hz0,hz1,hz2⟩:=info_parts bufInfo
 have hl:(useB l p now).length=l.length:=by simp [useB]
 unfold RetBufs
 rw [hl]
 obtain ⟨f,hf⟩:∃ f:Bf→Bf,(fun b=>if b.pos=p then { b with used:=now } else b)=f:=⟨_,rfl⟩
 have HF:Hid (∀ b,f b=if b.pos=p then { b with used:=now } else b):=fun b=>by rw [← hf]
 rw [show useB l p now=l.map f by rw [← hf]; rfl]
 have H:=Lib.hid h
 clear h hl hf
 obtain ⟨A,cap,rfl,h1,h2⟩:=H.out.form
 go_enter Tryz.func120,Tryz.ntmps120
 go_wp2_with (at_builtin; refine wpList_append_rd (S:=S) _ rfl (.const (.slice none 0 0)) (.tmp 9) _ rfl w.heap.size 111 i0 _ 4 40 Tryz.underlying74 hi0 hz0 hz1 hz2 rfl (by omega) (.slice none 0 0) 0 [] rfl (World.ownsRow_nil _ _ _ _) (.slice A l.length cap) l.length (flatB l) rfl H.out.1 (flatB_one l) (by simp only [maxLen]; omega) (by omega) (Nat.le_refl _) ?_; intro v1 w1 hown1 hg1 hat1)
 rw [Nat.zero_add,List.nil_append] at hown1
 have Hb1:Hid (Below w.heap.size w w1):=Below.grown (Below.refl _ _) hg1 (by simp) (fun k hk=>by simp [Value.ownBlock] at hk)
 obtain ⟨A1,cp1,rfl,hc1,hc2⟩:=ownB_slice hown1
 have Hown:=Lib.hid hown1
 clear hown1 hg1 hat1
 go_loopw [8] (fun i wr=>∃ k:Nat,k≤l.length∧i=.int .i64 k∧Hid (Below w.heap.size w wr)∧Hid (wr.ownsRow w.heap.size 111 4 (.slice A1 l.length cp1) l.length (flatB (upto f l k)))) (fun i _=>l.length - (intOf i).toNat)
 case atStart=>exact ⟨0,by omega,rfl,Hb1,by rw [upto_zero]; exact Hown⟩
 case round =>
  obtain ⟨k,hk,rfl,Hb,Ho⟩:=hrel
  by_cases hlt:k<l.length
  ·have hx:l[k]?=some l[k]:=List.getElem?_eq_getElem hlt
   have hi1:(k:Int)<(l.length:Int):=by omega
   obtain ⟨g,cp,e,hbg,hgl,_,_⟩:=own_pos Ho.out (by omega)
   cases e
   obtain ⟨k0,k1,k2,k3⟩:=own_cells4 Ho.out (upto_at hx)
   have hfr:=own_frozen Ho.out (by omega)
   have Hx:=Lib.hid hx
   clear hx
   generalize l[k]=x at *
   by_cases hp:x.pos=p
   ·have hfx:=Lib.hid (HF.out x)
    rw [if_pos hp] at hfx
    go_wp2_with fail
    go_roundw
    case rel=>exact ⟨k+1,by omega,by go_num,Hb.out.setCell hbg _,by
     rw [upto_succ Hx.out,hfx.out,← flatB_set1 (c:={ x with used:=now }) (upto_at Hx.out) 3 (by omega) (.int .i64 now) rfl]
     exact ownB_setCell Ho.out (by omega)⟩
    case measure=>simp [intOf]; omega
   ·have hfx:=Lib.hid (HF.out x)
    rw [if_neg hp] at hfx
    go_wp2_with fail
    go_roundw
    case rel=>exact ⟨k+1,by omega,by go_num,Hb,by rw [upto_same Hx.out hfx.out]; exact Ho⟩
    case measure=>simp [intOf]; omega
  ·have hi1:decide ((k:Int)<(l.length:Int))=false:=by simp; omega
   go_wp2
   go_ret
   exact ⟨_,rfl,by rw [← upto_all f (show l.length≤k by omega)]; exact Ho.out,Hb.out⟩
theorem rclean_any (S:Nat→Prop) (l:List Bf) (v:Value) (p:Int) (d:ByteArray) (w:World) (h:BufsAt S w v l) (hn:l.length≤65536) :
  Calls Tryz.prog 89 #[v,.int .i64 p,.string d] w (RetBufs (cleanB l p d) w):=by
 obtain ⟨i0,hi0,hz0,hz1,hz2⟩:=info_parts bufInfo
 have hl:(cleanB l p d).length=l.length:=by simp [cleanB]
 unfold RetBufs
 rw [hl]
 obtain ⟨f,hf⟩:∃ f:Bf→Bf,(fun b=>if b.pos=p∧b.data=d then { b with dirty:=false } else b)=f:=⟨_,rfl⟩
 have HF:Hid (∀ b,f b=if b.pos=p∧b.data=d then { b with dirty:=false } else b):=fun b=>by rw [← hf]
 rw [show cleanB l p d=l.map f by rw [← hf]; rfl]
 have H:=Lib.hid h
 clear h hl hf
 obtain ⟨A,cap,rfl,h1,h2⟩:=H.out.form
 go_enter Tryz.func89,Tryz.ntmps89
 go_wp2_with (at_builtin; refine wpList_append_rd (S:=S) _ rfl (.const (.slice none 0 0)) (.tmp 9) _ rfl w.heap.size 111 i0 _ 4 40 Tryz.underlying74 hi0 hz0 hz1 hz2 rfl (by omega) (.slice none 0 0) 0 [] rfl (World.ownsRow_nil _ _ _ _) (.slice A l.length cap) l.length (flatB l) rfl H.out.1 (flatB_one l) (by simp only [maxLen]; omega) (by omega) (Nat.le_refl _) ?_; intro v1 w1 hown1 hg1 hat1)
 rw [Nat.zero_add,List.nil_append] at hown1
 have Hb1:Hid (Below w.heap.size w w1):=Below.grown (Below.refl _ _) hg1 (by simp) (fun k hk=>by simp [Value.ownBlock] at hk)
 obtain ⟨A1,cp1,rfl,hc1,hc2⟩:=ownB_slice hown1
 have Hown:=Lib.hid hown1
 clear hown1 hg1 hat1
 go_loopw [8] (fun i wr=>∃ k:Nat,k≤l.length∧i=.int .i64 k∧Hid (Below w.heap.size w wr)∧Hid (wr.ownsRow w.heap.size 111 4 (.slice A1 l.length cp1) l.length (flatB (upto f l k)))) (fun i _=>l.length - (intOf i).toNat)
 case atStart=>exact ⟨0,by omega,rfl,Hb1,by rw [upto_zero]; exact Hown⟩
 case round =>
  obtain ⟨k,hk,rfl,Hb,Ho⟩:=hrel
  by_cases hlt:k<l.length
  ·have hx:l[k]?=some l[k]:=List.getElem?_eq_getElem hlt
   have hi1:(k:Int)<(l.length:Int):=by omega
   obtain ⟨g,cp,e,hbg,hgl,_,_⟩:=own_pos Ho.out (by omega)
   cases e
   obtain ⟨k0,k1,k2,k3⟩:=own_cells4 Ho.out (upto_at hx)
   have hfr:=own_frozen Ho.out (by omega)
   have Hx:=Lib.hid hx
   clear hx
   generalize l[k]=x at *
   by_cases hp:x.pos=p
   ·by_cases hd:x.data=d
    ·have ht:(x.data.toList == d.toList)=true:=by rw [hd]; exact beq_self_eq_true _
     have hfx:=Lib.hid (HF.out x)
     rw [if_pos ⟨hp,hd⟩] at hfx
     clear hd
     go_wp2_with fail
     go_roundw
     case rel=>exact ⟨k+1,by omega,by go_num,Hb.out.setCell hbg _,by
      rw [upto_succ Hx.out,hfx.out,← flatB_set1 (c:={ x with dirty:=false }) (upto_at Hx.out) 2 (by omega) (.bool false) rfl]
      exact ownB_setCell Ho.out (by omega)⟩
     case measure=>simp [intOf]; omega
    ·have ht:(x.data.toList == d.toList)=false:=by simpa using bytes_ne hd
     have hfx:=Lib.hid (HF.out x)
     rw [if_neg (fun e=>hd e.2)] at hfx
     clear hd
     go_wp2_with fail
     go_roundw
     case rel=>exact ⟨k+1,by omega,by go_num,Hb,by rw [upto_same Hx.out hfx.out]; exact Ho⟩
     case measure=>simp [intOf]; omega
   ·have hfx:=Lib.hid (HF.out x)
    rw [if_neg (fun e=>hp e.1)] at hfx
    have hp2:decide (x.pos=p)=false:=decide_eq_false hp
    go_wp2_with fail
    go_roundw
    case rel=>exact ⟨k+1,by omega,by go_num,Hb,by rw [upto_same Hx.out hfx.out]; exact Ho⟩
    case measure=>simp [intOf]; omega
  ·have hi1:decide ((k:Int)<(l.length:Int))=false:=by simp; omega
   go_wp2
   go_ret
   exact ⟨_,rfl,by rw [← upto_all f (show l.length≤k by omega)]; exact Ho.out,Hb.out⟩
end Go.Proofs.YtaeadmlgffaegaaGreatDoor
namespace Go.Proofs.YtaeadmlgffaegaaGreatDoor
open Go
section
variable {P:Program}
def argsOf (f:Tmp→Value) (o:Oper):List Value:=(tmpsOf o).map f
theorem argsOf_same {f g:Tmp→Value} {o:Oper} (h:∀ d,d ∈ tmpsOf o→f d=g d):argsOf f o=argsOf g o:=by
 unfold argsOf
 exact List.map_congr_left h
theorem argsOf_store {f:Tmp→Value} {o:Oper} {T:TypeId} {p q:Tmp} (h:o.op=Op.store T (.tmp p) (.tmp q)):argsOf f o=[f p,f q]:=by
 unfold argsOf tmpsOf
 rw [h]
 rfl
def StepEv (P:Program) (G:Tmp→SlotFact) (J:World→Prop) (R:World→World→Prop) (Ev:Nat→List Value→World→Prop) (i:Nat) (o:Oper):Prop :=
 ∀ ρ w,Plain ρ→J w→Reads G ρ w (tmpsOf o)→OpGives P o ρ w (fun v w'=>GD G o.dst v w'∧J w'∧R w w'∧Ev i (argsOf (fun d=>ρ (.tmp d)) o) w')
def StepsEv (P:Program) (G:Tmp→SlotFact) (J:World→Prop) (R:World→World→Prop) (Ev:Nat→List Value→World→Prop):Nat→List Oper→Prop
 |_,[]=>True
 |i,o :: os=>StepEv P G J R Ev i o∧StepsEv P G J R Ev (i+1) os
theorem steps_at_ev {G:Tmp→SlotFact} {J:World→Prop} {R:World→World→Prop} {Ev:Nat→List Value→World→Prop}:∀ {ops:List Oper} {k:Nat},StepsEv P G J R Ev k ops→∀ {i:Nat} {o:Oper},ops[i]?=some o→StepEv P G J R Ev (k+i) o
 | [],_,_,i,o,h=>by simp at h
 |o' :: os,k,hs,0,o,h=>by simp at h; subst h; exact hs.1
 |o' :: os,k,hs,i+1,o,h=>by
  have:=steps_at_ev hs.2 (i:=i) (o:=o) (by simpa using h)
  rwa [show k+1+i=k+(i+1) by omega] at this
theorem wp_region_ev {id:Nat} {ops:List Oper} {Q:Exit→Act→World→Prop} {a:Act} {w:World} (hm:P.follows .mixedOrders=true) (Gs:List (Tmp × SlotFact)) (J:World→Prop) (R:World→World→Prop) (Ev:Nat→List Value→World→Prop)
  (hB:regB a.tmps.size ops=true) (hGs:Gs.map (·.1)=dstsOf ops) (hnd:(dstsOf ops).Nodup) (hJ:J w.drew) (hst:StableAll R Gs) (hev:∀ k vs w w',Ev k vs w→R w w'→Ev k vs w') (hsteps:StepsEv P (slotG Gs a) J R Ev 0 ops)
  (hfin:∀ f w',FinFacts f w' Gs→J w'→(∀ d,d ∉ dstsOf ops→f d=a.eval (.tmp d))→(∀ k o,ops[k]?=some o→Ev k (argsOf f o) w')→Q .normal (laid f ops a) w'):(Code.region id ops.toArray true).wp P Q a w:=by
 have hR:=regB_ok hB
 have hget:∀ j:Nat,ops.toArray[j]?=ops[j]?:=fun j=>by simp
 have main:∀ (fuel:Nat) (listed:Array Bool) (b:Act) (w:World),listed.size=ops.length→((List.range ops.length).filter (fun j=>!listed.getD j true)).length≤fuel→J w→b.defers=a.defers→b.tmps.size=a.tmps.size →
   (∀ d,(∀ j o,ops[j]?=some o→o.dst=some d→listed.getD j false=true)→slotG Gs a d (b.eval (.tmp d)) w)→(∀ d,d ∉ dstsOf ops→b.tmps[d]?=a.tmps[d]?)→(∀ k o,ops[k]?=some o→listed.getD k false=true→∀ e ∈ o.after,Region.binds .any e=true→listed.getD e.on false=true)→(∀ k o,ops[k]?=some o→listed.getD k false=true→Ev k (argsOf (fun d=>b.eval (.tmp d)) o) w)→wpAny P .any ops.toArray Q fuel listed b w:=by
  have fin:∀ (listed:Array Bool) (b:Act) (w:World),(∀ j,j<ops.length→listed.getD j false=true)→J w→b.defers=a.defers→b.tmps.size=a.tmps.size →
    (∀ d,(∀ j o,ops[j]?=some o→o.dst=some d→listed.getD j false=true)→slotG Gs a d (b.eval (.tmp d)) w)→(∀ d,d ∉ dstsOf ops→b.tmps[d]?=a.tmps[d]?)→(∀ k o,ops[k]?=some o→listed.getD k false=true→Ev k (argsOf (fun d=>b.eval (.tmp d)) o) w)→Q .normal b w:=by
   intro listed b w hall hj hd1 hd2 hG hU hE
   have hf:=hfin (fun d=>b.eval (.tmp d)) w (slotG_fin (a:=a) (by rw [hGs]; exact hnd) (fun d _=>hG d (fun j o hjo _=>hall j (by
    rcases Nat.lt_or_ge j ops.length with h | h
    ·exact h
    ·rw [List.getElem?_eq_none h] at hjo; cases hjo)))) hj (fun d hd=>by simp [Act.eval,hU d hd]) (fun k o hko=>hE k o hko (hall k (by
    rcases Nat.lt_or_ge k ops.length with h | h
    ·exact h
    ·rw [List.getElem?_eq_none h] at hko; cases hko)))
   rw [laid_eq (a:=b) (fun d hl=>by simp [Act.eval,hl]) ops a hd1.symm hd2.symm (fun d hl=>by
    by_cases hm:d ∈ dstsOf ops
    ·exact .inr hm
    ·exact .inl (hU d hm).symm)] at hf
   exact hf
  intro fuel
  induction fuel with
  |zero =>
   intro listed b w hsz hcnt hj hd1 hd2 hG hU hC hE
   have hall:∀ j,j<ops.length→listed.getD j false=true:=by
    intro j hjl
    have h0:(List.range ops.length).filter (fun j=>!listed.getD j true)=[]:=List.eq_nil_of_length_eq_zero (by omega)
    have:=List.filter_eq_nil_iff.1 h0 j (List.mem_range.2 hjl)
    simp only [Array.getD,hsz,hjl,dite_true] at this ⊢
    simpa using this
   refine ⟨?_,fin listed b w hall hj hd1 hd2 hG hU hE⟩
   rw [List.eq_nil_iff_forall_not_mem]
   intro j hjr
   obtain ⟨h1,o,ho,_⟩:=mem_ready.1 hjr
   rw [hget] at ho
   have hjl:j<ops.length:=by
    rcases Nat.lt_or_ge j ops.length with h | h
    ·exact h
    ·rw [List.getElem?_eq_none h] at ho; cases ho
   have h2:=hall j hjl
   simp only [Array.getD,hsz,hjl,dite_true] at h1 h2
   rw [h1] at h2; cases h2
  |succ fuel ih =>
   intro listed b w hsz hcnt hj hd1 hd2 hG hU hC hE
   refine ⟨fun hr=>?_,fun i hi=>?_⟩
   ·refine fin listed b w (fun j hjl=>?_) hj hd1 hd2 hG hU hE
    induction j using Nat.strongRecOn with
    |_ j ihj =>
     cases hl:listed.getD j false with
     |true=>rfl
     |false =>
      exfalso
      have hmem:j ∈ Region.ready .any ops.toArray listed:=by
       refine mem_ready.2 ⟨?_,ops[j],by rw [hget]; exact List.getElem?_eq_getElem hjl,fun e he hb=>?_⟩
       ·simp only [Array.getD,hsz,hjl,dite_true] at hl ⊢
        exact hl
       ·have ho:=hR.order j _ e (List.getElem?_eq_getElem hjl) he hb
        exact ihj e.on ho (by omega)
      rw [hr] at hmem; cases hmem
   ·obtain ⟨hun,o,ho,hdone⟩:=mem_ready.1 hi
    have ho':=ho
    rw [hget] at ho'
    have hil:i<ops.length:=by
     rcases Nat.lt_or_ge i ops.length with h | h
     ·exact h
     ·rw [List.getElem?_eq_none h] at ho'; cases ho'
    unfold wpOp
    simp only [ho]
    have hw:Region.wanted o (yielded ops.toArray b.tmps)=true:=by simp [Region.wanted,hR.guard i o ho']
    rw [if_pos hw]
    left
    have hstep:=steps_at_ev hsteps ho' b.eval w ⟨fun _=>rfl,fun _=>rfl,fun _=>rfl⟩ hj (reads_of fun d hd=>hG d fun j oj hoj hdj=>by
     obtain ⟨e,he,hb,rfl⟩:=hR.waits i o j oj d ho' hoj hdj hd
     exact hdone e he hb)
    rw [Nat.zero_add] at hstep
    refine wp_of_gives hstep fun v w' ⟨hv,hj',hr',hev'⟩=>?_
    have hcnt':((List.range ops.length).filter (fun j=>!(listed.setIfInBounds i true).getD j true)).length≤fuel:=by
     have hlt:((List.range ops.length).filter (fun j=>!(listed.setIfInBounds i true).getD j true)).length<((List.range ops.length).filter (fun j=>!listed.getD j true)).length:=by
      have e:(List.range ops.length).filter (fun j=>!(listed.setIfInBounds i true).getD j true)=((List.range ops.length).filter (fun j=>!listed.getD j true)).filter (fun j=>j != i):=by
       rw [List.filter_filter]
       apply List.filter_congr
       intro j hj
       by_cases hji:j=i
       ·subst hji
        have:(listed.setIfInBounds j true).getD j true=true:=by simp [Array.getD,hsz,hil]
        rw [this]; simp
       ·rw [getD_set_ne true (Ne.symm hji)]
        simp [hji]
      rw [e]
      apply List.length_filter_lt_length_iff_exists.2
      exact ⟨i,List.mem_filter.2 ⟨List.mem_range.2 hil,by simpa using hun⟩,by simp⟩
     omega
    refine ih (listed.setIfInBounds i true) _ w' (by simpa using hsz) hcnt' hj' ?_ ?_ (fun d hd=>?_) (fun d hd=>?_) (fun k ok hok hk e he hb=>?_) (fun k ok hok hk=>?_)
    ·unfold Act.put; split <;> exact hd1
    ·unfold Act.put; split <;> simpa using hd2
    ·by_cases hod:o.dst=some d
     ·rw [hod] at hv
      have hdn:=hR.dst i o d ho' hod
      have:(b.put o.dst v).eval (.tmp d)=v:=by
       rw [hod]
       simp [Act.put,Act.eval,hd2,hdn]
      rw [this]
      exact hv
     ·have:(b.put o.dst v).eval (.tmp d)=b.eval (.tmp d):=Act.eval_put (fun e he=>by
       intro hh
       injection hh with hh
       exact hod (by rw [he,hh]))
      rw [this]
      refine slotG_stable hst (hG d fun j oj hoj hdj=>?_) hr'
      have h3:=hd j oj hoj hdj
      by_cases hji:j=i
      ·subst hji
       rw [ho'] at hoj
       cases hoj
       exact absurd hdj hod
      ·rwa [getD_set_ne false (Ne.symm hji)] at h3
    ·have hne:o.dst≠some d:=fun h=>hd (List.mem_filterMap.2 ⟨o,List.mem_of_getElem? ho',h⟩)
     have hU':=hU d hd
     unfold Act.put
     split
     ·rename_i e he
      simp only
      rw [Array.getElem?_setIfInBounds_ne (fun h=>hne (by rw [he,h]))]
      exact hU'
     ·exact hU'
    ·by_cases hei:e.on=i
     ·rw [hei]
      simp [Array.getD,hsz,hil]
     ·rw [getD_set_ne false (Ne.symm hei)]
      by_cases hki:k=i
      ·subst hki
       rw [ho'] at hok
       cases hok
       exact hdone e he hb
      ·rw [getD_set_ne false (Ne.symm hki)] at hk
       exact hC k ok hok hk e he hb
    ·by_cases hki:k=i
     ·subst hki
      rw [ho'] at hok
      cases hok
      rw [argsOf_same (f:=fun d=>(b.put o.dst v).eval (.tmp d)) (g:=fun d=>b.eval (.tmp d)) (fun d hd=>?_)]
      ·exact hev'
      ·refine Act.eval_put (fun e he hh=>?_)
       injection hh with hh
       subst hh
       obtain ⟨e',h1,h2,h3⟩:=hR.waits k o k o d ho' ho' he hd
       have:=hR.order k o e' ho' h1 h2
       omega
     ·rw [getD_set_ne false (Ne.symm hki)] at hk
      rw [argsOf_same (f:=fun d=>(b.put o.dst v).eval (.tmp d)) (g:=fun d=>b.eval (.tmp d)) (fun d hd=>?_)]
      ·exact hev k _ _ _ (hE k ok hok hk) hr'
      ·refine Act.eval_put (fun e he hh=>?_)
       injection hh with hh
       subst hh
       obtain ⟨e',h1,h2,h3⟩:=hR.waits k ok i o d hok ho' he hd
       have h4:=hC k ok hok hk e' h1 h2
       rw [h3] at h4
       simp only [Array.getD,hsz,hil,dite_true] at hun h4
       rw [hun] at h4
       cases h4
 refine wp_region_any hm ?_
 refine main _ _ _ _ (by simp) ?_ hJ rfl rfl (fun d hd=>?_) (fun _ _=>rfl) (fun k ok _ hk=>?_) (fun k ok _ hk=>?_)
 ·have:=List.length_filter_le (fun j=>!(Array.replicate ops.toArray.size false).getD j true) (List.range ops.length)
  simpa using this
 ·have:d ∉ Gs.map (·.1):=by
   rw [hGs]
   intro hm
   obtain ⟨o,ho,hdo⟩:=List.mem_filterMap.1 hm
   obtain ⟨j,hj⟩:=List.mem_iff_getElem?.1 ho
   have:=hd j o hj hdo
   simp at this
   rw [Array.getElem?_replicate] at this
   split at this <;> simp at this
  rw [slotG_none this]
 ·exfalso
  simp at hk
  rw [Array.getElem?_replicate] at hk
  split at hk <;> simp at hk
 ·exfalso
  simp at hk
  rw [Array.getElem?_replicate] at hk
  split at hk <;> simp at hk
end
end Go.Proofs.YtaeadmlgffaegaaGreatDoor
namespace Go.Proofs.YtaeadmlgffaegaaGreatDoor
open Go.RowKit
def BxR (T:TypeId) (m k:Nat) (u:World):Prop:=∃ cs:Array Value,cs.size=m∧u.heap[k]?=some (.cells cs T (0,0))
structure BR (T:TypeId) (F:Array Value) (base:Nat) (u u':World):Prop where
 size:u.heap.size≤u'.heap.size
 keep:∀ k,k<u.heap.size→u'.heap[k]?=u.heap[k]?∨(base≤k∧BxR T F.size k u∧u'.heap[k]?=some (.cells F T (0,0)))
section
variable {T:TypeId} {F:Array Value} {base:Nat} {u u':World} {v:Value}
theorem BR.refl (u:World):BR T F base u u:=⟨Nat.le_refl _,fun _ _=>.inl rfl⟩
theorem BR.below (hb:Below u.heap.size u u'):BR T F base u u':=⟨hb.size,fun k hk=>.inl (hb.block k hk)⟩
theorem BxR.lt {m k:Nat} (h:BxR T m k u):k<u.heap.size:=by
 obtain ⟨_,_,h⟩:=h
 rcases Nat.lt_or_ge k u.heap.size with h1 | h1
 ·exact h1
 ·rw [Array.getElem?_eq_none h1] at h; cases h
theorem BxR.step {k:Nat} (h:BxR T F.size k u) (hr:BR T F base u u'):BxR T F.size k u':=by
 rcases hr.keep k h.lt with h1 | ⟨_,_,h2⟩
 ·obtain ⟨cs,hs,h⟩:=h
  exact ⟨cs,hs,h1.trans h⟩
 ·exact ⟨F,rfl,h2⟩
def BxF (T:TypeId) (F:Array Value) (base:Nat):SlotFact:=fun v u=>∃ b,v=.pointer (some ⟨b,0,none⟩)∧base≤b∧BxR T F.size b u
theorem BxF.step (h:BxF T F base v u) (hr:BR T F base u u'):BxF T F base v u':=by
 obtain ⟨b,e,h1,h2⟩:=h
 exact ⟨b,e,h1,h2.step hr⟩
def BxE (T:TypeId) (F:Array Value) (i:Nat) (k:Nat) (vs:List Value) (u:World):Prop:=k=i→∀ b,vs.head?=some (.pointer (some ⟨b,0,none⟩))→u.heap[b]?=some (.cells F T (0,0))
theorem BxE.step {i k:Nat} {vs:List Value} (h:BxE T F i k vs u) (hr:BR T F base u u'):BxE T F i k vs u':=fun hk b hb=>by
 have h1:=h hk b hb
 have hl:b<u.heap.size:=(Array.getElem?_eq_some_iff.1 h1).1
 rcases hr.keep b hl with h2 | ⟨_,_,h2⟩
 ·exact h2.trans h1
 ·exact h2
theorem BxE.at {i:Nat} {ρ:Operand→Value} {op:Oper} {T':TypeId} {p q:Tmp} {bb:Nat} (e1:ρ (.tmp p)=.pointer (some ⟨bb,0,none⟩)) (h:op.op=Op.store T' (.tmp p) (.tmp q)) (g:u.heap[bb]?=some (.cells F T (0,0))):BxE T F i i (argsOf (fun d=>ρ (.tmp d)) op) u:=by
 intro _ b hb
 rw [argsOf_store h] at hb
 simp only [List.head?_cons,Option.some.injEq] at hb
 rw [e1] at hb
 simp only [Value.pointer.injEq,Option.some.injEq,Addr.mk.injEq] at hb
 rw [← hb.1]
 exact g
theorem bx4 {b:Nat} (h:BxR T 4 b u):∃ z0 z1 z2 z3,u.heap[b]?=some (.cells #[z0,z1,z2,z3] T (0,0)):=by
 obtain ⟨⟨l⟩,hs,h⟩:=h
 match l,hs with
 | [z0,z1,z2,z3],_=>exact ⟨z0,z1,z2,z3,h⟩
theorem bx_put4 {b:Nat} {v0 v1 v2 v3:Value} (hbase:base≤b) (hx:BxR T 4 b u) (u':World) (hu:u'=(((u.setCell ⟨b,0,none⟩ v0).setCell ⟨b,1,none⟩ v1).setCell ⟨b,2,none⟩ v2).setCell ⟨b,3,none⟩ v3) :
  BR T #[v0,v1,v2,v3] base u u'∧u'.heap[b]?=some (.cells #[v0,v1,v2,v3] T (0,0))∧Below base u u':=by
 obtain ⟨z0,z1,z2,z3,hz⟩:=bx4 hx
 have k0:=heap_setCell_same _ _ 0 _ _ v0 hz
 have k1:=heap_setCell_same _ _ 1 _ _ v1 k0
 have k2:=heap_setCell_same _ _ 2 _ _ v2 k1
 have k3:=heap_setCell_same _ _ 3 _ _ v3 k2
 rw [← hu] at k3
 have hko:∀ j,j≠b→u'.heap[j]?=u.heap[j]?:=by
  intro j hj
  rw [hu]
  repeat (rw [heap_setCell_other _ _ j _ (by simpa using hj)])
 have hsz:u'.heap.size=u.heap.size:=by rw [hu]; simp
 refine ⟨⟨by omega,fun k _=>?_⟩,k3,?_⟩
 ·by_cases hk:k=b
  ·subst hk; exact .inr ⟨hbase,hx,k3⟩
  ·exact .inl (hko k hk)
 ·rw [hu]
  exact ((((Below.refl _ _).setCell hbase _).setCell hbase _).setCell hbase _).setCell hbase _
end
end Go.Proofs.YtaeadmlgffaegaaGreatDoor
