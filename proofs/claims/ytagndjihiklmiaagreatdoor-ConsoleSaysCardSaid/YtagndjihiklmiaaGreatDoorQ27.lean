/- The pump: Round, Settle. -/
import Derived.Test.YtagndjihiklmiaaGreatDoorQ26
import Derived.Laws.Rows
set_option linter.unusedSimpArgs false
set_option linter.unusedVariables false
set_option maxRecDepth 100000
set_option maxHeartbeats 8000000
namespace Go.Proofs.YtagndjihiklmiaaGreatDoor
open Go.RowKit Go.Sort
def goN (s:St):Nat→St
 |0=>s
 |n+1=>(goN s n).dispatch.1
theorem Inv.goN {s:St} (h:Inv s):∀ n,Inv (Go.Proofs.YtagndjihiklmiaaGreatDoor.goN s n)
 |0=>h
 |n+1=>(Inv.goN h n).dispatch
theorem Bd.goN {K:Int} {s:St} (h:Bd K s):∀ n,Bd K (Go.Proofs.YtagndjihiklmiaaGreatDoor.goN s n)
 |0=>h
 |n+1=>(Bd.goN h n).dispatch
theorem dispatch_false {s:St} (h:s.dispatch.2=false):s.dispatch.1=s:=by
 unfold St.dispatch at *
 split at h
 ·rename_i hn; rw [if_pos hn]
 ·cases h
theorem dispatch_len {s:St} (h:Inv s) (hd:s.dispatch.2=true):s.dispatch.1.v.d.l.length=s.v.d.l.length+1:=by
 by_cases hn:s.wait=[]∨2≤s.v.d.l.length
 ·rw [Inv.dispatch_no hn] at hd; cases hd
 ·simp only [not_or] at hn
  obtain ⟨j,r,t',hx,e⟩:=h.dispatched hn.1 (by omega);rw [e];show (s.v.d.l ++ [r]).length=_;simp
theorem goN_end {s:St} (h:Inv s) {n:Nat} (hn:∀ j,j<n→(goN s j).dispatch.2=true) (he:(goN s n).dispatch.2=false):goN s n=s.go:=by
 have hl:∀ j,j≤n→(goN s j).v.d.l.length=s.v.d.l.length+j:=by
  intro j
  induction j with
  |zero=>intro _; rfl
  |succ j ih =>
   intro hj;rw [goN,dispatch_len (h.goN j) (hn j (by omega)),ih (by omega)];omega
 have h2:n≤2:=by have:=hl n (Nat.le_refl _); have:=(h.goN n).dv.two; omega
 have hs:=dispatch_false he
 match n,h2 with
 |0,_ =>
  show s=s.dispatch.1.dispatch.1;have e:s.dispatch.1=s:=hs;rw [e,e]
 |1,_ =>
  show s.dispatch.1=s.dispatch.1.dispatch.1;exact hs.symm
 |2,_=>rfl
theorem Ret5.after {T:Tys} {col col':Nat→Nat} {w w1 w':World} {b bd N:Nat} {t:St} {v:Value} {e:Ending} (hr:Ret5 T col' w1 b bd N t v e w') (hc:Chg (Fl col) w w1) (hrec:Rec col col' w w1):Ret5 T col w b bd N t v e w':=by
 obtain ⟨c2,z,h1,h2,h3,h4⟩:=hr;exact ⟨c2,z,h1,h2,hc.recol h3 hrec.grow,hrec.trans h4 hc.size⟩
theorem StAt.moreN {T:Tys} {col:Nat→Nat} {w:World} {b bd N M:Nat} {x:Sv} {s:St} (h:StAt T col w b bd N x s) (hm:N≤M):StAt T col w b bd M x s :=
 ⟨h.row,h.drv,Nat.le_trans h.n hm,h.bufs,h.wait,h.asks,h.ask,h.done,h.errs,h.cb,h.cv,h.ct,h.lt⟩
def roomAt (bd:Nat) (w:World):Nat:=match w.cell? ⟨bd,65,none⟩ with
 |some (.slice _ n _)=>3 - n
 |_=>0
theorem StAt.room {T:Tys} {col:Nat→Nat} {w:World} {b bd N:Nat} {x:Sv} {s:St} (h:StAt T col w b bd N x s):roomAt bd w=3 - s.v.d.l.length:=by
 obtain ⟨_,h1,h2,wv,lv,cs,hrow,hw,hl,hcs,hok⟩:=h.drv.dev;obtain ⟨A,cap,rfl,_,_⟩:=hl.form;unfold roomAt;rw [cell_of_row _ _ 65 _ _ _ hrow];have:=devCells_at_l s.v.d wv (.slice A cs.length cap) h1 h2;rw [List.getElem?_toArray,this];simp only;rw [← hcs,List.length_map]
theorem round_any (col:Nat→Nat) (w:World) (b bd N:Nat) (x:Sv) (s:St) (K:Int) (h:StAt Ts col w b bd N x s) (hI:Inv s) (hB:Bd K s) (h0:0≤K) (hK:K≤600000000) (hN:N≤900000000) :
  Calls Tryz.prog 49 #[.pointer (some ⟨b,0,none⟩)] w (Ret5 Ts col w b bd (N+1) s.round (.tuple #[])):=by
 have H:=Lib.hid h;have HI:=Lib.hid hI;have HB:=Lib.hid hB;clear h hI hB;go_enter Tryz.func49,Tryz.ntmps49;go_wp2_with fail;refine (tick_any col w b bd N x s K H.out HI.out HB.out h0 (by omega)).mono ?_;rintro e w1 ⟨y1,rfl,hst1,hc1,_⟩;have Hst1:=Lib.hid hst1;have HC1:=Lib.hid hc1;have HI1:=Lib.hid HI.out.tick;have HB1:=Lib.hid (HB.out.tick h0);clear hst1 hc1;go_wp2_with fail;refine (clean_st col w1 b bd N y1 s.tick Hst1.out HI1.out ⟨by have:=HB1.out.use; omega,by have:=HB1.out.tag; omega⟩).mono ?_;rintro e w2 ⟨y2,rfl,hst2,hc2,_⟩;have Hst2:=Lib.hid hst2;have HC2:=Lib.hid (HC1.out.two (Hst1.out.chg1 hc2));have HI2:=Lib.hid HI1.out.clean;have HB2:=Lib.hid HB1.out.clean;clear hst2 hc2;go_wp2_with fail;go_loopw [] (fun wr=>∃ (k:Nat) (col':Nat→Nat) (y:Sv),Hid (StAt Ts col' wr b bd N y (goN s.tick.clean.1 k))∧Hid (Chg (Fl col) w wr)∧Hid (Rec col col' w wr)∧Hid (∀ j,j<k→(goN s.tick.clean.1 j).dispatch.2=true)) (fun wr=>roomAt bd wr)
 case atStart=>exact ⟨0,col,y2,Hst2.out,HC2.out,.refl,fun j hj=>by omega⟩
 case round =>
  obtain ⟨k,col',y,HS,HC,HR,HD⟩:=hrel;have HIk:=Lib.hid (HI2.out.goN k);have HBk:=Lib.hid (HB2.out.goN k);go_wp2_with fail;refine (dispatch_any col' wr b bd N y _ HS.out HIk.out).mono ?_;rintro e w3 ⟨c3,y3,rfl,hst3,hc3,hr3⟩;have HC3:=Lib.hid (HC.out.recol hc3 HR.out.grow);have HR3:=Lib.hid (HR.out.trans hr3 HC.out.size)
  cases hd:(goN s.tick.clean.1 k).dispatch.2 with
  |true =>
   have Hst3:Hid (StAt Ts c3 w3 b bd N y3 (goN s.tick.clean.1 (k+1))):=hst3
   have HD3:Hid (∀ j,j<k+1→(goN s.tick.clean.1 j).dispatch.2=true):=fun j hj=>by
    rcases Nat.lt_or_ge j k with h | h
    ·exact HD.out j h
    ·obtain rfl:j=k:=by omega
     exact hd
   have Hm:Hid (roomAt bd w3<roomAt bd wr):=show _<_ by
    rw [Hst3.out.room,HS.out.room];have h1:=dispatch_len HIk.out hd;have h2:=(HI2.out.goN (k+1)).dv.two;show 3 - (goN s.tick.clean.1 k).dispatch.1.v.d.l.length<_;have h2':(goN s.tick.clean.1 k).dispatch.1.v.d.l.length≤2:=h2;omega
   clear hd hst3 hc3 hr3;go_wp2_with fail;go_roundw
   case rel=>exact ⟨k+1,c3,y3,Hst3.out,HC3.out,HR3.out,HD3.out⟩
   case measure=>exact Hm.out
  |false =>
   have He:=Lib.hid (goN_end HI2.out HD.out hd);have hst4:=hst3;rw [dispatch_false hd,He.out] at hst4;have Hst4:=Lib.hid hst4;have HI4:=Lib.hid (HI2.out.go);have HB4:Hid (Bd (K+3+1) s.tick.clean.1.go):=He.out▸HBk.out;clear hd hst3 hc3 hr3 hst4;go_wp2_with fail;refine (end_any c3 w3 b bd N y3 s.tick.clean.1.go 0 false (K+3+1) Hst4.out HI4.out HB4.out (by omega) (by omega) hN).mono ?_;rintro e w4 hr4;have Hr4:=Lib.hid (Ret5.after hr4 HC3.out HR3.out);obtain ⟨c4,y4,rfl,_⟩:=hr4;go_wp2_with fail;go_end0;obtain ⟨c5,y5,_,h5,h6,h7⟩:=Hr4.out;exact ⟨c5,y5,rfl,h5,h6,h7⟩
theorem settle_quiet {s:St} (h:s.quiet=true):∀ n,St.settle n s=(s,0)
 |0=>rfl
 |n+1=>by unfold St.settle; rw [if_pos h]
theorem settle_step {s:St} (h:s.quiet=false) (n:Nat):St.settle (n+1) s=((St.settle n s.round).1,(St.settle n s.round).2+1):=by
 rw [St.settle,if_neg (by rw [h]; decide)]
theorem settle_any (col:Nat→Nat) (w:World) (b bd N:Nat) (x:Sv) (s:St) (K:Int) (most:Nat) (h:StAt Ts col w b bd N x s) (hI:Inv s) (hB:Bd K s) (h0:0≤K) (hK:K+15 * most≤600000000) (hN:N+most≤900000000) (hm:most≤1000000) :
  Calls Tryz.prog 50 #[.pointer (some ⟨b,0,none⟩),.int .i64 (most:Int)] w (Ret5 Ts col w b bd (N+most) (St.settle most s).1 (.tuple #[.int .i64 ((St.settle most s).2:Nat),.bool (St.settle most s).1.quiet])):=by
 have H:=Lib.hid h;have HI:=Lib.hid hI;have HB:=Lib.hid hB;clear h hI hB;go_enter Tryz.func50,Tryz.ntmps50;go_wp2_with fail;go_loopw [6] (fun i wr=>∃ (k:Nat) (col':Nat→Nat) (y:Sv) (t:St),k≤most∧i=.int .i64 k∧Hid (StAt Ts col' wr b bd (N+k) y t)∧Hid (Chg (Fl col) w wr)∧Hid (Rec col col' w wr)∧Hid (Inv t)∧Hid (Bd (K+15 * k) t)∧Hid (St.settle most s=((St.settle (most - k) t).1,(St.settle (most - k) t).2+k))) (fun i _=>most - (intOf i).toNat)
 case atStart=>exact ⟨0,col,x,s,by omega,rfl,H.out,Chg.refl,.refl,HI.out,HB.out.mono (by omega),rfl⟩
 case round =>
  obtain ⟨k,col',y,t,hk,rfl,HS,HC,HR,HIt,HBt,HE⟩:=hrel;go_wp2_with fail;refine (quiet_any col' wr b bd (N+k) y t HS.out HIt.out).mono ?_;rintro e w1 ⟨rfl,hb1⟩;have HB1:=Lib.hid hb1;have HS1:=Lib.hid (HS.out.below hb1);have HC1:=Lib.hid (HC.out.two (Chg.of_below hb1));clear hb1;by_cases hq:t.quiet=true
  ·have HX:Hid (St.settle most s=(t,k)):=show _=_ by rw [HE.out,settle_quiet hq]; simp
   have Hq:=Lib.hid hq;rw [hq];clear hq;go_wp2_with fail;refine (quiet_any col' w1 b bd (N+k) y t HS1.out HIt.out).mono ?_;rintro e w2 ⟨rfl,hb2⟩;have HB2:=Lib.hid hb2;clear hb2;go_wp2_with fail;go_ret2;rw [HX.out];exact ⟨col',y,rfl,(HS1.out.below HB2.out).moreN (by omega),HC1.out.two (Chg.of_below HB2.out),HR.out.old,HR.out.grow⟩
  ·have hq':t.quiet=false:=by simpa using hq
   rw [hq'];by_cases hlt:k<most
   ·have hlt2:(k:Int)<(most:Int):=by omega
    have hkk:(k:Int)<1000000:=by omega
    have HX:Hid (St.settle most s=((St.settle (most - (k+1)) t.round).1,(St.settle (most - (k+1)) t.round).2+(k+1))):=show _=_ by
     rw [HE.out,show most - k=(most - (k+1))+1 by omega,settle_step hq'];simp only [Prod.mk.injEq,true_and];omega
    clear hq hq';go_wp2_with fail;refine (round_any col' w1 b bd (N+k) y t (K+15 * k) HS1.out HIt.out HBt.out (by omega) (by omega) (by omega)).mono ?_;rintro e w2 hr2;have Hr2:=Lib.hid (Ret5.after hr2 HC1.out ⟨HR.out.old,HR.out.grow⟩);obtain ⟨c2,y2,rfl,_⟩:=hr2;obtain ⟨c3,y3,_,h3,h4,h5⟩:=Hr2.out;have HS3:=Lib.hid h3;have HC3:=Lib.hid h4;have HR3:=Lib.hid h5;have HI3:=Lib.hid HIt.out.round;have HB3:=Lib.hid (HBt.out.round (by omega) HIt.out);clear h3 h4 h5 Hr2;go_wp2_with fail;go_roundw
    case rel=>exact ⟨k+1,c3,y3,_,by omega,by go_num,HS3.out,HC3.out,HR3.out,HI3.out,HB3.out.mono (by omega),HX.out⟩
    case measure=>simp [intOf]; omega
   ·obtain rfl:k=most:=by omega
    have hlt2:¬ (k:Int)<(k:Int):=by omega
    have HX:Hid (St.settle k s=(t,k)):=show _=_ by rw [HE.out,Nat.sub_self]; simp [St.settle]
    have Hq:=Lib.hid hq';clear hq hq';go_wp2_with fail;refine (quiet_any col' w1 b bd (N+k) y t HS1.out HIt.out).mono ?_;rintro e w2 ⟨rfl,hb2⟩;have HB2:=Lib.hid hb2;clear hb2;go_wp2_with fail;go_ret2;rw [HX.out];exact ⟨col',y,rfl,HS1.out.below HB2.out,HC1.out.two (Chg.of_below HB2.out),HR.out.old,HR.out.grow⟩
end Go.Proofs.YtagndjihiklmiaaGreatDoor
namespace Go.Proofs.YtagndjihiklmiaaGreatDoor
open Go.RowKit Go.Sort
section
variable {T:Tys} {col col':Nat→Nat} {w w':World} {b bd N:Nat} {x:Sv} {s:St}
theorem rise_in (c:Nat) (hc:c≠0∧c≠9) {P:Nat→Prop} [DecidablePred P] (hP:∀ k,P k→¬ Fl col k):∀ k,(if P k then 9 else col k)=c↔col k=c:=fun k=>by
 split
 ·rename_i h
  have h1:=hP k h;constructor
  ·intro e; exact absurd e.symm hc.2
  ·intro e; exact absurd (show Fl col k from ⟨by rw [e]; exact hc.1,by rw [e]; exact hc.2⟩) h1
 ·exact Iff.rfl
theorem StAt.far9 (h:StAt T col w b bd N x s) {F:Nat→Prop} (hc:Chg F w w') (h9:∀ k,F k→col k=9) (P:Nat→Prop) [DecidablePred P] (hP:∀ k,P k→w.heap.size≤k∧k<w'.heap.size) :
  StAt T (fun k=>if P k then 9 else col k) w' b bd N x s:=by
 have hP0:∀ k,P k→¬ Fl col k:=fun k hk hf=>hf.1 (h.s0 k (hP k hk).1)
 have hk:∀ k,col k≠9→k<w.heap.size→w'.heap[k]?=w.heap[k]?:=fun k hk hl=>hc.block k hl (fun e=>hk (h9 k e))
 have hi:∀ c,c≠0→c≠9→∀ k,(if P k then 9 else col k)=c↔col k=c:=fun c h0 h1=>rise_in c ⟨h0,h1⟩ hP0
 have hF:Fd (fun k=>if P k then 9 else col k)=Fd col:=funext fun k=>propext (hi 4 (by decide) (by decide) k);have hA:∀ c,c<3→Fa (fun k=>if P k then 9 else col k) c=Fa col c:=fun c hc=>funext fun k=>propext (hi (5+c) (by omega) (by omega) k)
 have him:∀ k,Im w col k→Im w' (fun k=>if P k then 9 else col k) k:=fun k hk=>⟨Nat.lt_of_lt_of_le hk.1 hc.size,by
  show (if P k then 9 else col k)=0
  rw [if_neg (fun hp=>by have:=(hP k hp).1; have:=hk.1; omega)]; exact hk.2⟩
 have hnv:∀ k,Im w' (fun k=>if P k then 9 else col k) k→k≠x.bv∧k≠x.bt:=by
  intro k hk;have h1:(if P k then 9 else col k)=0:=hk.2;refine ⟨fun e=>?_,fun e=>?_⟩
  ·rw [e,(hi 2 (by decide) (by decide) _).2 h.cv] at h1; omega
  ·rw [e,(hi 3 (by decide) (by decide) _).2 h.ct] at h1; omega
 obtain ⟨f,hf,hv⟩:=h.drv.map;have lb:=h.bl;have lv:=h.lt x.bv (by rw [h.cv]; decide);have lt:=h.lt x.bt (by rw [h.ct]; decide);refine ⟨(hk _ (by rw [h.cb]; decide) lb).trans h.row,?_,h.n,?_,?_,h.asks,fun c hc3=>?_,h.done,h.errs,(hi 1 (by decide) (by decide) _).2 h.cb,(hi 2 (by decide) (by decide) _).2 h.cv,(hi 3 (by decide) (by decide) _).2 h.ct,fun k hk=>?_⟩
 ·rw [hF]
  refine ⟨(hk _ (by rw [h.cv]; decide) lv).trans h.drv.row,⟨f,hf.keep (hk _ (by rw [h.ct]; decide) lt),hv⟩,?_,h.drv.nv,h.drv.nt,hnv⟩;exact (h.drv.dev.keep (fun k hf hl=>hk k (by rw [show col k=4 from hf]; decide) hl) (fun k hs hl=>hk k (by rw [hs.2]; decide) hl)).more him
 ·exact (h.bufs.keep (fun k hs hl=>hk k (by rw [hs.2]; decide) hl)).more him
 ·exact (h.wait.keep (fun k hs hl=>hk k (by rw [hs.2]; decide) hl)).more him
 ·rw [hA c hc3]
  exact (h.ask c hc3).keep (fun k hf hl=>hk k (by rw [show col k=5+c from hf]; omega) hl)
 ·have hk:(if P k then 9 else col k)≠0:=hk
  split at hk
  ·rename_i e; exact (hP k e).2
  ·exact Nat.lt_of_lt_of_le (h.lt k hk) hc.size
theorem DevAt.bare {TD TP:TypeId} {S S' F:Nat→Prop} {d:Dv} (h:DevAt TD TP S F w b d) (hl:d.l=[]):DevAt TD TP S' F w b d:=by
 obtain ⟨wv,lv,cs,hrow,hw,ho,hcs,hok⟩:=h.two;refine ⟨h.fb,h.kept,h.now,wv,lv,cs,hrow,hw,ho,hcs,fun c hc=>?_⟩;have:cs=[]:=by rw [hl] at hcs; exact List.map_eq_nil_iff.1 hcs
 rw [this] at hc; cases hc
theorem StAt.blank {d:Dv} (h:StAt T col w b bd N x (St.new d)) (hl:d.l=[]) (P:Nat→Prop) [DecidablePred P] (hP:∀ k,P k→¬ Fl col k∧k<w.heap.size) :
  StAt T (fun k=>if P k then 9 else col k) w b bd N x (St.new d):=by
 have hP0:∀ k,P k→¬ Fl col k:=fun k hk=>(hP k hk).1
 have hi:∀ c,c≠0→c≠9→∀ k,(if P k then 9 else col k)=c↔col k=c:=fun c h0 h1=>rise_in c ⟨h0,h1⟩ hP0
 have hF:Fd (fun k=>if P k then 9 else col k)=Fd col:=funext fun k=>propext (hi 4 (by decide) (by decide) k);have hA:∀ c,c<3→Fa (fun k=>if P k then 9 else col k) c=Fa col c:=fun c hc=>funext fun k=>propext (hi (5+c) (by omega) (by omega) k)
 have hnv:∀ k,Im w (fun k=>if P k then 9 else col k) k→k≠x.bv∧k≠x.bt:=by
  intro k hk;have h1:(if P k then 9 else col k)=0:=hk.2;refine ⟨fun e=>?_,fun e=>?_⟩
  ·rw [e,(hi 2 (by decide) (by decide) _).2 h.cv] at h1; omega
  ·rw [e,(hi 3 (by decide) (by decide) _).2 h.ct] at h1; omega
 refine ⟨h.row,?_,h.n,?_,?_,h.asks,fun c hc3=>?_,h.done,h.errs,(hi 1 (by decide) (by decide) _).2 h.cb,(hi 2 (by decide) (by decide) _).2 h.cv,(hi 3 (by decide) (by decide) _).2 h.ct,fun k hk=>?_⟩
 ·rw [hF]
  exact ⟨h.drv.row,h.drv.map,h.drv.dev.bare hl,h.drv.nv,h.drv.nt,hnv⟩
 ·have hb:BufsAt (Im w col) w x.bufs []:=h.bufs
  obtain ⟨⟨A,cap,e,h1,h2,h3,_⟩,_⟩:=hb;exact ⟨⟨A,cap,e,h1,h2,h3,fun hn=>absurd hn (Nat.lt_irrefl 0)⟩,by simp [St.new]⟩
 ·obtain ⟨cs,hcs,hrd,hok⟩:=h.wait
  have:cs=[]:=List.map_eq_nil_iff.1 hcs;subst this;obtain ⟨A,cap,e,h1,h2,h3,_⟩:=hrd;exact ⟨[],rfl,⟨A,cap,e,h1,h2,h3,fun hn=>absurd hn (Nat.lt_irrefl 0)⟩,by simp⟩
 ·rw [hA c hc3]
  exact h.ask c hc3
 ·have hk:(if P k then 9 else col k)≠0:=hk
  split at hk
  ·rename_i e; exact (hP k e).2
  ·exact h.lt k hk
end
end Go.Proofs.YtagndjihiklmiaaGreatDoor
namespace Go.Proofs.YtagndjihiklmiaaGreatDoor
open Go.RowKit
abbrev Tr:Tys:=⟨73,105,TDr,TPr,102⟩
theorem ranswer_any (col:Nat→Nat) (w:World) (b bd N:Nat) (x:Sv) (s:St) (c:Nat) (d:ByteArray) (e:Nat) (h:StAt Tr col w b bd N x s) (hc:c<3) :
  Calls Tryz.prog 67 #[.pointer (some ⟨b,0,none⟩),.int .i64 (c:Int),.string d,.int .i64 (e:Int)] w (Ret1 Tr col w b bd N (x.ans c d e) (s.answer c d e) (.tuple #[])):=by
 have H:=Lib.hid h;have c11:w.cell? ⟨b,11,none⟩=some x.a0:=h.cell 11;have c12:w.cell? ⟨b,12,none⟩=some x.a1:=h.cell 12;have c13:w.cell? ⟨b,13,none⟩=some x.a2:=h.cell 13;have c14:w.cell? ⟨b,14,none⟩=some (.string x.d0):=h.cell 14;have c15:w.cell? ⟨b,15,none⟩=some (.string x.d1):=h.cell 15;have c16:w.cell? ⟨b,16,none⟩=some (.string x.d2):=h.cell 16;have c17:w.cell? ⟨b,17,none⟩=some (.int .i64 (x.e0:Int)):=h.cell 17;have c18:w.cell? ⟨b,18,none⟩=some (.int .i64 (x.e1:Int)):=h.cell 18;have c19:w.cell? ⟨b,19,none⟩=some (.int .i64 (x.e2:Int)):=h.cell 19;have hfr:=fun k=>h.frozen k
 clear h
 match c,hc with
 |0,_ =>
  go_enter Tryz.func67,Tryz.ntmps67;go_wp2_with fail;go_end0;have hrow:=heap_setCell_same _ _ 17 _ _ (.int .i64 (e:Int)) (heap_setCell_same _ _ 14 _ _ (.string d) (heap_setCell_same _ _ 11 _ _ (.pointer none) H.out.row));have hb:=(((Same1.refl (b:=b) (w:=w)).setCell 11 (.pointer none)).setCell 14 (.string d)).setCell 17 (.int .i64 (e:Int));exact ⟨rfl,hb,H.out.ans hb (by omega) hrow⟩
 |1,_ =>
  go_enter Tryz.func67,Tryz.ntmps67;go_wp2_with fail;go_end0;have hrow:=heap_setCell_same _ _ 18 _ _ (.int .i64 (e:Int)) (heap_setCell_same _ _ 15 _ _ (.string d) (heap_setCell_same _ _ 12 _ _ (.pointer none) H.out.row));have hb:=(((Same1.refl (b:=b) (w:=w)).setCell 12 (.pointer none)).setCell 15 (.string d)).setCell 18 (.int .i64 (e:Int));exact ⟨rfl,hb,H.out.ans hb (by omega) hrow⟩
 |2,_ =>
  go_enter Tryz.func67,Tryz.ntmps67;go_wp2_with fail;go_end0;have hrow:=heap_setCell_same _ _ 19 _ _ (.int .i64 (e:Int)) (heap_setCell_same _ _ 16 _ _ (.string d) (heap_setCell_same _ _ 13 _ _ (.pointer none) H.out.row));have hb:=(((Same1.refl (b:=b) (w:=w)).setCell 13 (.pointer none)).setCell 16 (.string d)).setCell 19 (.int .i64 (e:Int));exact ⟨rfl,hb,H.out.ans hb (by omega) hrow⟩
theorem rgot_any (col:Nat→Nat) (w:World) (b bd N:Nat) (x:Sv) (s:St) (c:Nat) (h:StAt Tr col w b bd N x s) (hc:c<3) :
  Calls Tryz.prog 22 #[.pointer (some ⟨b,0,none⟩),.int .i64 (c:Int)] w (Ret (.tuple #[.string (s.got c).1,.int .i64 ((s.got c).2:Nat)]) w):=by
 rw [h.got_eq hc]
 match c,hc with
 |0,_ =>
  have c1:w.cell? ⟨b,14,none⟩=some (.string (x.dn 0)):=h.cell 14;have c2:w.cell? ⟨b,17,none⟩=some (.int .i64 (x.er 0:Int)):=h.cell 17;clear h;generalize x.dn 0=D at *;generalize x.er 0=E at *;by_cases he:E=0
  ·subst he
   go_enter Tryz.func22,Tryz.ntmps22;go_wp2_with fail;go_ret2;exact ⟨rfl,Below.refl _ _⟩
  ·have hne:0<(E:Int):=by omega
   rw [if_neg he];go_enter Tryz.func22,Tryz.ntmps22;go_wp2_with fail;go_quiet (fail);go_wp2_with fail;go_ret2;exact ⟨rfl,belowN (Below.refl _ _) _⟩
 |1,_ =>
  have c1:w.cell? ⟨b,15,none⟩=some (.string (x.dn 1)):=h.cell 15;have c2:w.cell? ⟨b,18,none⟩=some (.int .i64 (x.er 1:Int)):=h.cell 18;clear h;generalize x.dn 1=D at *;generalize x.er 1=E at *;by_cases he:E=0
  ·subst he
   go_enter Tryz.func22,Tryz.ntmps22;go_wp2_with fail;go_ret2;exact ⟨rfl,Below.refl _ _⟩
  ·have hne:0<(E:Int):=by omega
   rw [if_neg he];go_enter Tryz.func22,Tryz.ntmps22;go_wp2_with fail;go_quiet (fail);go_wp2_with fail;go_ret2;exact ⟨rfl,belowN (Below.refl _ _) _⟩
 |2,_ =>
  have c1:w.cell? ⟨b,16,none⟩=some (.string (x.dn 2)):=h.cell 16;have c2:w.cell? ⟨b,19,none⟩=some (.int .i64 (x.er 2:Int)):=h.cell 19;clear h;generalize x.dn 2=D at *;generalize x.er 2=E at *;by_cases he:E=0
  ·subst he
   go_enter Tryz.func22,Tryz.ntmps22;go_wp2_with fail;go_ret2;exact ⟨rfl,Below.refl _ _⟩
  ·have hne:0<(E:Int):=by omega
   rw [if_neg he];go_enter Tryz.func22,Tryz.ntmps22;go_wp2_with fail;go_quiet (fail);go_wp2_with fail;go_ret2;exact ⟨rfl,belowN (Below.refl _ _) _⟩
end Go.Proofs.YtagndjihiklmiaaGreatDoor
namespace Go.Proofs.YtagndjihiklmiaaGreatDoor
open Go.RowKit Go.Sort
theorem heldInfo:(Tryz.prog.info? 109).map (·.size)=some 32:=by kernel_rfl
theorem drewN_below' (B:Nat) (w:World) (n:Nat):Below B w (w.drewN n):=⟨rfl,rfl,rfl,Nat.le_refl _,fun _ _=>rfl⟩
def hldV (hl:List Bool):Array Value:=(hl.map Value.bool).toArray
def heldL (hl:List Bool) (p:Int):Bool:=hl.getD p.toNat false
theorem hldV_get {hl:List Bool} (h:hl.length=32) {p:Nat} (hp:p<32):(hldV hl)[p]?=some (.bool (heldL hl (p:Int))):=by
 unfold hldV heldL;rw [List.getElem?_toArray,List.getElem?_map,Int.toNat_natCast,List.getD_eq_getElem?_getD];have:hl[p]?=some hl[p]:=List.getElem?_eq_getElem (by omega);rw [this]; rfl
theorem least_any (S:Nat→Prop) (l:List Bf) (v:Value) (dirty:Bool) (hl:List Bool) (w:World) (h:BufsAt S w v l) (hin:InB l) (h32:hl.length=32) (hn:l.length≤65536) :
  Calls Tryz.prog 104 #[v,.bool dirty,.agg (hldV hl)] w (Ret (.int .i64 (leastB l dirty (heldL hl))) w):=by
 obtain ⟨A,cap,rfl,h1,h2⟩:=h.form;unfold maxLen at h2;have H:=Lib.hid h;have HI:=Lib.hid hin;have Hget:=Lib.hid (fun (p:Nat) (hp:p<32)=>hldV_get h32 hp);clear h hin h32
 obtain ⟨V,hV⟩:∃ V,hldV hl=V:=⟨_,rfl⟩
 rw [hV] at Hget ⊢;clear hV
 obtain ⟨ok,hok⟩:∃ ok,okB dirty (heldL hl)=ok:=⟨_,rfl⟩
 have HO:=Lib.hid hok;have Hone:Hid (∀ x,ok x=okB dirty (heldL hl) x):=fun x=>by rw [hok]
 clear hok;go_enter Tryz.func104,Tryz.ntmps104;go_wp2_with fail;have L0:=Lib.hid ((Lay.refl w).alloc' w.heap.size V 109 rfl);generalize World.alloc _ _=W0 at L0 ⊢;go_loopw [7,8] (fun b i wr=>∃ k:Nat,k≤l.length∧i=.int .i64 k∧b=.int .i64 (bestB ok l k)∧Hid (Lay w wr [(w.heap.size,109,V)])) (fun _ i _=>l.length - (intOf i).toNat)
 case atStart=>exact ⟨0,by omega,rfl,rfl,L0⟩
 case round =>
  obtain ⟨k,hk,rfl,rfl,HL⟩:=hrel;have hrange:=bestB_range ok l k;by_cases hlt:k<l.length
  ·have hkl:(k:Int)<(l.length:Int):=by omega
   have Hm:=Lib.hid (H.out.below HL.out.below);obtain ⟨b,off,rfl,_,hbl,hc⟩:=Hm.out.at_ (by omega);have hx:l[k]?=some l[k]:=List.getElem?_eq_getElem hlt;obtain ⟨_,k0,k1,k2,k3⟩:=hc k _ hx;have hp:=HI.out _ (List.mem_of_getElem? hx);have Hx:=Lib.hid hx;have Hc:=Lib.hid hc;clear hx hc;generalize l[k]=x at *;have Hok:=Lib.hid (Hone.out x)
   cases hd:(x.dirty == dirty) with
   |false =>
    have Hd:=Lib.hid hd;clear hrange hp;go_wp2_with fail;go_quiet (fail);go_wp2;go_roundw
    case rel=>exact ⟨k+1,by omega,by go_num,by rw [bestB_no Hx.out (by rw [Hok.out]; unfold okB; rw [Hd.out]; rfl)],HL.out.step (Below.mono (drewN_below' _ _ _) (Nat.le_refl _))⟩
    case measure=>simp [intOf]; omega
   |true =>
    have Hd:=Lib.hid hd
    obtain ⟨q,hq⟩:∃ q:Nat,x.pos=(q:Int):=⟨x.pos.toNat,by omega⟩
    have hq32:q<32:=by omega
    have hcell:wr.cell? ⟨w.heap.size,q,none⟩=some (.bool (heldL hl (q:Int))):=by
     have h3:=HL.out.row _ (List.mem_cons_self ..);rw [cell_of_row _ _ _ _ _ _ h3]; exact Hget.out q hq32
    have hq1:(q:Int)<32:=by omega
    rw [hq] at k0;have Hq:=Lib.hid hq;clear hq hp
    cases hhx:heldL hl (q:Int) with
    |true =>
     rw [hhx] at hcell;have Hhx:=Lib.hid hhx;clear hrange hhx;go_wp2_with fail;go_quiet (fail);go_wp2;go_roundw
     case rel=>exact ⟨k+1,by omega,by go_num,by rw [bestB_no Hx.out (by rw [Hok.out]; unfold okB; rw [Hd.out,Hq.out,Hhx.out]; rfl)],HL.out.step (Below.mono (drewN_below' _ _ _) (Nat.le_refl _))⟩
     case measure=>simp [intOf]; omega
    |false =>
     rw [hhx] at hcell;have Hhx:=Lib.hid hhx;by_cases hneg:bestB ok l k<0
     ·have hm1:bestB ok l k = -1:=by omega
      have Hm1:=Lib.hid hm1;rw [hm1];clear hm1 hneg hrange hhx;go_wp2_with fail;go_quiet (fail);go_wp2;go_roundw
      case rel=>exact ⟨k+1,by omega,by go_num,by rw [bestB_first Hx.out (by rw [Hok.out]; unfold okB; rw [Hd.out,Hq.out,Hhx.out]; rfl) (by rw [Hm1.out]; omega)],HL.out.step (Below.mono (drewN_below' _ _ _) (Nat.le_refl _))⟩
      case measure=>simp [intOf]; omega
     ·obtain ⟨j,hj⟩:∃ j:Nat,bestB ok l k=j:=⟨(bestB ok l k).toNat,by omega⟩
      have Hj:=Lib.hid hj;rw [hj];have hjk:j<k:=by omega
      have hjl:(j:Int)<(l.length:Int):=by omega
      have hj0:¬ (j:Int)<0:=by omega
      clear hj hneg hrange hhx;have hxj:l[j]?=some l[j]:=List.getElem?_eq_getElem (by omega);obtain ⟨_,j0,j1,j2,j3⟩:=Hc.out j _ hxj;have Hxj:=Lib.hid hxj;clear hxj;generalize l[j]=y at *;by_cases hless:x.used<y.used
      ·have Hless:=Lib.hid hless
       go_wp2_with fail;go_quiet (fail);go_wp2;go_roundw
       case rel=>exact ⟨k+1,by omega,by go_num,by rw [bestB_less Hx.out (by rw [Hok.out]; unfold okB; rw [Hd.out,Hq.out,Hhx.out]; rfl) Hj.out Hxj.out Hless.out],HL.out.step (Below.mono (drewN_below' _ _ _) (Nat.le_refl _))⟩
       case measure=>simp [intOf]; omega
      ·have Hless:=Lib.hid hless
       have hless2:decide (x.used<y.used)=false:=decide_eq_false hless;go_wp2_with fail;go_quiet (fail);go_wp2;go_roundw
       case rel=>exact ⟨k+1,by omega,by go_num,by rw [bestB_more Hx.out Hj.out Hxj.out (by have:=Hless.out; omega)],HL.out.step (Below.mono (drewN_below' _ _ _) (Nat.le_refl _))⟩
       case measure=>simp [intOf]; omega
  ·obtain rfl:k=l.length:=by omega
   clear hrange;go_wp2;go_ret;refine ⟨?_,HL.out.below⟩;rw [leastB_eq,HO.out]; rfl
theorem rpick_any (S:Nat→Prop) (l:List Bf) (v:Value) (hl:List Bool) (w:World) (h:BufsAt S w v l) (hin:InB l) (h32:hl.length=32) (hn:l.length≤65536) :
  Calls Tryz.prog 58 #[v,.agg (hldV hl)] w (Ret (.int .i64 (pickB l (heldL hl))) w):=by
 obtain ⟨A,cap,rfl,h1,h2⟩:=h.form;unfold maxLen at h2;have H:=Lib.hid h;have HI:=Lib.hid hin;have H32:=Lib.hid h32;have hr:=bestB_range (okB true (heldL hl)) l l.length;have hpk:pickB l (heldL hl)=if leastB l true (heldL hl)<0 then -1 else (l.getD (leastB l true (heldL hl)).toNat default).pos:=rfl
 rw [← leastB_eq] at hr;have Hr:=Lib.hid hr;have Hpk:=Lib.hid hpk;have hV1:(hldV hl).size=32:=by simp [hldV,h32]
 have HV1:=Lib.hid hV1
 have Hone:Hid (∀ u ∈ (hldV hl).toList,u.oneCell'=true):=fun u hu=>by
  simp [hldV] at hu; rcases hu with ⟨_,rfl⟩ | ⟨_,rfl⟩ <;> rfl
 clear h hin h32 hr hpk hV1;go_enter Tryz.func58,Tryz.ntmps58
 obtain ⟨V,hV⟩:∃ V,hldV hl=V:=⟨_,rfl⟩
 have HV:=Lib.hid hV;rw [hV] at HV1 ⊢;have Hs:Hid ((Tryz.prog.info? 109).map (·.size)=some V.size):=show _=_ by rw [HV1.out]; exact heldInfo
 clear hV Hone;have L:=Lib.hid ((Lay.refl w).alloc' w.heap.size V 109 rfl);have Hrow:=Lib.hid (L.out.row _ (List.mem_cons_self ..));go_wp2_with (refine wpList_load_row rfl 109 (.tmp 3) rfl w.heap.size rfl 109 V (0,0) _ Hrow.out Tryz.underlying109 rfl Hs.out ?_);rw [← HV.out] at L ⊢;generalize World.alloc _ _=W at L ⊢;refine (least_any S l _ true hl _ (H.out.below L.out.below) HI.out H32.out hn).mono ?_;rintro e w1 ⟨rfl,hb1⟩;have hb2:=L.out.below.trans (hb1.mono L.out.size);have Hb2:=Lib.hid hb2;clear hb1 hb2 L Hrow
 obtain ⟨B,hB⟩:∃ B,leastB l true (heldL hl)=B:=⟨_,rfl⟩
 rw [hB] at Hpk Hr ⊢;clear hB;by_cases hneg:B<0
 ·go_wp2_with fail
  go_ret;refine ⟨?_,Hb2.out⟩;have:=Hpk.out;rw [if_pos hneg] at this;rw [this]; rfl
 ·obtain ⟨j,rfl⟩:∃ j:Nat,B=(j:Int):=⟨B.toNat,by omega⟩
  have hjk:j<l.length:=by have:=Hr.out; omega
  have hxj:l[j]?=some l[j]:=List.getElem?_eq_getElem (by omega);have hpk:=Hpk.out;rw [if_neg hneg,Int.toNat_natCast,List.getD_eq_getElem?_getD,hxj,Option.getD_some] at hpk;have Hpk2:=Lib.hid hpk;obtain ⟨b,off,rfl,_,hbl,hc⟩:=(H.out.below Hb2.out).at_ (by omega);obtain ⟨_,k0,k1,k2,k3⟩:=hc j _ hxj;generalize l[j]=y at *;have hjl:(j:Int)<(l.length:Int):=by omega
  have hj0:¬ (j:Int)<0:=by omega
  clear hxj hpk hneg hc;go_wp2;go_ret;refine ⟨?_,Hb2.out⟩;rw [Hpk2.out]; rfl
end Go.Proofs.YtagndjihiklmiaaGreatDoor
namespace Go.Proofs.YtagndjihiklmiaaGreatDoor
def hlOf (s:St):List Bool:=(List.range 32).map (fun k:Nat=>s.heldP (k:Int))
theorem hlOf_len (s:St):(hlOf s).length=32:=by simp [hlOf]
theorem hlOf_at (s:St) {p:Int} (h0:0≤p) (h1:p≤31):heldL (hlOf s) p=s.heldP p:=by
 unfold heldL hlOf;rw [List.getD_eq_getElem?_getD,List.getElem?_map,List.getElem?_range (by omega)];simp [Int.toNat_of_nonneg h0]
def hlI (l:List Rq) (i:Nat):List Bool:=(List.range 32).map (fun p:Nat=>(l.take i).any (hasR (p:Int)))
def hlK (l:List Rq) (i:Nat) (lo:Int) (k:Nat):List Bool:=(List.range 32).map (fun p:Nat=>(l.take i).any (hasR (p:Int)) || (decide (lo≤(p:Int)) && decide ((p:Int)<lo+(k:Int))))
theorem hlK_len (l:List Rq) (i:Nat) (lo:Int) (k:Nat):(hlK l i lo k).length=32:=by simp [hlK]
theorem hlI_zero (l:List Rq):hlI l 0=List.replicate 32 false:=by
 unfold hlI;simp only [List.take_zero,List.any_nil];rfl
theorem hlK_zero (l:List Rq) (i:Nat) (lo:Int):hlK l i lo 0=hlI l i:=by
 unfold hlK hlI;apply List.map_congr_left;intro p _
 have:(decide (lo≤(p:Int)) && decide ((p:Int)<lo+((0:Nat):Int)))=false:=by
  rw [Bool.and_eq_false_iff,decide_eq_false_iff_not,decide_eq_false_iff_not]; omega
 rw [this,Bool.or_false]
theorem hlK_set (l:List Rq) (i:Nat) {lo:Int} {k:Nat} (h0:0≤lo) (h1:lo+(k:Int)<32):(hlK l i lo k).set (lo+(k:Int)).toNat true=hlK l i lo (k+1):=by
 apply List.ext_getElem?;intro p;unfold hlK;rw [List.getElem?_set,List.getElem?_map,List.getElem?_map,List.length_map,List.length_range];by_cases hp:p<32
 ·rw [List.getElem?_range hp]
  simp only [Option.map_some];by_cases he:(lo+(k:Int)).toNat=p
  ·rw [if_pos he,if_pos (by omega)]
   have h2:decide (lo≤(p:Int))=true:=by rw [decide_eq_true_eq]; omega
   have h3:decide ((p:Int)<lo+((k+1:Nat):Int))=true:=by rw [decide_eq_true_eq]; omega
   rw [h2,h3]; simp
  ·rw [if_neg he]
   have e:(decide (lo≤(p:Int)) && decide ((p:Int)<lo+(k:Int)))=(decide (lo≤(p:Int)) && decide ((p:Int)<lo+((k+1:Nat):Int))):=by
    rw [Bool.eq_iff_iff]; simp only [Bool.and_eq_true,decide_eq_true_eq]; omega
   rw [e]
 ·have hn:(List.range 32)[p]?=none:=List.getElem?_eq_none (by simp; omega)
  rw [hn,if_neg (by omega)];rfl
theorem hlK_end {l:List Rq} {i:Nat} {r:Rq} (h:l[i]?=some r) (hm:0≤r.many):hlK l i r.lo r.many.toNat=hlI l (i+1):=by
 unfold hlK hlI;apply List.map_congr_left;intro p _;rw [List.take_add_one,h,List.any_append]
 congr 1
 show _=(List.any [r] (hasR (p:Int)));simp only [List.any_cons,List.any_nil,Bool.or_false];unfold hasR;rw [Bool.eq_iff_iff,hasB_iff];simp only [Bool.and_eq_true,decide_eq_true_eq];omega
theorem hlI_end (s:St):hlI (s.wait ++ s.v.d.l) (s.wait ++ s.v.d.l).length=hlOf s:=by
 unfold hlI hlOf;apply List.map_congr_left;intro p _;rw [List.take_length,heldP_eq];rfl
theorem bestB_congr {l:List Bf} {f g:Bf→Bool} (h:∀ x ∈ l,f x=g x):∀ k,bestB f l k=bestB g l k
 |0=>rfl
 |k+1=>by
  unfold bestB
  cases hx:l[k]? with
  |none=>exact bestB_congr h k
  |some r=>simp only [bestB_congr h k,h r (List.mem_of_getElem? hx)]
theorem leastB_congr {l:List Bf} {f g:Int→Bool} (hin:∀ x ∈ l,0≤x.pos∧x.pos≤31) (h:∀ p,0≤p→p≤31→f p=g p) (d:Bool):leastB l d f=leastB l d g:=by
 unfold leastB;exact bestB_congr (fun x hx=>by rw [h x.pos (hin x hx).1 (hin x hx).2]) _
theorem putB_congr {l:List Bf} {b:Bf} {f g:Int→Bool} (hin:∀ x ∈ l,0≤x.pos∧x.pos≤31) (h:∀ p,0≤p→p≤31→f p=g p):putB l b f=putB l b g:=by
 unfold putB;rw [leastB_congr hin h]
theorem pickB_congr {l:List Bf} {f g:Int→Bool} (hin:∀ x ∈ l,0≤x.pos∧x.pos≤31) (h:∀ p,0≤p→p≤31→f p=g p):pickB l f=pickB l g:=by
 unfold pickB;rw [leastB_congr hin h]
end Go.Proofs.YtagndjihiklmiaaGreatDoor
