/- The reference's without: a list of requests but for one. -/
import Derived.Test.YtagndjihiklmiaaGreatDoorQ12
set_option linter.unusedSimpArgs false
set_option linter.unusedVariables false
set_option maxRecDepth 100000
set_option maxHeartbeats 8000000
namespace Go.Proofs.YtagndjihiklmiaaGreatDoor
open Go.RowKit
theorem rd_take {S:Nat→Prop} {w:World} {size n k c:Nat} {A:Option Addr} {xs:List Value} (h:Rd S w size (.slice A n c) n xs) (hk:k≤n):Rd S w size (.slice A k c) k (xs.take (k * size)):=by
 obtain ⟨A',c',e,h1,h2,h3,h4⟩:=h
 cases e
 refine ⟨A,c,rfl,by omega,h2,by rw [List.length_take,h3]; exact Nat.min_eq_left (Nat.mul_le_mul_right _ hk),fun hp=>?_⟩;obtain ⟨b,off,e,hS,hc⟩:=h4 (by omega);refine ⟨b,off,e,hS,fun j u hu=>hc j u ?_⟩;rw [List.getElem?_take] at hu
 split at hu
 ·exact hu
 ·cases hu
theorem rd_drop {S:Nat→Prop} {w:World} {n k c b off:Nat} {xs:List Value} (h:Rd S w 6 (.slice (some ⟨b,off,none⟩) n c) n xs) (hk:k<n) :
  Rd S w 6 (.slice (if c=k+1 then some (⟨b,off,none⟩:Addr) else some ⟨b,off+(k+1) * 6,none⟩) (n - (k+1)) (c - (k+1))) (n - (k+1)) (xs.drop ((k+1) * 6)):=by
 have hf:=h.len;obtain ⟨A',c',e,h1,h2,h3,h4⟩:=h
 cases e
 refine ⟨_,_,rfl,by omega,by omega,by rw [List.length_drop,h3]; omega,fun hp=>?_⟩;rw [if_neg (by omega)];obtain ⟨b',off',e,hS,hc⟩:=h4 (by omega)
 cases e
 refine ⟨b,off+(k+1) * 6,rfl,hS,fun j u hu=>?_⟩;rw [List.getElem?_drop] at hu;have:=hc _ _ hu
 rwa [← Nat.add_assoc] at this
theorem without_any (F:Nat→Prop) (b off n cap k:Nat) (xs:List Value) (w:World) (h:Rd F w 6 (.slice (some ⟨b,off,none⟩) n cap) n xs) (h1:∀ u ∈ xs,u.oneCell'=true) (hk:k<n) (hn:n≤65536) :
  Calls Tryz.prog 63 #[.slice (some ⟨b,off,none⟩) n cap,.int .i64 (k:Int)] w (RetOwn 117 6 (n - 1) (xs.take (k * 6) ++ xs.drop ((k+1) * 6)) w):=by
 obtain ⟨i0,hi0,hz0,hz1,hz2⟩:=info_parts reqInfo;obtain ⟨_,_,e,hc1,hc2⟩:=h.form
 cases e
 unfold maxLen at hc2;have HT:=Lib.hid ((rd_take (k:=k) h (by omega)).below (w':=w.drew) (Below.refl _ _).drew)
 obtain ⟨X,hX,hR⟩:∃ X:Option Addr,(if cap=k+1 then some (⟨b,off,none⟩:Addr) else some ⟨b,off+(k+1) * 6,none⟩)=X∧Hid (Rd F w 6 (.slice X (n - (k+1)) (cap - (k+1))) (n - (k+1)) (xs.drop ((k+1) * 6))):=⟨_,rfl,rd_drop h hk⟩
 have Hone:=Lib.hid h1;have hkp:IntKind.i64.wrap ((k:Int)+1)=(k:Int)+1:=IntWalk.i64_in _ (by omega);have hp0:(0:Int)≤(k:Int)+1:=by omega
 have hp1:(k:Int)+1≤(n:Int):=by omega
 have hp2:((k:Int)+1).toNat=k+1:=by omega
 have hkc:k≤cap:=by omega
 clear h h1;go_enter Tryz.func63,Tryz.ntmps63;go_wp2_with fail
 go_region_law (first
  |(refine step_append_rd (S:=F) _ rfl (.const (.slice none 0 0)) (.tmp 7) 50 rfl w.heap.size 117 i0 _ 6 80 Tryz.underlying50 hi0 hz0 hz1 hz2 rfl (by omega) (.slice none 0 0) 0 [] rfl (World.ownsRow_nil _ _ _ _) (.slice (some ⟨b,off,none⟩) k cap) k (xs.take (k * 6)) (by simp [Act.eval,Act.put]) HT.out (fun u hu=>Hone.out u (List.mem_of_mem_take hu)) (by simp only [maxLen]; omega) (by omega) (by simp) ?_; intro v1 w1 hown1 hg1 hat1; clear hat1; have hb1:=(Below.refl w.heap.size w).drew.grown hg1 (by simp) (fun k hk=>by simp [Value.ownBlock] at hk); have e4:=hb1.size)
  |(refine step_append_rd (S:=F) _ rfl (.tmp 8) (.tmp 12) 50 rfl w.heap.size 117 i0 _ 6 80 Tryz.underlying50 hi0 hz0 hz1 hz2 rfl (by omega) v1 (0+k) ([] ++ xs.take (k * 6)) (by simp [Act.eval,Act.put]) hown1 (.slice X (n - (k+1)) (cap - (k+1))) (n - (k+1)) (xs.drop ((k+1) * 6)) (by simp [Act.eval,Act.put,hX]) (hR.out.below hb1) (fun u hu=>Hone.out u (List.mem_of_mem_drop hu)) (by simp only [maxLen]; omega) (by omega) e4 ?_; intro v2 w12 hown2 hg2 hat2; clear hat2; have hb2:=hb1.grown hg2 e4 (fun k hk=>(hown1.lt k hk).1)))
 all_goals
  simp only [Nat.zero_add,List.nil_append] at hown2;have hm:k+(n - (k+1))=n - 1:=by omega
  rw [hm] at hown2;have Ho:=Lib.hid hown2;clear hown2 hown1 hg1 hg2 hX hm;go_wp2_with fail;go_ret;exact ⟨_,rfl,Ho.out,hb2⟩
end Go.Proofs.YtagndjihiklmiaaGreatDoor
namespace Go.Proofs.YtagndjihiklmiaaGreatDoor
open Go.RowKit
theorem rdevend_none (S F:Nat→Prop) (w:World) (b:Nat) (d:Dv) (i:Int) (f:Bool) (h:DevAt TDr TPr S F w b d) (hn:i<0∨(d.l.length:Int)≤i) (hSF:∀ k,S k→¬ F k) (hSlt:∀ k,S k→k<w.heap.size) :
  Calls Tryz.prog 108 #[.pointer (some ⟨b,0,none⟩),.int .i64 i,.bool f] w (RetEnd TDr TPr S F w b (d.endAt i f).1 (d.endAt i f).2.1 (.int .i64 ((d.endAt i f).2.2:Int))):=by
 obtain ⟨wv,lv,cs,hrow,hw,hl,hcs,hok⟩:=h.two;have hlen:cs.length=d.l.length:=by rw [← hcs,List.length_map]
 obtain ⟨A,cap,rfl,hc1,hc2⟩:=hl.form;rw [hlen] at hrow
 have c65:∀ o,(w.alloc o).cell? ⟨b,65,none⟩=some (.slice A d.l.length cap):=fun o=>by
  rw [World.cell?_alloc_lt _ _ _ (Array.getElem?_eq_some_iff.1 hrow).1,cell_of_row _ _ _ _ _ _ hrow]; simpa using devCells_at_l d wv _ h.kept h.now
 have H:=Lib.hid h;have HS:=Lib.hid hSF;have Hlt:=Lib.hid hSlt;rw [endAt_none d i f hn];clear hrow hw hl hcs hok h hSF hlen hc1 hSlt;have Hz:Hid (zeroRsV.all (·.oneCell')=true):=rs_one (zeroRc_ok (fun _=>True) w);have Hi:Hid ((Tryz.prog.info? 123).map (·.size)=some zeroRsV.size):=resInfo;have L:=Lib.hid ((LayF.refl F w).alloc' w.heap.size zeroRsV 123 rfl);have L0:=Lib.hid ((LayF.refl (fun _=>False) w).alloc' w.heap.size zeroRsV 123 rfl);have HT:Hid ((w.alloc (.cells zeroRsV 123)).there w.heap.size 0 zeroRsV.size):=L.out.there 0 rfl _ rfl;by_cases hneg:i<0
 all_goals
  go_enter Tryz.func108,Tryz.ntmps108
  go_wp2_with (
   refine wpList_store_mid rfl 123 (.tmp 6) (.tmp 23) rfl w.heap.size 0 zeroRsV rfl rfl HT.out Hi.out Hz.out ?_;have L2:=L.out.put 0 rfl zeroRsV rfl;have L3:=L0.out.put 0 rfl zeroRsV rfl
   generalize World.setCells _ _ _ _=W2 at L2 L3 ⊢)
  obtain ⟨q0,q1,q2,q3,q4,q5,q6,q7⟩:=L2.c8 0 rfl;refine bodyPost_ret (v:=.tuple #[.agg zeroRsV,.int .i64 5]) (by simp [results,Tryz.results108,go_sem,q0,q1,q2,q3,q4,q5,q6,q7]) rfl ?_;have hb0:=L3.chg.below (B:=w.heap.size) (fun _ h=>h.elim) (Nat.le_refl _);exact ⟨_,F,S,rfl,⟨zeroRc,_,rfl,rfl,zeroRc_ok _ _,strs_nil _ _⟩,H.out.below hb0,L2.chg,fun _ h=>h,fun _ h=>.inl h,fun _ h=>h,fun _ h=>.inl h,HS.out⟩
theorem rputInfo:(Tryz.prog.info? 135).map (fun i=>(i.zero,i.size,i.bytes))=some (some (.agg #[.int .i64 0,.string ⟨#[]⟩]),2,24):=by kernel_rfl
theorem rdevend_some (S F:Nat→Prop) (w:World) (b:Nat) (d:Dv) (i:Nat) (r:Rq) (f:Bool) (h:DevAt TDr TPr S F w b d) (hi:d.l[i]?=some r) (hr:ReqOk r) (h2:d.l.length≤2) (hwl:d.waits.length≤1000000000000) (hnow:∀ s ∈ d.now,s.size≤maxLen)
  (hF:∀ k,F k→k<w.heap.size) (hSF:∀ k,S k→¬ F k) (hSlt:∀ k,S k→k<w.heap.size) :
  Calls Tryz.prog 108 #[.pointer (some ⟨b,0,none⟩),.int .i64 (i:Int),.bool f] w (RetEnd TDr TPr S F w b (d.ended r i f).1 (d.ended r i f).2 (.int .i64 0)):=by
 have hil:i<d.l.length:=(List.getElem?_eq_some_iff.1 hi).1;obtain ⟨wv,lv,cs,hrow,hw,hl,hcs,hok⟩:=h.two;have hlen:cs.length=d.l.length:=by rw [← hcs,List.length_map]
 have hbl:=(Array.getElem?_eq_some_iff.1 hrow).1;obtain ⟨A,cap,rfl,hc1,hc2⟩:=hl.form
 obtain ⟨c,hci,rfl⟩:∃ c,cs[i]?=some c∧c.r=r:=by
  rw [← hcs,List.getElem?_map] at hi;obtain ⟨c,hc,he⟩:=Option.map_eq_some_iff.1 hi;exact ⟨c,hc,he⟩
 obtain ⟨g,off,rfl,hgl,k0,k1,k2,k3,k4,k5⟩:=rows_at hl.rd hci
 obtain ⟨rfl⟩:off=0:=by
  rcases hl.1.2 with ⟨hv,_⟩ | ⟨_,_,_,hv,_⟩
  ·cases hv
  ·cases hv; rfl
 have hcok:=hok c (List.mem_of_getElem? hci);obtain ⟨Ad,cd,e1,_,_⟩:=hcok.data.form;obtain ⟨At,ct,e2,_,_⟩:=hcok.tags.form;obtain ⟨r,dv,tv⟩:=c;simp only at e1 e2 k0 k1 k2 k3 k4 k5 hr hi ⊢;subst e1 e2;rw [hlen] at hrow hl hc1
 have c65:∀ o,(w.alloc o).cell? ⟨b,65,none⟩=some (.slice (some ⟨g,0,none⟩) d.l.length cap):=fun o=>by
  rw [World.cell?_alloc_lt _ _ _ hbl,cell_of_row _ _ _ _ _ _ hrow]; simpa using devCells_at_l d wv _ h.kept h.now
 have m0:∀ o,(w.alloc o).cell? ⟨g,0+i * 6,none⟩=some _:=fun o=>(World.cell?_alloc_lt _ _ _ hgl).trans k0
 have m1:∀ o,(w.alloc o).cell? ⟨g,0+i * 6+1,none⟩=some _:=fun o=>(World.cell?_alloc_lt _ _ _ hgl).trans k1
 have m2:∀ o,(w.alloc o).cell? ⟨g,0+i * 6+2,none⟩=some _:=fun o=>(World.cell?_alloc_lt _ _ _ hgl).trans k2
 have m3:∀ o,(w.alloc o).cell? ⟨g,0+i * 6+3,none⟩=some _:=fun o=>(World.cell?_alloc_lt _ _ _ hgl).trans k3
 have m4:∀ o,(w.alloc o).cell? ⟨g,0+i * 6+4,none⟩=some _:=fun o=>(World.cell?_alloc_lt _ _ _ hgl).trans k4
 have m5:∀ o,(w.alloc o).cell? ⟨g,0+i * 6+5,none⟩=some _:=fun o=>(World.cell?_alloc_lt _ _ _ hgl).trans k5
 simp only [Nat.zero_add] at m0 m1 m2 m3 m4 m5;have hil1:(i:Int)<(d.l.length:Int):=by omega
 have hil2:¬ ((d.l.length:Int)≤(i:Int)):=by omega
 have hip:IntKind.i64.wrap ((i:Int)+1)=(i:Int)+1:=IntWalk.i64_in _ (by omega);have H:=Lib.hid h;have Hrow:=Lib.hid hrow;have Hw:=Lib.hid hw;have Hl:=Lib.hid hl;have Hcs:=Lib.hid hcs;have Hok:=Lib.hid hok;have Hcok:=Lib.hid hcok;have Hci:=Lib.hid hci;have Hi:=Lib.hid hi;have Hr:=Lib.hid hr;have HF:=Lib.hid hF;have HS:=Lib.hid hSF;have Hlt:=Lib.hid hSlt;have Hlen:=Lib.hid hlen;have Hnow:=Lib.hid hnow;clear h hrow hw hl hcs hok hcok hci hi hr hF hSF hSlt k0 k1 k2 k3 k4 k5 hlen hnow;go_enter Tryz.func108,Tryz.ntmps108;go_wp2_with fail;have L:=((LayF.refl F w).alloc' w.heap.size zeroRsV 123 rfl).alloc' (w.heap.size+1) #[Value.bool r.write,Value.int IntKind.i64 r.lo,Value.int IntKind.i64 r.many,Value.slice Ad r.data.length cd,Value.slice At r.tags.length ct,Value.int IntKind.i64 r.born] 117 (by simp);have hb1:Below w.heap.size w _:=(((Below.refl w.heap.size w).alloc (Nat.le_refl _) (.cells zeroRsV 123))).alloc (by simp) (.cells #[Value.bool r.write,Value.int IntKind.i64 r.lo,Value.int IntKind.i64 r.many,Value.slice Ad r.data.length cd,Value.slice At r.tags.length ct,Value.int IntKind.i64 r.born] 117);have hsz1:((w.alloc (.cells zeroRsV 123)).alloc (.cells #[Value.bool r.write,Value.int IntKind.i64 r.lo,Value.int IntKind.i64 r.many,Value.slice Ad r.data.length cd,Value.slice At r.tags.length ct,Value.int IntKind.i64 r.born] 117)).heap.size=w.heap.size+2:=by simp
 generalize World.alloc _ _=W1 at L hb1 hsz1 ⊢;have hone:∀ u ∈ cs.flatMap Rc.cells,u.oneCell'=true:=fun u hu=>by obtain ⟨c,hc,hu⟩:=List.mem_flatMap.1 hu; exact rc_one S (Hok.out c hc) u hu
 have Hone:=Lib.hid hone;clear hone c65 m0 m1 m2 m3 m4 m5;refine (without_any F _ _ _ _ _ _ _ (Hl.out.rd.below hb1) Hone.out hil (by omega)).mono ?_;rintro e w3 ⟨v3,rfl,hown3,hb3⟩;obtain ⟨A3,c3,rfl⟩:=own_sl (own_lo hown3 (Nat.zero_le _));have hb4:=hb1.trans (hb3.mono hb1.size);have hrow3:=(hb4.block b hbl).trans Hrow.out;have c65:w3.cell? ⟨b,65,none⟩=some (.slice (some ⟨g,0,none⟩) d.l.length cap):=by rw [cell_of_row _ _ _ _ _ _ hrow3]; simpa using devCells_at_l d wv _ H.out.kept H.out.now
 have f65:w3.frozen? ⟨b,65,none⟩=false:=frozen_of_row _ _ _ _ _ hrow3;rw [drop_flat] at hown3;have hl3:(cs.take i ++ cs.drop (i+1)).length=d.l.length - 1:=by have:=Hlen.out; simp; omega
 have hdev:=DevAt.setL (TD:=TDr) (TP:=TPr) (S:=S) (a:=W1) (lv:=.slice (some ⟨g,0,none⟩) d.l.length cap) (lv':=.slice A3 (d.l.length - 1) c3) (cs':=cs.take i ++ cs.drop (i+1)) (Chg.of_below hb3) (fun k hk=>Nat.lt_of_lt_of_le (HF.out k hk) hb1.size) H.out.fb H.out.kept H.out.now hrow3
  ((Hw.out.keep (fun k _ hk=>hb4.block k hk)).mono (fun k hk=>.inl hk)) (by rw [hl3]; exact own_lo hown3 (Nat.zero_le _)) (fun k hv=>.inr (hown3.lt k hv).1) rfl
  (fun c hm=>by
   have:c ∈ cs:=by rcases List.mem_append.1 hm with hm | hm; exact List.mem_of_mem_take hm; exact List.mem_of_mem_drop hm
   exact (Hok.out c this).below hb4) HS.out (by decide) (by decide)
 obtain ⟨w4,hw4⟩:∃ u,w3.setCell ⟨b,65,none⟩ (.slice A3 (d.l.length - 1) c3)=u:=⟨_,rfl⟩
 rw [hw4] at hdev;obtain ⟨hd4,hc4⟩:=hdev;have L4:=L.chg2 hc4 (fun k h=>.inl h) (fun x hx hf=>by have h1:=L.own x hx; have h2:=HF.out _ hf; omega);have he:(cs.take i ++ cs.drop (i+1)).map (·.r)=d.l.eraseIdx i:=by rw [← Hcs.out,List.eraseIdx_eq_take_drop_succ]; simp
 rw [he] at hd4;have hd4:DevAt TDr TPr S (Grow F W1 w4) w4 b (d.drop i):=hd4;have Hd4:=Lib.hid hd4;have hF4:∀ k,Grow F W1 w4 k→k<w4.heap.size:=Grow.lt (fun k hk=>Nat.lt_of_lt_of_le (HF.out k hk) hb1.size) hc4.size;have HF4:=Lib.hid hF4;have HG4:Hid (∀ k,Grow F W1 w4 k→Grow F w w4 k):=fun k hk=>hk.elim .inl (fun h=>.inr ⟨Nat.le_trans hb1.size h.1,h.2⟩)
 have HS4:Hid (∀ k,S k→¬ Grow F W1 w4 k):=fun k hs hk=>hk.elim (HS.out k hs) (fun h=>by have:=Hlt.out k hs; have:=hb1.size; omega)
 have Hc4:=Lib.hid hc4;have Hb1:=Lib.hid hb1;have H41:Hid (W1.heap.size≤w4.heap.size):=hc4.size;clear hown3 hl3 hrow3 he hd4 L hb4 hb3 hb1 hF4 hc4;have hcok4:RcOk S w4 ⟨r,.slice Ad r.data.length cd,.slice At r.tags.length ct⟩:=Hcok.out.keep (L4.chg.keep HS.out);have Hcok4:=Lib.hid hcok4;obtain ⟨q0,q1,q2,q3,q4,q5⟩:=L4.c6 0 rfl;have HL4:=Lib.hid L4
 cases f with
 |true =>
  have HT:Hid (w4.there w.heap.size 0 (rsCells ⟨r,.slice Ad r.data.length cd,.slice At r.tags.length ct⟩ (.slice none 0 0) 8).size):=L4.there 1 rfl _ rfl;have Hi:Hid ((Tryz.prog.info? 123).map (·.size)=some (rsCells ⟨r,.slice Ad r.data.length cd,.slice At r.tags.length ct⟩ (.slice none 0 0) 8).size):=resInfo;have Hz:Hid ((rsCells ⟨r,.slice Ad r.data.length cd,.slice At r.tags.length ct⟩ (.slice none 0 0) 8).all (·.oneCell')=true):=rs_one hcok4;clear hcok4 L4
  go_wp2_with (
   refine wpList_store_mid rfl 123 (.tmp 6) (.tmp 42) rfl w.heap.size 0 (rsCells ⟨r,.slice Ad r.data.length cd,.slice At r.tags.length ct⟩ (.slice none 0 0) 8) rfl rfl HT.out Hi.out Hz.out ?_;have L5:=HL4.out.put 1 rfl (rsCells ⟨r,.slice Ad r.data.length cd,.slice At r.tags.length ct⟩ (.slice none 0 0) 8) rfl;have hc5:Chg (fun k=>k=w.heap.size) w4 _:=Chg.setCells (F:=fun k=>k=w.heap.size) (w:=w4) Chg.refl (.inl rfl) 0 (rsCells ⟨r,.slice Ad r.data.length cd,.slice At r.tags.length ct⟩ (.slice none 0 0) 8).toList
   generalize World.setCells _ _ _ _=W5 at L5 hc5 ⊢)
  obtain ⟨p0,p1,p2,p3,p4,p5,p6,p7⟩:=L5.c8 1 rfl;refine bodyPost_ret (v:=.tuple #[.agg (rsCells ⟨r,.slice Ad r.data.length cd,.slice At r.tags.length ct⟩ (.slice none 0 0) 8),.int .i64 0]) (by simp [results,Tryz.results108,go_sem,p0,p1,p2,p3,p4,p5,p6,p7]) rfl ?_
  have hne:∀ k,Grow F W1 w4 k→¬ k=w.heap.size:=fun k hk he=>by
   rcases hk with h | h
   ·have:=HF.out k h; omega
   ·omega
  have hneS:∀ k,S k→¬ k=w.heap.size:=fun k hk he=>by have:=Hlt.out k hk; omega
  have hG:∀ k,Grow F W1 w4 k→Grow F w W5 k:=fun k hk=>(HG4.out k hk).elim .inl (fun h=>.inr ⟨h.1,by have:=hc5.size; omega⟩)
  exact ⟨_,Grow F W1 w4,S,rfl,⟨_,_,rfl,rfl,Hcok4.out.keep (hc5.keep hneS),strs_nil _ _⟩,Hd4.out.apart hc5 hne hneS,L5.chg,fun k h=>.inl h,hG,fun k h=>h,fun k h=>.inl h,HS4.out⟩
 |false =>
  have Hne:Hid (∀ k,Grow F W1 w4 k→k≠w.heap.size∧k≠w.heap.size+1):=fun k hk=>by
   rcases hk with h | h
   ·have:=HF.out k h; omega
   ·omega
  obtain ⟨p,hlo⟩:∃ p:Nat,r.lo=(p:Int):=⟨r.lo.toNat,by have:=Hr.out.span.1; omega⟩
  obtain ⟨n,hmany⟩:∃ n:Nat,r.many=(n:Int):=⟨r.many.toNat,by have:=Hr.out.span.2.2.1; omega⟩
  have hpn:p+n≤32∧n≤4:=by have h:=Hr.out.span; unfold SpanOk at h; rw [hlo,hmany] at h; omega
  obtain ⟨hpn,hn4⟩:=hpn;have HFF:Hid (∀ k,F k→Grow F W1 w4 k):=fun k h=>.inl h
  generalize Grow F W1 w4=F4 at Hd4 HF4 HG4 HS4 Hne HFF;have q2':∀ o,(w4.alloc o).cell? ⟨w.heap.size+1,2,none⟩=some (.int .i64 r.many):=fun o=>(World.cell?_alloc_lt _ _ _ (L4.lt (x:=(w.heap.size+1,_,_)) List.mem_cons_self)).trans q2
  have hL5:=L4.alloc' w4.heap.size #[Value.bool r.write,Value.int IntKind.i64 r.lo,Value.int IntKind.i64 r.many,Value.slice Ad r.data.length cd,Value.slice At r.tags.length ct,Value.int IntKind.i64 r.born,.slice none 0 0,.int .i64 0] 123 rfl;have hb5:Below w4.heap.size w4 _:=(Below.refl _ _).alloc (Nat.le_refl _) (.cells #[Value.bool r.write,Value.int IntKind.i64 r.lo,Value.int IntKind.i64 r.many,Value.slice Ad r.data.length cd,Value.slice At r.tags.length ct,Value.int IntKind.i64 r.born,.slice none 0 0,.int .i64 0] 123);have hs5:(w4.alloc (.cells #[Value.bool r.write,Value.int IntKind.i64 r.lo,Value.int IntKind.i64 r.many,Value.slice Ad r.data.length cd,Value.slice At r.tags.length ct,Value.int IntKind.i64 r.born,.slice none 0 0,.int .i64 0] 123)).heap.size=w4.heap.size+1:=by simp
  have HL5:=Lib.hid hL5;have HB5:=Lib.hid hb5;have Hs5:=Lib.hid hs5;clear hcok4 L4 hL5 hb5 hs5;rcases Bool.eq_false_or_eq_true r.write with hwr | hwr
  ·go_wp2_with fail
   simp only [hwr,hlo,hmany] at HL5 HB5 Hs5;generalize World.alloc _ _=W5 at HL5 HB5 Hs5 ⊢;have hshape:(r.data.length:Int)=r.many:=by have:=Hr.out.shape; unfold shapeOk at this; rw [if_pos hwr] at this; exact this
   have hdl:r.data.length=n:=by omega
   have Hd5:=Lib.hid (Hd4.out.below HB5.out);clear hshape q2';go_loopw [10] (fun j wr=>∃ k:Nat,k≤n∧j=.int .i64 k∧Hid (Chg F4 W5 wr)∧Hid (DevAt TDr TPr S (Grow F4 W5 wr) wr b ((d.drop i).wrote p (r.data.take k)))) (fun j _=>n - (intOf j).toNat)
   case atStart=>exact ⟨0,by omega,rfl,Chg.refl,Hd5.out.mono (fun k h=>.inl h)⟩
   case round =>
    obtain ⟨k,hk,rfl,hcw,hdw⟩:=hrel;by_cases hlt:k<n
    ·
     have L:=HL5.out.chg2 hcw.out (fun k hk=>(HG4.out k hk).elim .inl (fun h=>.inr h.1)) (fun x hx hf=>by
      simp only [List.mem_cons,List.not_mem_nil,or_false] at hx;rcases hx with rfl | rfl | rfl
      ·exact absurd (HF4.out _ hf) (by omega)
      ·exact (Hne.out _ hf).2 rfl
      ·exact (Hne.out _ hf).1 rfl)
     obtain ⟨q0,q1,q2,q3,q4,q5⟩:=L.c6 1 rfl
     obtain ⟨dm,hdm⟩:∃ e,(d.drop i).wrote p (r.data.take k)=e:=⟨_,rfl⟩
     have hwm:dm.waits.length≤1000000000010:=by
      rw [← hdm,(Dv.wrote_same _ _ _).2.2.2,List.length_take];show d.waits.length+_≤_;omega
     rw [hdm] at hdw;have Hdm:=Lib.hid hdm;clear hdm;have hx:r.data[k]?=some r.data[k]:=List.getElem?_eq_getElem (by omega);obtain ⟨bs,os,rfl,hSb,hbs,hcell⟩:=Hcok.out.data.at_ (show 0<r.data.length by omega);obtain ⟨hcx,hsx⟩:=hcell k _ hx;have hcx:wr.cell? ⟨bs,os+k,none⟩=_:=(World.cell?_of_block (w:=w) (L.chg.keep HS.out _ hSb hbs)).trans hcx;have Hx:=Lib.hid hx;clear hx hcell;generalize r.data[k]=x at *;obtain ⟨wv,lv,cs',hrow',hw',hl',hcs',hok'⟩:=hdw.out.two;have hk':=hdw.out.kept;have hn':=hdw.out.now
     obtain ⟨hy1,hy2⟩:∃ y,dm.now[p+k]?=some y:=⟨_,List.getElem?_eq_getElem (by rw [hn']; omega)⟩
     have hcy:wr.cell? ⟨b,32+(p+k),none⟩=some (.string hy1):=by rw [cell_of_row _ _ _ _ _ _ hrow']; simpa using devCells_at_now _ wv lv hk' _ _ hy2
     have hfy:wr.frozen? ⟨b,32+(p+k),none⟩=false:=frozen_of_row _ _ _ _ _ hrow';have hat:IntKind.i64.wrap ((p:Int)+(k:Int))=((p+k:Nat):Int):=by rw [IntWalk.i64_in _ (by omega)]; omega
     have hat1:(0:Int)≤((p+k:Nat):Int):=by omega
     have hat2:((p+k:Nat):Int)<32:=by omega
     have hk1:(k:Int)<(r.data.length:Int):=by omega
     have hk2:(k:Int)<(n:Int):=by omega
     clear hrow' hw' hl' hcs' hok' hy2;go_wp2_with fail;go_region
     have hd6:=hdw.out.setNow (p+k) (by omega) x (fun c hs hg=>hg.elim (HS4.out c hs) (fun h2=>by have:=Hlt.out c hs; have:=Hb1.out.size; have:=H41.out; have:=Hs5.out; omega)) (by decide) (by decide);have hc6:=(hcw.out.setCell (p:=⟨b,32+(p+k),none⟩) (.inl Hd4.out.fb) (.string x)).drew;have hd6:=hd6.below (Below.refl _ _).drew
     obtain ⟨W6,hW6⟩:∃ u,World.drew (wr.setCell ⟨b,32+(p+k),none⟩ (.string x))=u:=⟨_,rfl⟩
     have hs6:W6.heap.size=wr.heap.size:=by rw [← hW6]; simp [World.setCell]
     rw [hW6] at hd6 hc6 ⊢;clear q0 q1 q2 q3 q4 q5 hcx hcy hfy hdw hcw L hk' hn' hW6
     have L:=HL5.out.chg2 hc6 (fun k hk=>(HG4.out k hk).elim .inl (fun h=>.inr h.1)) (fun x hx hf=>by
      simp only [List.mem_cons,List.not_mem_nil,or_false] at hx;rcases hx with rfl | rfl | rfl
      ·exact absurd (HF4.out _ hf) (by omega)
      ·exact (Hne.out _ hf).2 rfl
      ·exact (Hne.out _ hf).1 rfl)
     obtain ⟨q0,q1,q2,q3,q4,q5⟩:=L.c6 1 rfl
     have hcx:W6.cell? ⟨bs,os+k,none⟩=some (.string x):=(World.cell?_of_block (w:=w) (L.chg.keep HS.out _ hSb hbs)).trans (by
      obtain ⟨bs',os',e,_,_,hcell⟩:=Hcok.out.data.at_ (show 0<r.data.length by omega)
      cases e
      exact (hcell k _ Hx.out).1)
     obtain ⟨wv,lv,cs',hrow',hw',hl',hcs',hok'⟩:=hd6.two;have hk':=hd6.kept;have hn':=hd6.now;obtain ⟨A6,c6,rfl,hA1,hA2⟩:=hw'.form;unfold maxLen at hA2;have hbl6:=(Array.getElem?_eq_some_iff.1 hrow').1;have c64:W6.cell? ⟨b,64,none⟩=some (.slice A6 dm.waits.length c6):=by rw [cell_of_row _ _ _ _ _ _ hrow']; simpa using devCells_at_w _ _ lv hk' hn'
     have f64:W6.frozen? ⟨b,64,none⟩=false:=frozen_of_row _ _ _ _ _ hrow';obtain ⟨j0,hj0,hy0,hy1',hy2'⟩:=info_parts rputInfo;have Hown:=Lib.hid hw';have Hl':=Lib.hid hl';have Hcs':=Lib.hid hcs';have Hok':=Lib.hid hok';have Hrow':=Lib.hid hrow';have Hc6:=Lib.hid hc6;have Hfb:=Lib.hid hd6.fb;have Hne6:Hid (∀ k,k=b→some k≠(Value.slice A6 dm.waits.length c6).ownBlock):=fun k hkb e=>own_ne hw'.1 hrow' (by decide) k e.symm hkb
     have hA1:dm.waits.length≤c6:=hA1;have c64a:∀ o,(W6.alloc o).cell? ⟨b,64,none⟩=some (.slice A6 dm.waits.length c6):=fun o=>(World.cell?_alloc_lt _ _ _ hbl6).trans c64
     clear hw' hl' hcs' hok' hrow' hc6 hd6 L;go_wp2_with fail
     go_region_law (first
      |(refine step_append_rd (S:=fun _=>True) _ rfl (.tmp 73) (.tmp 81) _ rfl 0 135 j0 _ 2 24 Tryz.underlying49 hj0 hy0 hy1' hy2' rfl (by omega) (.slice A6 dm.waits.length c6) dm.waits.length (putCells dm.waits) (by simp [Act.eval,Act.put]) (Hown.out.1.alloc _) (.slice (some ⟨W6.heap.size,0,none⟩) 1 1) 1 [.int .i64 ((p:Int)+(k:Int)),.string x] (by simp [Act.eval,Act.put]) (rd_two _ _ _ _ _ (heap_alloc_new _ _)) (one_two _ _) (by simp only [maxLen]; omega) (by omega) (by omega) ?_
        intro v7 w7 hown7 hg7 hat7;obtain ⟨A7,c7,rfl⟩:=own_sl hown7;have p1:w7.cell? ⟨b,64,none⟩=some (.slice A6 dm.waits.length c6):=hg7.cell ((World.cell?_alloc_lt _ _ _ hbl6).trans c64) (Hne6.out b rfl)
        have p2:w7.frozen? ⟨b,64,none⟩=false:=(World.frozen?_of_block (hg7.block b (by simp; omega) (Hne6.out b rfl))).trans ((World.frozen?_alloc_past _ _ _ hbl6).trans f64)))
     all_goals
      have hbA:=((Below.refl W6.heap.size W6).alloc (Nat.le_refl _) (.cells #[.int .i64 ((p:Int)+(k:Int)),.string x] 135)).drew;have hsA:(World.drew (W6.alloc (.cells #[.int .i64 ((p:Int)+(k:Int)),.string x] 135))).heap.size=W6.heap.size+1:=by simp
      have hc7:Chg F4 W5 w7:=(Hc6.out.step hbA).grown hg7 (fun k hk=>(Hown.out.2 k hk).elim .inl (fun h=>.inr h.1));have hkW:∀ k,k<W6.heap.size→some k≠(Value.slice A6 dm.waits.length c6).ownBlock→w7.heap[k]?=W6.heap[k]?:=fun k hk hne=>(hg7.block k (by rw [hsA]; omega) hne).trans (hbA.block k hk)
      have hl7:w7.ownsRow 0 117 6 lv cs'.length (cs'.flatMap Rc.cells):=own_keepD Hl'.out.1 (fun k hv=>hkW k (Hl'.out.1.lt k hv).2 (fun e=>own_two Hl'.out.1 Hown.out.1 (by decide) k hv e.symm));have h65:W6.heap.size≤w7.heap.size:=by have:=hg7.size; omega
      have hfin:=DevAt.setW (TD:=TDr) (TP:=TPr) (S:=S) (a:=W5) (F:=F4) (lv:=lv) (wv:=.slice A6 dm.waits.length c6) (wv':=.slice A7 (dm.waits.length+1) c7) (cs:=cs') (l':=dm.waits ++ [(p+k,x)]) (d:={ dm with now:=dm.now.set (p+k) x })
       hc7 Hd4.out.fb hk' hn' ((hkW b hbl6 (Hne6.out b rfl)).trans Hrow'.out)
       ⟨hl7,fun k hv=>(Hl'.out.2 k hv).elim .inl (fun h=>.inr ⟨h.1,(hl7.lt k hv).2⟩)⟩
       (by
        have e1:(dm.waits ++ [(p+k,x)]).length=dm.waits.length+1:=by simp
        have e2:putCells (dm.waits ++ [(p+k,x)])=putCells dm.waits ++ [.int .i64 ((p:Int)+(k:Int)),.string x]:=by simp [putCells]
        rw [e1,e2]; exact hown7)
       (fun k hv=>by
        rcases hat7 with h | h
        ·exact (Hown.out.2 k (h▸hv)).elim .inl (fun h=>.inr h.1)
        ·rw [hv] at h; injection h with h; rw [hsA] at h; exact .inr (by have:=Hc6.out.size; omega))
       Hcs'.out (fun c hm=>(Hok'.out c hm).keep (fun k hs hk=>hkW k hk (fun e=>(Hown.out.2 k e.symm).elim (HS4.out k hs) (fun h2=>by have:=Hlt.out k hs; have:=Hb1.out.size; have:=H41.out; have:=Hs5.out; omega)))) HS4.out (by decide) (by decide)
      have Hfin:=Lib.hid hfin;clear hfin hc7 hkW hl7 h65 hbA hsA hg7 hown7 hat7 p1 p2 q0 q1 q2 q3 q4 q5 c64 c64a f64 hcx;go_wp2_with fail;go_roundw
      case rel =>
       refine ⟨k+1,by omega,by go_num,Hfin.out.2,?_⟩;show DevAt _ _ _ _ _ _ _;rw [Dv.wrote_succ Hx.out,Hdm.out];exact Hfin.out.1
      case measure=>simp [intOf]; omega
    ·obtain rfl:k=n:=by omega
     have hd9:=hdw.out;rw [List.take_of_length_le (by omega)] at hd9;have Hd9:=Lib.hid hd9
     have L:=HL5.out.chg2 hcw.out (fun k hk=>(HG4.out k hk).elim .inl (fun h=>.inr h.1)) (fun x hx hf=>by
      simp only [List.mem_cons,List.not_mem_nil,or_false] at hx;rcases hx with rfl | rfl | rfl
      ·exact absurd (HF4.out _ hf) (by omega)
      ·exact (Hne.out _ hf).2 rfl
      ·exact (Hne.out _ hf).1 rfl)
     clear hd9 hdw;obtain ⟨q0,q1,q2,q3,q4,q5,q6,q7⟩:=L.c8 0 rfl;obtain ⟨z0,z1,z2,z3,z4,z5⟩:=L.c6 1 rfl
     obtain ⟨vs,hvs⟩:∃ vs:Array Value,#[.bool true,.int .i64 (p:Int),.int .i64 (k:Int),.slice Ad k cd,.slice At r.tags.length ct,.int .i64 r.born,.slice none 0 0,.int .i64 0]=vs:=⟨_,rfl⟩
     have hve:vs=rsCells ⟨r,.slice Ad r.data.length cd,.slice At r.tags.length ct⟩ (.slice none 0 0) 0:=by rw [← hvs]; simp [rsCells,hwr,hlo,hmany,hdl]
     have HT:Hid (wr.there w.heap.size 0 vs.size):=L.there 2 rfl _ (by rw [← hvs]; rfl);have Hi:Hid ((Tryz.prog.info? 123).map (·.size)=some vs.size):=by rw [← hvs]; exact resInfo
     have Hz:Hid (vs.all (·.oneCell')=true):=by rw [hve]; exact rs_one Hcok4.out
     have HLr:=Lib.hid L;have Hve:=Lib.hid hve;clear L hve
     go_wp2_with (
      refine wpList_store_mid rfl 123 (.tmp 6) (.tmp 96) rfl w.heap.size 0 vs rfl rfl HT.out Hi.out Hz.out ?_;have L9:=HLr.out.put 2 rfl vs (by rw [← hvs]; rfl);have hc9:Chg (fun k=>k=w.heap.size) wr _:=Chg.setCells (F:=fun k=>k=w.heap.size) (w:=wr) Chg.refl (.inl rfl) 0 vs.toList
      generalize World.setCells _ _ _ _=W9 at L9 hc9 ⊢)
     rw [← hvs] at L9;obtain ⟨p0,p1,p2,p3,p4,p5,p6,p7⟩:=L9.c8 2 rfl;refine bodyPost_ret (v:=.tuple #[.agg vs,.int .i64 0]) (by simp [results,Tryz.results108,go_sem,p0,p1,p2,p3,p4,p5,p6,p7,← hvs]) rfl ?_;have hneS:∀ k,S k→¬ k=w.heap.size:=fun k hk he=>by have:=Hlt.out k hk; omega
     have hne:∀ k,Grow F4 W5 wr k→¬ k=w.heap.size:=fun k hk he=>hk.elim (fun h=>(Hne.out k h).1 he) (fun h=>by have:=Hs5.out; have:=HLr.out.lt (x:=(w.heap.size,_,_)) (List.mem_cons_of_mem _ (List.mem_cons_of_mem _ List.mem_cons_self)); have:=Hb1.out.size; have:=H41.out; omega)
     have hG:∀ k,Grow F4 W5 wr k→Grow F w W9 k:=fun k hk=>by
      have:=hc9.size;have:=Hs5.out;have:=Hb1.out.size;have:=H41.out;rcases hk with h | h
      ·rcases HG4.out k h with h | h
       ·exact .inl h
       ·exact .inr ⟨h.1,by have:=hcw.out.size; omega⟩
      ·exact .inr ⟨by omega,by omega⟩
     have he:d.ended r i false=((d.drop i).wrote p r.data,⟨r,[],0⟩):=by
      unfold Dv.ended;rw [if_neg (by simp),if_pos hwr,hlo];simp
     rw [he];refine ⟨_,Grow F4 W5 wr,S,rfl,⟨_,_,congrArg Value.agg Hve.out,rfl,Hcok.out.keep (L9.chg.keep HS.out),strs_nil _ _⟩,Hd9.out.apart hc9 hne hneS,L9.chg,fun k h=>?_,hG,fun k h=>h,fun k h=>.inl h,fun c hs hk=>?_⟩
     ·exact .inl (HFF.out k h)
     ·exact hk.elim (HS4.out c hs) (fun h2=>by have:=Hlt.out c hs; have:=Hb1.out.size; have:=H41.out; have:=Hs5.out; omega)
  ·obtain ⟨s0,hs0,hs1,hs2,hs3⟩:=info_parts strInfo
   go_wp2_with fail;simp only [hwr,hlo,hmany] at HL5 HB5 Hs5;generalize World.alloc _ _=W5 at HL5 HB5 Hs5 ⊢;have Hd5:=Lib.hid (Hd4.out.below HB5.out);clear q2';have Hrow5:=Lib.hid (HL5.out.at_ 0 rfl);go_loopw [10] (fun j wr=>∃ (k:Nat) (v:Value),k≤n∧j=.int .i64 k∧Hid (Chg (fun q=>q=w4.heap.size) W5 wr)∧Hid (wr.heap[w4.heap.size]?=some (.cells #[Value.bool false,Value.int IntKind.i64 p,Value.int IntKind.i64 n,Value.slice Ad r.data.length cd,Value.slice At r.tags.length ct,Value.int IntKind.i64 r.born,v,.int .i64 0] 123 (0,0)))∧Hid (wr.ownsRow W5.heap.size 9 1 v k ((d.reads p k).map .string))) (fun j _=>n - (intOf j).toNat)
   case atStart=>exact ⟨0,_,by omega,rfl,Chg.refl,Hrow5.out,by show World.ownsRow _ _ _ _ _ _ _; unfold Dv.reads; exact World.ownsRow_nil _ _ _ _⟩
   case round =>
    obtain ⟨k,v,hk,rfl,hcw,hrw,how⟩:=hrel;have L:=HL5.out.turn 0 rfl hcw.out hrw.out;simp only [List.set_cons_zero] at L;by_cases hlt:k<n
    ·
     obtain ⟨q0,q1,q2,q3,q4,q5,q6,q7⟩:=L.c8 0 rfl;obtain ⟨z0,z1,z2,z3,z4,z5⟩:=L.c6 1 rfl;have f6:=L.frozen 0 rfl 6;obtain ⟨Av,cv,rfl⟩:=own_sl (own_lo how.out (Nat.zero_le _));have hdw:=Hd5.out.apart hcw.out (fun k hk e=>absurd (HF4.out k hk) (by omega)) (fun k hk e=>by have:=Hlt.out k hk; have:=Hb1.out.size; have:=H41.out; omega);obtain ⟨wv',lv',hrow'⟩:=hdw.row
     obtain ⟨y,hy⟩:∃ y,(d.drop i).now[p+k]?=some y:=⟨_,List.getElem?_eq_getElem (by rw [hdw.now]; omega)⟩
     have hcy:wr.cell? ⟨b,32+(p+k),none⟩=some (.string y):=by rw [cell_of_row _ _ _ _ _ _ hrow']; simpa using devCells_at_now _ _ _ hdw.kept _ _ hy
     have hcya:∀ o,(wr.alloc o).cell? ⟨b,32+(p+k),none⟩=some (.string y):=fun o=>(World.cell?_alloc_lt _ _ _ (block_lt_of_cell hcy)).trans hcy
     have q6a:∀ o,(wr.alloc o).cell? ⟨w4.heap.size,6,none⟩=some (.slice Av k cv):=fun o=>(World.cell?_alloc_lt _ _ _ (block_lt_of_cell q6)).trans q6
     have hat:IntKind.i64.wrap ((p:Int)+(k:Int))=((p+k:Nat):Int):=by rw [IntWalk.i64_in _ (by omega)]; omega
     have hat1:(0:Int)≤((p+k:Nat):Int):=by omega
     have hat2:((p+k:Nat):Int)<32:=by omega
     have hk2:(k:Int)<(n:Int):=by omega
     have hat3:(0:Int)≤(p:Int)+(k:Int):=by omega
     have hat4:(p:Int)+(k:Int)<32:=by omega
     have hat5:((p:Int)+(k:Int)).toNat=p+k:=by omega
     have Hy:=Lib.hid hy;have HLw:=Lib.hid L;have h45:w4.heap.size<wr.heap.size:=L.lt (x:=(w4.heap.size,_,_)) List.mem_cons_self;have h5w:=Lib.hid hcw.out.size;clear hdw hrow' hy L;go_wp2_with fail
     go_region_law (first
      |(refine step_append_rd (S:=fun _=>True) _ rfl (.tmp 86) (.tmp 93) _ rfl W5.heap.size 9 s0 _ 1 16 Tryz.underlying22 hs0 hs1 hs2 hs3 rfl (by omega) (.slice Av k cv) k ((d.reads p k).map .string) (by simp [Act.eval,Act.put]) (how.out.alloc _) (.slice (some ⟨wr.heap.size,0,none⟩) 1 1) 1 [.string y] (by simp [Act.eval,Act.put]) (rd_s1 _ _ _ _ (heap_alloc_new _ _)) (one_s1 _) (by simp only [maxLen]; omega) (by omega) (by have:=h5w.out; simp; omega) ?_
        intro v7 w7 hown7 hg7 hat7;clear hat7;obtain ⟨A7,c7,rfl⟩:=own_sl (own_lo hown7 (Nat.zero_le _));have hne7:∀ k',k'=w4.heap.size→some k'≠(Value.slice Av k cv).ownBlock:=fun k' e e2=>by have:=(how.out.lt k' e2.symm).1; have:=Hs5.out; omega
        have p1:w7.cell? ⟨w4.heap.size,6,none⟩=some (.slice Av k cv):=hg7.cell (q6a _) (hne7 _ rfl)
        have p2:w7.frozen? ⟨w4.heap.size,6,none⟩=false:=(World.frozen?_of_block (hg7.block w4.heap.size (by simp; omega) (hne7 _ rfl))).trans ((World.frozen?_alloc_past _ _ _ h45).trans f6)))
     all_goals
      have hbA:=((Below.refl wr.heap.size wr).alloc (Nat.le_refl _) (.cells #[.string y] 9)).drew;have hsA:(World.drew (wr.alloc (.cells #[.string y] 9))).heap.size=wr.heap.size+1:=by simp
      have hc7:Chg (fun q=>q=w4.heap.size) W5 w7:=(hcw.out.step hbA).grown hg7 (fun k hk=>.inr (how.out.lt k hk).1);have hr7:w7.heap[w4.heap.size]?=some _:=((hg7.block w4.heap.size (by rw [hsA]; omega) (hne7 _ rfl)).trans (hbA.block _ h45)).trans hrw.out;have hr8:=heap_setCell_same _ _ 6 _ _ (.slice A7 (k+1) c7) hr7;have hc8:=hc7.setCell (p:=⟨w4.heap.size,6,none⟩) (.inl rfl) (.slice A7 (k+1) c7)
      have ho8:(w7.setCell ⟨w4.heap.size,6,none⟩ (.slice A7 (k+1) c7)).ownsRow W5.heap.size 9 1 (.slice A7 (k+1) c7) (k+1) ((d.reads p (k+1)).map .string):=by
       have e:(d.reads p (k+1)).map Value.string=(d.reads p k).map .string ++ [.string y]:=by
        unfold Dv.reads;rw [List.take_add_one,List.getElem?_drop,show d.now[p+k]?=some y from Hy.out];simp
       rw [e];exact own_keepD hown7 (fun q hv=>Below.heap_setCell _ _ _ _ (by have:=(hown7.lt q hv).1; have:=Hs5.out; simp only; omega))
      have Hr8:=Lib.hid hr8;have Hc8:=Lib.hid hc8;have Ho8:=Lib.hid ho8;clear hr8 hc8 ho8 hc7 hr7 hbA hsA hg7 hown7 hne7 p1 p2 q0 q1 q2 q3 q4 q5 q6 q7 z0 z1 z2 z3 z4 z5 q6a hcy hcya f6;go_wp2_with fail;go_roundw
      case rel=>exact ⟨k+1,_,by omega,by go_num,Hc8.out,Hr8.out,Ho8.out⟩
      case measure=>simp [intOf]; omega
    ·obtain rfl:k=n:=by omega
     have HLr:=Lib.hid L;obtain ⟨q0,q1,q2,q3,q4,q5,q6,q7⟩:=L.c8 0 rfl;obtain ⟨z0,z1,z2,z3,z4,z5⟩:=L.c6 1 rfl;obtain ⟨Av,cv,rfl⟩:=own_sl (own_lo how.out (Nat.zero_le _))
     obtain ⟨vs,hvs⟩:∃ vs:Array Value,#[.bool false,.int .i64 (p:Int),.int .i64 (k:Int),.slice Ad r.data.length cd,.slice At r.tags.length ct,.int .i64 r.born,.slice Av k cv,.int .i64 0]=vs:=⟨_,rfl⟩
     have hve:vs=rsCells ⟨r,.slice Ad r.data.length cd,.slice At r.tags.length ct⟩ (.slice Av k cv) 0:=by rw [← hvs]; simp [rsCells,hwr,hlo,hmany]
     have HT:Hid (wr.there w.heap.size 0 vs.size):=L.there 2 rfl _ (by rw [← hvs]; rfl);have Hi:Hid ((Tryz.prog.info? 123).map (·.size)=some vs.size):=by rw [← hvs]; exact resInfo
     have Hz:Hid (vs.all (·.oneCell')=true):=by rw [hve]; exact rs_one Hcok4.out
     have Hve:=Lib.hid hve;clear L hve
     go_wp2_with (
      refine wpList_store_mid rfl 123 (.tmp 6) (.tmp 96) rfl w.heap.size 0 vs rfl rfl HT.out Hi.out Hz.out ?_;have L9:=HLr.out.put 2 rfl vs (by rw [← hvs]; rfl);have hc9:Chg (fun k=>k=w.heap.size) wr _:=Chg.setCells (F:=fun k=>k=w.heap.size) (w:=wr) Chg.refl (.inl rfl) 0 vs.toList
      generalize World.setCells _ _ _ _=W9 at L9 hc9 ⊢)
     rw [← hvs] at L9;obtain ⟨p0,p1,p2,p3,p4,p5,p6,p7⟩:=L9.c8 2 rfl;refine bodyPost_ret (v:=.tuple #[.agg vs,.int .i64 0]) (by simp [results,Tryz.results108,go_sem,p0,p1,p2,p3,p4,p5,p6,p7,← hvs]) rfl ?_;have hs1:=Hb1.out.size;have hs2:=H41.out;have hs3:=Hs5.out;have hs4:=hcw.out.size;have hs5:=hc9.size;have hlw:=HL5.out.lt (x:=(w.heap.size,_,_)) (List.mem_cons_of_mem _ (List.mem_cons_of_mem _ List.mem_cons_self))
     have he:d.ended r i false=(d.drop i,⟨r,d.reads p k,0⟩):=by
      unfold Dv.ended;rw [if_neg (by simp),if_neg (by rw [hwr]; simp),hlo,hmany];simp
     rw [he];have hd9:=(Hd5.out.apart hcw.out (fun k hk e=>absurd (HF4.out k hk) (by omega)) (fun k hk e=>by have:=Hlt.out k hk; omega)).apart hc9 (fun k hk e=>(Hne.out k hk).1 e) (fun k hk e=>by have:=Hlt.out k hk; omega)
     have hst:StrsAt (fun q=>S q∨(W5.heap.size≤q∧q<W9.heap.size)) W9 (.slice Av k cv) (d.reads p k):=by
      have h9:W9.ownsRow W5.heap.size 9 1 (.slice Av k cv) k ((d.reads p k).map .string):=own_keepD how.out (fun q hv=>hc9.block q (how.out.lt q hv).2 (by have:=(how.out.lt q hv).1; omega));have hl9:(d.reads p k).length=k:=by unfold Dv.reads; have:=H.out.now; simp; omega
      refine ⟨?_,fun s hs=>Hnow.out s (List.mem_of_mem_drop (List.mem_of_mem_take hs))⟩;rw [hl9];exact Ow.rd ⟨own_lo h9 (Nat.zero_le _),fun q hv=>.inr (h9.lt q hv)⟩
     refine ⟨_,F4,fun q=>S q∨(W5.heap.size≤q∧q<W9.heap.size),rfl,⟨_,_,congrArg Value.agg Hve.out,rfl,(Hcok.out.keep (L9.chg.keep HS.out)).more (fun q h=>.inl h),hst⟩,hd9,L9.chg,HFF.out,fun q h=>?_,fun q h=>.inl h,fun q h=>?_,fun q h hf=>?_⟩
     ·exact (HG4.out q h).elim .inl (fun h=>.inr ⟨h.1,by omega⟩)
     ·exact h.elim .inl (fun h=>.inr ⟨by omega,h.2⟩)
     ·exact h.elim (fun h=>HS4.out q h hf) (fun h=>absurd (HF4.out q hf) (by omega))
end Go.Proofs.YtagndjihiklmiaaGreatDoor
