/- The small methods of the reference's stack: answer, Got, Quiet. -/
import Derived.Laws.Rows
import Derived.Test.YtaeadmlgffaegaaGreatDoorQ18
set_option linter.unusedSimpArgs false
set_option linter.unusedVariables false
set_option maxRecDepth 100000
set_option maxHeartbeats 8000000
namespace Go.Proofs.YtaeadmlgffaegaaGreatDoor
open Go.RowKit
abbrev Tr:Tys:=⟨81,143,TDr,TPr,105⟩
theorem ranswer_any (col:Nat→Nat) (w:World) (b bd N:Nat) (x:Sv) (s:St) (c:Nat) (d:ByteArray) (e:Nat) (h:StAt Tr col w b bd N x s) (hc:c<3) :
  Calls Tryz.prog 88 #[.pointer (some ⟨b,0,none⟩),.int .i64 (c:Int),.string d,.int .i64 (e:Int)] w (Ret1 Tr col w b bd N (x.ans c d e) (s.answer c d e) (.tuple #[])):=by
 have H:=Lib.hid h
 have c11:w.cell? ⟨b,11,none⟩=some x.a0:=h.cell 11
 have c12:w.cell? ⟨b,12,none⟩=some x.a1:=h.cell 12
 have c13:w.cell? ⟨b,13,none⟩=some x.a2:=h.cell 13
 have c14:w.cell? ⟨b,14,none⟩=some (.string x.d0):=h.cell 14
 have c15:w.cell? ⟨b,15,none⟩=some (.string x.d1):=h.cell 15
 have c16:w.cell? ⟨b,16,none⟩=some (.string x.d2):=h.cell 16
 have c17:w.cell? ⟨b,17,none⟩=some (.int .i64 (x.e0:Int)):=h.cell 17
 have c18:w.cell? ⟨b,18,none⟩=some (.int .i64 (x.e1:Int)):=h.cell 18
 have c19:w.cell? ⟨b,19,none⟩=some (.int .i64 (x.e2:Int)):=h.cell 19
 have hfr:=fun k=>h.frozen k
 clear h
 match c,hc with
 |0,_ =>
  go_enter Tryz.func88,Tryz.ntmps88
  go_wp2_with fail
  go_end0
  have hrow:=heap_setCell_same _ _ 17 _ _ (.int .i64 (e:Int)) (heap_setCell_same _ _ 14 _ _ (.string d) (heap_setCell_same _ _ 11 _ _ (.pointer none) H.out.row))
  have hb:=(((Same1.refl (b:=b) (w:=w)).setCell 11 (.pointer none)).setCell 14 (.string d)).setCell 17 (.int .i64 (e:Int))
  exact ⟨rfl,hb,H.out.ans hb (by omega) hrow⟩
 |1,_ =>
  go_enter Tryz.func88,Tryz.ntmps88
  go_wp2_with fail
  go_end0
  have hrow:=heap_setCell_same _ _ 18 _ _ (.int .i64 (e:Int)) (heap_setCell_same _ _ 15 _ _ (.string d) (heap_setCell_same _ _ 12 _ _ (.pointer none) H.out.row))
  have hb:=(((Same1.refl (b:=b) (w:=w)).setCell 12 (.pointer none)).setCell 15 (.string d)).setCell 18 (.int .i64 (e:Int))
  exact ⟨rfl,hb,H.out.ans hb (by omega) hrow⟩
 |2,_ =>
  go_enter Tryz.func88,Tryz.ntmps88
  go_wp2_with fail
  go_end0
  have hrow:=heap_setCell_same _ _ 19 _ _ (.int .i64 (e:Int)) (heap_setCell_same _ _ 16 _ _ (.string d) (heap_setCell_same _ _ 13 _ _ (.pointer none) H.out.row))
  have hb:=(((Same1.refl (b:=b) (w:=w)).setCell 13 (.pointer none)).setCell 16 (.string d)).setCell 19 (.int .i64 (e:Int))
  exact ⟨rfl,hb,H.out.ans hb (by omega) hrow⟩
theorem rgot_any (col:Nat→Nat) (w:World) (b bd N:Nat) (x:Sv) (s:St) (c:Nat) (h:StAt Tr col w b bd N x s) (hc:c<3) :
  Calls Tryz.prog 37 #[.pointer (some ⟨b,0,none⟩),.int .i64 (c:Int)] w (Ret (.tuple #[.string (s.got c).1,.int .i64 ((s.got c).2:Nat)]) w):=by
 rw [h.got_eq hc]
 match c,hc with
 |0,_ =>
  have c1:w.cell? ⟨b,14,none⟩=some (.string (x.dn 0)):=h.cell 14
  have c2:w.cell? ⟨b,17,none⟩=some (.int .i64 (x.er 0:Int)):=h.cell 17
  clear h
  generalize x.dn 0=D at *
  generalize x.er 0=E at *
  by_cases he:E=0
  ·subst he
   go_enter Tryz.func37,Tryz.ntmps37
   go_wp2_with fail
   go_ret2
   exact ⟨rfl,Below.refl _ _⟩
  ·have hne:0<(E:Int):=by omega
   rw [if_neg he]
   go_enter Tryz.func37,Tryz.ntmps37
   go_wp2_with fail
   go_quiet (fail)
   go_wp2_with fail
   go_ret2
   exact ⟨rfl,belowN (Below.refl _ _) _⟩
 |1,_ =>
  have c1:w.cell? ⟨b,15,none⟩=some (.string (x.dn 1)):=h.cell 15
  have c2:w.cell? ⟨b,18,none⟩=some (.int .i64 (x.er 1:Int)):=h.cell 18
  clear h
  generalize x.dn 1=D at *
  generalize x.er 1=E at *
  by_cases he:E=0
  ·subst he
   go_enter Tryz.func37,Tryz.ntmps37
   go_wp2_with fail
   go_ret2
   exact ⟨rfl,Below.refl _ _⟩
  ·have hne:0<(E:Int):=by omega
   rw [if_neg he]
   go_enter Tryz.func37,Tryz.ntmps37
   go_wp2_with fail
   go_quiet (fail)
   go_wp2_with fail
   go_ret2
   exact ⟨rfl,belowN (Below.refl _ _) _⟩
 |2,_ =>
  have c1:w.cell? ⟨b,16,none⟩=some (.string (x.dn 2)):=h.cell 16
  have c2:w.cell? ⟨b,19,none⟩=some (.int .i64 (x.er 2:Int)):=h.cell 19
  clear h
  generalize x.dn 2=D at *
  generalize x.er 2=E at *
  by_cases he:E=0
  ·subst he
   go_enter Tryz.func37,Tryz.ntmps37
   go_wp2_with fail
   go_ret2
   exact ⟨rfl,Below.refl _ _⟩
  ·have hne:0<(E:Int):=by omega
   rw [if_neg he]
   go_enter Tryz.func37,Tryz.ntmps37
   go_wp2_with fail
   go_quiet (fail)
   go_wp2_with fail
   go_ret2
   exact ⟨rfl,belowN (Below.refl _ _) _⟩
end Go.Proofs.YtaeadmlgffaegaaGreatDoor
namespace Go.Proofs.YtaeadmlgffaegaaGreatDoor
open Go.RowKit Go.Sort
theorem heldInfo:(Tryz.prog.info? 145).map (·.size)=some 32:=by kernel_rfl
theorem drewN_below' (B:Nat) (w:World) (n:Nat):Below B w (w.drewN n):=⟨rfl,rfl,rfl,Nat.le_refl _,fun _ _=>rfl⟩
def hldV (hl:List Bool):Array Value:=(hl.map Value.bool).toArray
def heldL (hl:List Bool) (p:Int):Bool:=hl.getD p.toNat false
theorem hldV_get {hl:List Bool} (h:hl.length=32) {p:Nat} (hp:p<32):(hldV hl)[p]?=some (.bool (heldL hl (p:Int))):=by
 unfold hldV heldL
 rw [List.getElem?_toArray,List.getElem?_map,Int.toNat_natCast,List.getD_eq_getElem?_getD]
 have:hl[p]?=some hl[p]:=List.getElem?_eq_getElem (by omega)
 rw [this]; rfl
theorem least_any (S:Nat→Prop) (l:List Bf) (v:Value) (dirty:Bool) (hl:List Bool) (w:World) (h:BufsAt S w v l) (hin:InB l) (h32:hl.length=32) (hn:l.length≤65536) :
  Calls Tryz.prog 122 #[v,.bool dirty,.agg (hldV hl)] w (Ret (.int .i64 (leastB l dirty (heldL hl))) w):=by
 obtain ⟨A,cap,rfl,h1,h2⟩:=h.form
 unfold maxLen at h2
 have H:=Lib.hid h
 have HI:=Lib.hid hin
 have Hget:=Lib.hid (fun (p:Nat) (hp:p<32)=>hldV_get h32 hp)
 clear h hin h32
 obtain ⟨V,hV⟩:∃ V,hldV hl=V:=⟨_,rfl⟩
 rw [hV] at Hget ⊢
 clear hV
 obtain ⟨ok,hok⟩:∃ ok,okB dirty (heldL hl)=ok:=⟨_,rfl⟩
 have HO:=Lib.hid hok
 have Hone:Hid (∀ x,ok x=okB dirty (heldL hl) x):=fun x=>by rw [hok]
 clear hok
 go_enter Tryz.func122,Tryz.ntmps122
 go_wp2_with fail
 have L0:=Lib.hid ((Lay.refl w).alloc' w.heap.size V 145 rfl)
 generalize World.alloc _ _=W0 at L0 ⊢
 go_loopw [7,8] (fun b i wr=>∃ k:Nat,k≤l.length∧i=.int .i64 k∧b=.int .i64 (bestB ok l k)∧Hid (Lay w wr [(w.heap.size,145,V)])) (fun _ i _=>l.length - (intOf i).toNat)
 case atStart=>exact ⟨0,by omega,rfl,rfl,L0⟩
 case round =>
  obtain ⟨k,hk,rfl,rfl,HL⟩:=hrel
  have hrange:=bestB_range ok l k
  by_cases hlt:k<l.length
  ·have hkl:(k:Int)<(l.length:Int):=by omega
   have Hm:=Lib.hid (H.out.below HL.out.below)
   obtain ⟨b,off,rfl,_,hbl,hc⟩:=Hm.out.at_ (by omega)
   have hx:l[k]?=some l[k]:=List.getElem?_eq_getElem hlt
   obtain ⟨_,k0,k1,k2,k3⟩:=hc k _ hx
   have hp:=HI.out _ (List.mem_of_getElem? hx)
   have Hx:=Lib.hid hx
   have Hc:=Lib.hid hc
   clear hx hc
   generalize l[k]=x at *
   have Hok:=Lib.hid (Hone.out x)
   cases hd:(x.dirty == dirty) with
   |false =>
    have Hd:=Lib.hid hd
    clear hrange hp
    go_wp2_with fail
    go_quiet (fail)
    go_wp2
    go_roundw
    case rel=>exact ⟨k+1,by omega,by go_num,by rw [bestB_no Hx.out (by rw [Hok.out]; unfold okB; rw [Hd.out]; rfl)],HL.out.step (Below.mono (drewN_below' _ _ _) (Nat.le_refl _))⟩
    case measure=>simp [intOf]; omega
   |true =>
    have Hd:=Lib.hid hd
    obtain ⟨q,hq⟩:∃ q:Nat,x.pos=(q:Int):=⟨x.pos.toNat,by omega⟩
    have hq32:q<32:=by omega
    have hcell:wr.cell? ⟨w.heap.size,q,none⟩=some (.bool (heldL hl (q:Int))):=by
     have h3:=HL.out.row _ (List.mem_cons_self ..)
     rw [cell_of_row _ _ _ _ _ _ h3]; exact Hget.out q hq32
    have hq1:(q:Int)<32:=by omega
    rw [hq] at k0
    have Hq:=Lib.hid hq
    clear hq hp
    cases hhx:heldL hl (q:Int) with
    |true =>
     rw [hhx] at hcell
     have Hhx:=Lib.hid hhx
     clear hrange hhx
     go_wp2_with fail
     go_quiet (fail)
     go_wp2
     go_roundw
     case rel=>exact ⟨k+1,by omega,by go_num,by rw [bestB_no Hx.out (by rw [Hok.out]; unfold okB; rw [Hd.out,Hq.out,Hhx.out]; rfl)],HL.out.step (Below.mono (drewN_below' _ _ _) (Nat.le_refl _))⟩
     case measure=>simp [intOf]; omega
    |false =>
     rw [hhx] at hcell
     have Hhx:=Lib.hid hhx
     by_cases hneg:bestB ok l k<0
     ·have hm1:bestB ok l k = -1:=by omega
      have Hm1:=Lib.hid hm1
      rw [hm1]
      clear hm1 hneg hrange hhx
      go_wp2_with fail
      go_quiet (fail)
      go_wp2
      go_roundw
      case rel=>exact ⟨k+1,by omega,by go_num,by rw [bestB_first Hx.out (by rw [Hok.out]; unfold okB; rw [Hd.out,Hq.out,Hhx.out]; rfl) (by rw [Hm1.out]; omega)],HL.out.step (Below.mono (drewN_below' _ _ _) (Nat.le_refl _))⟩
      case measure=>simp [intOf]; omega
     ·obtain ⟨j,hj⟩:∃ j:Nat,bestB ok l k=j:=⟨(bestB ok l k).toNat,by omega⟩
      have Hj:=Lib.hid hj
      rw [hj]
      have hjk:j<k:=by omega
      have hjl:(j:Int)<(l.length:Int):=by omega
      have hj0:¬ (j:Int)<0:=by omega
      clear hj hneg hrange hhx
      have hxj:l[j]?=some l[j]:=List.getElem?_eq_getElem (by omega)
      obtain ⟨_,j0,j1,j2,j3⟩:=Hc.out j _ hxj
      have Hxj:=Lib.hid hxj
      clear hxj
      generalize l[j]=y at *
      by_cases hless:x.used<y.used
      ·have Hless:=Lib.hid hless
       go_wp2_with fail
       go_quiet (fail)
       go_wp2
       go_roundw
       case rel=>exact ⟨k+1,by omega,by go_num,by rw [bestB_less Hx.out (by rw [Hok.out]; unfold okB; rw [Hd.out,Hq.out,Hhx.out]; rfl) Hj.out Hxj.out Hless.out],HL.out.step (Below.mono (drewN_below' _ _ _) (Nat.le_refl _))⟩
       case measure=>simp [intOf]; omega
      ·have Hless:=Lib.hid hless
       have hless2:decide (x.used<y.used)=false:=decide_eq_false hless
       go_wp2_with fail
       go_quiet (fail)
       go_wp2
       go_roundw
       case rel=>exact ⟨k+1,by omega,by go_num,by rw [bestB_more Hx.out Hj.out Hxj.out (by have:=Hless.out; omega)],HL.out.step (Below.mono (drewN_below' _ _ _) (Nat.le_refl _))⟩
       case measure=>simp [intOf]; omega
  ·obtain rfl:k=l.length:=by omega
   clear hrange
   go_wp2
   go_ret
   refine ⟨?_,HL.out.below⟩
   rw [leastB_eq,HO.out]; rfl
theorem rpick_any (S:Nat→Prop) (l:List Bf) (v:Value) (hl:List Bool) (w:World) (h:BufsAt S w v l) (hin:InB l) (h32:hl.length=32) (hn:l.length≤65536) :
  Calls Tryz.prog 79 #[v,.agg (hldV hl)] w (Ret (.int .i64 (pickB l (heldL hl))) w):=by
 obtain ⟨A,cap,rfl,h1,h2⟩:=h.form
 unfold maxLen at h2
 have H:=Lib.hid h
 have HI:=Lib.hid hin
 have H32:=Lib.hid h32
 have hr:=bestB_range (okB true (heldL hl)) l l.length
 have hpk:pickB l (heldL hl)=if leastB l true (heldL hl)<0 then -1 else (l.getD (leastB l true (heldL hl)).toNat default).pos:=rfl
 rw [← leastB_eq] at hr
 have Hr:=Lib.hid hr
 have Hpk:=Lib.hid hpk
 have hV1:(hldV hl).size=32:=by simp [hldV,h32]
 have HV1:=Lib.hid hV1
 have Hone:Hid (∀ u ∈ (hldV hl).toList,u.oneCell'=true):=fun u hu=>by
  simp [hldV] at hu; rcases hu with ⟨_,rfl⟩ | ⟨_,rfl⟩ <;> rfl
 clear h hin h32 hr hpk hV1
 go_enter Tryz.func79,Tryz.ntmps79
 obtain ⟨V,hV⟩:∃ V,hldV hl=V:=⟨_,rfl⟩
 have HV:=Lib.hid hV
 rw [hV] at HV1 ⊢
 have Hs:Hid ((Tryz.prog.info? 145).map (·.size)=some V.size):=show _=_ by rw [HV1.out]; exact heldInfo
 clear hV Hone
 have L:=Lib.hid ((Lay.refl w).alloc' w.heap.size V 145 rfl)
 have Hrow:=Lib.hid (L.out.row _ (List.mem_cons_self ..))
 go_wp2_with (refine wpList_load_row rfl 145 (.tmp 3) rfl w.heap.size rfl 145 V (0,0) _ Hrow.out Tryz.underlying145 rfl Hs.out ?_)
 rw [← HV.out] at L ⊢
 generalize World.alloc _ _=W at L ⊢
 refine (least_any S l _ true hl _ (H.out.below L.out.below) HI.out H32.out hn).mono ?_
 rintro e w1 ⟨rfl,hb1⟩
 have hb2:=L.out.below.trans (hb1.mono L.out.size)
 have Hb2:=Lib.hid hb2
 clear hb1 hb2 L Hrow
 obtain ⟨B,hB⟩:∃ B,leastB l true (heldL hl)=B:=⟨_,rfl⟩
 rw [hB] at Hpk Hr ⊢
 clear hB
 by_cases hneg:B<0
 ·go_wp2_with fail
  go_ret
  refine ⟨?_,Hb2.out⟩
  have:=Hpk.out
  rw [if_pos hneg] at this
  rw [this]; rfl
 ·obtain ⟨j,rfl⟩:∃ j:Nat,B=(j:Int):=⟨B.toNat,by omega⟩
  have hjk:j<l.length:=by have:=Hr.out; omega
  have hxj:l[j]?=some l[j]:=List.getElem?_eq_getElem (by omega)
  have hpk:=Hpk.out
  rw [if_neg hneg,Int.toNat_natCast,List.getD_eq_getElem?_getD,hxj,Option.getD_some] at hpk
  have Hpk2:=Lib.hid hpk
  obtain ⟨b,off,rfl,_,hbl,hc⟩:=(H.out.below Hb2.out).at_ (by omega)
  obtain ⟨_,k0,k1,k2,k3⟩:=hc j _ hxj
  generalize l[j]=y at *
  have hjl:(j:Int)<(l.length:Int):=by omega
  have hj0:¬ (j:Int)<0:=by omega
  clear hxj hpk hneg hc
  go_wp2
  go_ret
  refine ⟨?_,Hb2.out⟩
  rw [Hpk2.out]; rfl
end Go.Proofs.YtaeadmlgffaegaaGreatDoor
namespace Go.Proofs.YtaeadmlgffaegaaGreatDoor
def hlOf (s:St):List Bool:=(List.range 32).map (fun k:Nat=>s.heldP (k:Int))
theorem hlOf_len (s:St):(hlOf s).length=32:=by simp [hlOf]
theorem hlOf_at (s:St) {p:Int} (h0:0≤p) (h1:p≤31):heldL (hlOf s) p=s.heldP p:=by
 unfold heldL hlOf
 rw [List.getD_eq_getElem?_getD,List.getElem?_map,List.getElem?_range (by omega)]
 simp [Int.toNat_of_nonneg h0]
def hlI (l:List Rq) (i:Nat):List Bool:=(List.range 32).map (fun p:Nat=>(l.take i).any (hasR (p:Int)))
def hlK (l:List Rq) (i:Nat) (lo:Int) (k:Nat):List Bool:=(List.range 32).map (fun p:Nat=>(l.take i).any (hasR (p:Int)) || (decide (lo≤(p:Int)) && decide ((p:Int)<lo+(k:Int))))
theorem hlK_len (l:List Rq) (i:Nat) (lo:Int) (k:Nat):(hlK l i lo k).length=32:=by simp [hlK]
theorem hlI_zero (l:List Rq):hlI l 0=List.replicate 32 false:=by
 unfold hlI
 simp only [List.take_zero,List.any_nil]
 rfl
theorem hlK_zero (l:List Rq) (i:Nat) (lo:Int):hlK l i lo 0=hlI l i:=by
 unfold hlK hlI
 apply List.map_congr_left
 intro p _
 have:(decide (lo≤(p:Int)) && decide ((p:Int)<lo+((0:Nat):Int)))=false:=by
  rw [Bool.and_eq_false_iff,decide_eq_false_iff_not,decide_eq_false_iff_not]; omega
 rw [this,Bool.or_false]
theorem hlK_set (l:List Rq) (i:Nat) {lo:Int} {k:Nat} (h0:0≤lo) (h1:lo+(k:Int)<32):(hlK l i lo k).set (lo+(k:Int)).toNat true=hlK l i lo (k+1):=by
 apply List.ext_getElem?
 intro p
 unfold hlK
 rw [List.getElem?_set,List.getElem?_map,List.getElem?_map,List.length_map,List.length_range]
 by_cases hp:p<32
 ·rw [List.getElem?_range hp]
  simp only [Option.map_some]
  by_cases he:(lo+(k:Int)).toNat=p
  ·rw [if_pos he,if_pos (by omega)]
   have h2:decide (lo≤(p:Int))=true:=by rw [decide_eq_true_eq]; omega
   have h3:decide ((p:Int)<lo+((k+1:Nat):Int))=true:=by rw [decide_eq_true_eq]; omega
   rw [h2,h3]; simp
  ·rw [if_neg he]
   have e:(decide (lo≤(p:Int)) && decide ((p:Int)<lo+(k:Int)))=(decide (lo≤(p:Int)) && decide ((p:Int)<lo+((k+1:Nat):Int))):=by
    rw [Bool.eq_iff_iff]; simp only [Bool.and_eq_true,decide_eq_true_eq]; omega
   rw [e]
 ·have hn:(List.range 32)[p]?=none:=List.getElem?_eq_none (by simp; omega)
  rw [hn,if_neg (by omega)]
  rfl
theorem hlK_end {l:List Rq} {i:Nat} {r:Rq} (h:l[i]?=some r) (hm:0≤r.many):hlK l i r.lo r.many.toNat=hlI l (i+1):=by
 unfold hlK hlI
 apply List.map_congr_left
 intro p _
 rw [List.take_add_one,h,List.any_append]
 congr 1
 show _=(List.any [r] (hasR (p:Int)))
 simp only [List.any_cons,List.any_nil,Bool.or_false]
 unfold hasR
 rw [Bool.eq_iff_iff,hasB_iff]
 simp only [Bool.and_eq_true,decide_eq_true_eq]
 omega
theorem hlI_end (s:St):hlI (s.wait ++ s.v.d.l) (s.wait ++ s.v.d.l).length=hlOf s:=by
 unfold hlI hlOf
 apply List.map_congr_left
 intro p _
 rw [List.take_length,heldP_eq]
 rfl
theorem bestB_congr {l:List Bf} {f g:Bf→Bool} (h:∀ x ∈ l,f x=g x):∀ k,bestB f l k=bestB g l k
 |0=>rfl
 |k+1=>by
  unfold bestB
  cases hx:l[k]? with
  |none=>exact bestB_congr h k
  |some r=>simp only [bestB_congr h k,h r (List.mem_of_getElem? hx)]
theorem leastB_congr {l:List Bf} {f g:Int→Bool} (hin:∀ x ∈ l,0≤x.pos∧x.pos≤31) (h:∀ p,0≤p→p≤31→f p=g p) (d:Bool):leastB l d f=leastB l d g:=by
 unfold leastB
 exact bestB_congr (fun x hx=>by rw [h x.pos (hin x hx).1 (hin x hx).2]) _
theorem putB_congr {l:List Bf} {b:Bf} {f g:Int→Bool} (hin:∀ x ∈ l,0≤x.pos∧x.pos≤31) (h:∀ p,0≤p→p≤31→f p=g p):putB l b f=putB l b g:=by
 unfold putB
 rw [leastB_congr hin h]
theorem pickB_congr {l:List Bf} {f g:Int→Bool} (hin:∀ x ∈ l,0≤x.pos∧x.pos≤31) (h:∀ p,0≤p→p≤31→f p=g p):pickB l f=pickB l g:=by
 unfold pickB
 rw [leastB_congr hin h]
end Go.Proofs.YtaeadmlgffaegaaGreatDoor
namespace Go.Proofs.YtaeadmlgffaegaaGreatDoor
open Go.RowKit
theorem hldV_set {hl:List Bool} {j:Nat}:(hldV hl).setIfInBounds j (.bool true)=hldV (hl.set j true):=by
 unfold hldV
 rw [List.map_set]; simp
theorem rheld_any (col:Nat→Nat) (w:World) (b bd N:Nat) (x:Sv) (s:St) (h:StAt Tr col w b bd N x s) (hI:Inv s) :
  Calls Tryz.prog 80 #[.pointer (some ⟨b,0,none⟩)] w (Ret (.agg (hldV (hlOf s))) w):=by
 obtain ⟨cs,hcs,hrd,hok⟩:=h.wait
 obtain ⟨Aw,cw,hxw,hw1,hw2⟩:=hrd.form
 rw [hxw] at hrd
 obtain ⟨_,hk32,hn32,wv,lv,ds,hrowd,_,hld,hds,hokd⟩:=h.drv.dev
 obtain ⟨Ad,cd,hlv,hd1,hd2⟩:=hld.form
 subst hlv
 have hcl:cs.length=s.wait.length:=by rw [← hcs,List.length_map]
 have hdl:ds.length=s.v.d.l.length:=by rw [← hds,List.length_map]
 have h6:cs.length≤6:=by have:=hI.wait6; omega
 have h2:ds.length≤2:=by have:=hI.dv.two; omega
 have Hcl:=Lib.hid hcl
 have Hdl:=Lib.hid hdl
 have H:=Lib.hid h
 have HI:=Lib.hid hI
 have Hrd:=Lib.hid hrd
 have Hld:=Lib.hid hld.rd
 have Hcs:=Lib.hid hcs
 have Hds:=Lib.hid hds
 have H1:Hid (∀ u ∈ cs.flatMap Rc.cells,u.oneCell'=true):=fun u hu=>by obtain ⟨c,hc,hu⟩:=List.mem_flatMap.1 hu; exact rc_one _ (hok c hc) u hu
 have H1d:Hid (∀ u ∈ ds.flatMap Rc.cells,u.oneCell'=true):=fun u hu=>by obtain ⟨c,hc,hu⟩:=List.mem_flatMap.1 hu; exact rc_one _ (hokd c hc) u hu
 have c0:w.cell? ⟨b,0,none⟩=some (.pointer (some ⟨bd,0,none⟩)):=h.cell 0
 have c3:w.cell? ⟨b,3,none⟩=some (.slice Aw cs.length cw):=(h.cell 3).trans (by rw [← hxw]; rfl)
 have c65:w.cell? ⟨bd,65,none⟩=some (.slice Ad ds.length cd):=by rw [cell_of_row _ _ _ _ _ _ hrowd]; simpa using devCells_at_l s.v.d wv _ hk32 hn32
 clear h hI hrd hok hrowd hld hds hokd hcs hxw hcl hdl
 go_enter Tryz.func80,Tryz.ntmps80
 go_wp2_with fail
 change Code.wp _ _ _ _ ((w.alloc (.cells (hldV (List.replicate 32 false)) 145)).alloc (.cells (hldV (List.replicate 32 false)) 145))
 have L:=((Lay.refl w).alloc' w.heap.size (hldV (List.replicate 32 false)) 145 rfl).alloc' (w.heap.size+1) (hldV (List.replicate 32 false)) 145 (by simp)
 generalize (w.alloc (.cells (hldV (List.replicate 32 false)) 145)).alloc (.cells (hldV (List.replicate 32 false)) 145)=W at L ⊢
 obtain ⟨B,hB⟩:∃ B,w.heap.size=B:=⟨_,rfl⟩
 rw [hB] at L ⊢
 have HL:=Lib.hid L
 have c0:=cell_b L.below c0
 have c3:=cell_b L.below c3
 have c65:=cell_b L.below c65
 have HRw:=Lib.hid ((Hrd.out.below L.below).below (w':=W.drew) (Below.refl _ _).drew)
 have HRd:=Lib.hid (Hld.out.below L.below)
 have HC0:=Lib.hid c0
 have HC65:=Lib.hid c65
 have HB:=Lib.hid hB
 obtain ⟨i0,hi0,hz0,hz1,hz2⟩:=info_parts reqInfo
 clear L hB
 go_region_law (first
  |(refine step_append_rd _ rfl (.const (.slice none 0 0)) (.tmp 10) 47 rfl W.heap.size 123 i0 _ 6 80 Tryz.underlying47 hi0 hz0 hz1 hz2 rfl (by omega) (.slice none 0 0) 0 [] rfl (World.ownsRow_nil _ _ _ _) (.slice Aw cs.length cw) cs.length (cs.flatMap Rc.cells) (by simp [Act.eval,Act.put]) HRw.out H1.out (by simp only [maxLen]; omega) (by omega) (by simp) ?_; intro v1 w1 hown1 hg1 hat1; clear hat1; have hb1:=(Below.refl W.heap.size W).drew.grown hg1 (by simp) (fun k hk=>by simp [Value.ownBlock] at hk); have e4:=hb1.size; have c0:=cell_b hb1 HC0.out; have c65:=cell_b hb1 HC65.out)
  |(refine step_append_rd _ rfl (.tmp 11) (.tmp 18) 47 rfl W.heap.size 123 i0 _ 6 80 Tryz.underlying47 hi0 hz0 hz1 hz2 rfl (by omega) v1 (0+cs.length) ([] ++ cs.flatMap Rc.cells) (by simp [Act.eval,Act.put]) hown1 (.slice Ad ds.length cd) ds.length (ds.flatMap Rc.cells) (by simp [Act.eval,Act.put]) (HRd.out.below hb1) H1d.out (by simp only [maxLen]; omega) (by omega) e4 ?_; intro v2 w12 hown2 hg2 hat2; clear hat2; have hb2:=hb1.grown hg2 e4 (fun k hk=>(hown1.lt k hk).1)))
 all_goals
  simp only [Nat.zero_add,List.nil_append] at hown2
  rw [← List.flatMap_append,← List.length_append] at hown2
  have hR:=Rd.of_own (S:=fun k=>W.heap.size≤k) w12 (fun _ hk=>hk) hown2
  have hmap:(cs ++ ds).map (·.r)=s.wait ++ s.v.d.l:=by rw [List.map_append,Hcs.out,Hds.out]
  have hes8:(cs ++ ds).length≤8:=by rw [List.length_append]; omega
  have L12:=Lib.hid (HL.out.step hb2)
  have HWz:Hid (B+1<W.heap.size):=show _<_ from HL.out.lt (List.mem_cons_self ..)
  clear hown1 hown2 hg1 hg2 hb1 hb2 e4 c0 c65 HL
  generalize cs ++ ds=es at hR hmap hes8
  obtain ⟨A2,c2,rfl,hc21,hc22⟩:=hR.form
  have HR:=Lib.hid hR
  have Hmap:=Lib.hid hmap
  have Hokq:=Lib.hid (good_oks HI.out.good)
  obtain ⟨l,hl⟩:∃ l,s.wait ++ s.v.d.l=l:=⟨_,rfl⟩
  rw [hl] at Hmap Hokq
  have Hl:=Lib.hid hl
  have hc23:c2≤9223372036854775807:=by unfold maxLen at hc22; omega
  clear hR hmap hl hc22 Hcs Hds H1 H1d HRw HRd HC0 HC65 hi0 hz0 hz1 hz2
  go_wp2_with fail
  go_loopw [5,6] (fun i _ wr=>∃ (k:Nat),k≤es.length∧i=.int .i64 k∧Hid (Lay w wr [(B+1,145,hldV (hlI l k)),(B,145,hldV (List.replicate 32 false))])∧Hid (Rd (fun k=>W.heap.size≤k) wr 6 (.slice A2 es.length c2) es.length (es.flatMap Rc.cells))) (fun i _ _=>es.length - (intOf i).toNat)
  case atStart=>exact ⟨0,by omega,rfl,by rw [hlI_zero]; exact L12.out,HR.out⟩
  case round =>
   obtain ⟨k,hk,rfl,HL,HRr⟩:=hrel
   by_cases hlt:k<es.length
   ·have hlt2:(k:Int)<(es.length:Int):=by omega
    have hx:es[k]?=some es[k]:=List.getElem?_eq_getElem hlt
    have hra:l[k]?=some es[k].r:=by rw [← Hmap.out,List.getElem?_map,hx]; rfl
    obtain ⟨a1,a2,a3,_,a5⟩:=(Hokq.out _ (List.mem_of_getElem? hra)).span
    obtain ⟨lo,hlo⟩:∃ n:Nat,es[k].r.lo=(n:Int):=⟨es[k].r.lo.toNat,by omega⟩
    obtain ⟨mn,hmn⟩:∃ n:Nat,es[k].r.many=(n:Int):=⟨es[k].r.many.toNat,by omega⟩
    have hend:=hlK_end hra (by omega)
    rw [hlo,hmn,Int.toNat_natCast] at hend
    rw [hlo,hmn] at a5
    have f1:(es.flatMap Rc.cells)[k * 6+1]?=some (.int .i64 (lo:Int)):=by rw [← hlo]; exact flat_get es k 1 _ hx (by omega)
    have f2:(es.flatMap Rc.cells)[k * 6+2]?=some (.int .i64 (mn:Int)):=by rw [← hmn]; exact flat_get es k 2 _ hx (by omega)
    have F1:=Lib.hid f1
    have F2:=Lib.hid f2
    have Hend:=Lib.hid hend
    clear hx hra a1 a2 a3 hlo hmn f1 f2 hend
    go_wp2_with fail
    go_loopw [6] (fun j wr2=>∃ (m:Nat),m≤mn∧j=.int .i64 m∧Hid (Lay w wr2 [(B+1,145,hldV (hlK l k (lo:Int) m)),(B,145,hldV (List.replicate 32 false))])∧Hid (Rd (fun k=>W.heap.size≤k) wr2 6 (.slice A2 es.length c2) es.length (es.flatMap Rc.cells))) (fun j _=>mn - (intOf j).toNat)
    case atStart=>exact ⟨0,by omega,rfl,by rw [hlK_zero]; exact HL.out,HRr.out⟩
    case round =>
     clear HL HRr
     obtain ⟨m,hm,rfl,HL,HRr⟩:=hrel
     obtain ⟨g,off,rfl,hgS,_,hc⟩:=HRr.out.at_ (by omega) (by omega)
     have n1:=hc _ _ F1.out
     have n2:=hc _ _ F2.out
     rw [← Nat.add_assoc] at n1 n2
     clear hc
     by_cases hmm:m<mn
     ·have hmm2:(m:Int)<(mn:Int):=by omega
      have hw:IntKind.i64.wrap ((lo:Int)+(m:Int))=(lo:Int)+(m:Int):=by rw [IntKind.wrap_i64]; omega
      have hi32:(lo:Int)+(m:Int)<32:=by omega
      have hi0:¬ (lo:Int)+(m:Int)<0:=by omega
      have htn:((lo:Int)+(m:Int)).toNat=lo+m:=by omega
      have hcc:wr.cell? ⟨B+1,lo+m,none⟩=some (.bool (heldL (hlK l k (lo:Int) m) ((lo+m:Nat):Int))):=(HL.out.cell 0 rfl (lo+m)).trans (hldV_get (hlK_len _ _ _ _) (by omega))
      have hff:=HL.out.frozen 0 rfl (lo+m)
      have L2:Lay w (wr.setCell ⟨B+1,lo+m,none⟩ (.bool true)) [(B+1,145,hldV (hlK l k (lo:Int) (m+1))),(B,145,hldV (List.replicate 32 false))]:=by
       have h:=HL.out.set 0 rfl (lo+m) (.bool true)
       rw [hldV_set,← htn,hlK_set l k (by omega) hi32] at h
       rw [htn] at h
       exact h
      have hR2:Rd (fun k=>W.heap.size≤k) (wr.setCell ⟨B+1,lo+m,none⟩ (.bool true)) 6 (.slice (some ⟨g,off,none⟩) es.length c2) es.length (es.flatMap Rc.cells):=HRr.out.keep (fun q hq _=>Below.heap_setCell _ _ _ _ (by have:=HWz.out; intro e; simp at e; omega))
      have HL2:=Lib.hid L2
      have HR2:=Lib.hid hR2
      clear L2 hR2
      go_wp2_with fail
      go_roundw
      case rel=>exact ⟨m+1,by omega,by go_num,HL2.out,HR2.out⟩
      case measure=>simp [intOf]; omega
     ·obtain rfl:m=mn:=by omega
      have hmm2:¬ (m:Int)<(m:Int):=by omega
      go_wp2_with fail
      go_roundw
      case rel=>exact ⟨k+1,by omega,by go_num,by rw [← Hend.out]; exact HL.out,HRr.out⟩
      case measure=>simp [intOf]; omega
   ·obtain rfl:k=es.length:=by omega
    have hlt2:¬ (es.length:Int)<(es.length:Int):=by omega
    have hll:l.length=es.length:=by rw [← Hmap.out,List.length_map]
    have HE:Hid (hlI l es.length=hlOf s):=show _=_ by rw [← hll,← Hl.out]; exact hlI_end s
    rw [HE.out] at HL
    have hlen:=hlOf_len s
    obtain ⟨hs,hhs⟩:∃ hs,hlOf s=hs:=⟨_,rfl⟩
    rw [hhs] at HL hlen
    have Hhs:=Lib.hid hhs
    clear hhs
    have HRg:Hid (wr.rangeAt (B+1) 0 (hs.map .bool)):=fun j v hj=>by
     rw [Nat.zero_add,HL.out.cell 0 rfl j]
     unfold hldV
     rw [List.getElem?_toArray]; exact hj
    have hrow:=HL.out.at_ 1 rfl
    have HT:Hid (wr.there B 0 (hs.map Value.bool).toArray.size):=there_of_row hrow 0 _ (by rw [List.size_toArray,List.length_map,hlen]; decide)
    have Hs:Hid ((Tryz.prog.info? 145).map (·.size)=some (hs.map Value.bool).length):=show _=_ by rw [List.length_map,hlen]; kernel_rfl
    have Ho:Hid ((hs.map Value.bool).toArray.all (·.oneCell')=true):=all_oneCell_toArray (fun v hv=>by obtain ⟨s,_,rfl⟩:=List.mem_map.1 hv; rfl)
    have hrow2:=heap_setCells_row B _ (hs.map .bool) 0 wr _ hrow
    have hsm:setMany (hldV (List.replicate 32 false)) 0 (hs.map .bool)=(hs.map .bool).toArray:=by
     have:=setMany_mid (hs.map Value.bool) [] ((List.replicate 32 false).map Value.bool) [] (by simp [hlen])
     simpa [hldV] using this
    rw [hsm] at hrow2
    have hbB:Below w.heap.size w (wr.setCells B 0 (hs.map .bool)):=HL.out.below.trans ((Chg.refl.setCells (F:=fun q=>q=B) (.inl rfl) 0 (hs.map .bool)).below (fun q hq=>by subst hq; have:=HB.out; omega) HL.out.below.size)
    obtain ⟨W2,hW2⟩:∃ u,wr.setCells B 0 (hs.map .bool)=u:=⟨_,rfl⟩
    rw [hW2] at hrow2 hbB
    have HRg2:Hid (W2.rangeAt B 0 (hs.map .bool)):=fun j v hj=>by
     rw [Nat.zero_add,cell_of_row _ _ j _ _ _ hrow2,List.getElem?_toArray]; exact hj
    have HW2:=Lib.hid hW2
    have HbB:=Lib.hid hbB
    clear hrow hrow2 hsm hbB hW2 hlen
    go_wp2_with (first
     |(refine wpList_load_mid rfl 145 (.tmp 3) rfl (B+1) 0 rfl (hs.map .bool) _ HRg.out Tryz.underlying145 rfl Hs.out ?_)
     |(refine wpList_store_mid rfl 145 (.tmp 2) (.tmp 45) rfl B 0 (hs.map Value.bool).toArray rfl rfl HT.out (by rw [List.size_toArray]; exact Hs.out) Ho.out ?_
       rw [show wr.setCells B 0 (hs.map Value.bool).toArray.toList=W2 from HW2.out]))
    have hlv:=run_loadVar_mid (P:=Tryz.prog) W2 B 0 145 (hs.map .bool) _ HRg2.out Tryz.underlying145 rfl Hs.out
    refine bodyPost_ret (v:=.agg (hldV hs)) ?_ rfl ⟨by rw [Hhs.out],HbB.out⟩
    simp [results,Tryz.results80,asAddr,Sem.run_bind,Sem.run_pure,Result.andThen_ok,hlv,hldV]
end Go.Proofs.YtaeadmlgffaegaaGreatDoor
namespace Go.Proofs.YtaeadmlgffaegaaGreatDoor
open Go.RowKit Go.Sort
theorem cell_below' {w w':World} {a:Addr} {v:Value} (hb:Below w.heap.size w w') (h:w.cell? a=some v):w'.cell? a=some v:=by
 rw [hb.cell (block_lt_of_cell h)]; exact h
structure PureOk (m:Rq):Prop where
 data:∀ s ∈ m.data,s.size≤maxLen
 tags:∀ t ∈ m.tags,-9223372036854775808≤t∧t≤9223372036854775807
 lo:i64 m.lo
 many:i64 m.many
 born:i64 m.born
theorem RcOk.pure {S:Nat→Prop} {w:World} {c:Rc} (h:RcOk S w c):PureOk c.r:=⟨h.data.2,h.tags.2,h.lo,h.many,h.born⟩
theorem ReqAt.pure {S:Nat→Prop} {w:World} {v:Value} {r:Rq} (h:ReqAt S w v r):PureOk r:=by
 obtain ⟨c,rfl,_,hok⟩:=h
 exact hok.pure
def CV (o:Option Rq) (base:Nat):Value→World→Prop:=fun v w'=>match o with
 |none=>v=.agg #[.bool false,.int .i64 0,.int .i64 0,.slice none 0 0,.slice none 0 0,.int .i64 0]
 |some m=>PureOk m∧∃ p q,v=.agg #[.bool m.write,.int .i64 m.lo,.int .i64 m.many,p,q,.int .i64 m.born]∧w'.ownsRow base 9 1 p m.data.length (m.data.map .string)∧w'.ownsRow base 3 1 q m.tags.length (m.tags.map (.int .i64))
theorem CV.req {S:Nat→Prop} {o:Option Rq} {base:Nat} {v:Value} {w:World} (hS:∀ b,base≤b→S b) (h:CV o base v w):ReqAt S w v (o.getD zeroR):=by
 cases o with
 |none=>obtain rfl:=h; exact zero_at
 |some m =>
  obtain ⟨hp,p,q,rfl,h1,h2⟩:=h
  exact ⟨⟨m,p,q⟩,rfl,rfl,strs_own hS h1 hp.data,ints_own hS h2 hp.tags,hp.lo,hp.many,hp.born⟩
def RetMergeO (o:Option Rq) (w:World):Ending→World→Prop:=fun E w'=>∃ v,E=.returned (.tuple #[v,.bool o.isSome])∧CV o w.heap.size v w'∧Below w.heap.size w w'
theorem reto_none {w w':World} (h:Below w.heap.size w w'):RetMergeO none w (.returned (.tuple #[.agg #[.bool false,.int .i64 0,.int .i64 0,.slice none 0 0,.slice none 0 0,.int .i64 0],.bool false])) w' :=
 ⟨_,rfl,rfl,h⟩
theorem reto_joined {w w3 u:World} {x y:Rq} (hw3:w.heap.size≤w3.heap.size) (hx:ReqOk x) (hy:ReqOk y) (hxs:∀ s ∈ x.data,s.size≤maxLen) (hys:∀ s ∈ y.data,s.size≤maxLen)
  (hxt:∀ t ∈ x.tags,-9223372036854775808≤t∧t≤9223372036854775807) (hyt:∀ t ∈ y.tags,-9223372036854775808≤t∧t≤9223372036854775807) {p q:Value} (hp:MF65 w3 x y p u) (hq:MF71 w3 x y q u) (hb:Below w.heap.size w u) :
  RetMergeO (some (joinM x y)) w (.returned (.tuple #[.agg #[.bool x.write,.int .i64 x.lo,.int .i64 (x.many+y.many),p,q,.int .i64 (min x.born y.born)],.bool true])) u:=by
 obtain ⟨a1,a2,a3,a4,a5⟩:=hx.span
 obtain ⟨b1,b2,b3,b4,b5⟩:=hy.span
 obtain ⟨n1,n2⟩:=hx.born
 obtain ⟨m1,m2⟩:=hy.born
 refine ⟨_,rfl,⟨⟨?_,?_,?_,?_,?_⟩,p,q,rfl,?_,?_⟩,hb⟩
 ·intro s hs
  rcases List.mem_append.1 hs with h | h
  ·exact hxs s h
  ·exact hys s h
 ·intro s hs
  rcases List.mem_append.1 hs with h | h
  ·exact hxt s h
  ·exact hyt s h
 ·show i64 x.lo; unfold i64; omega
 ·show i64 (x.many+y.many); unfold i64; omega
 ·show i64 (min x.born y.born); unfold i64; omega
 ·have:u.ownsRow w.heap.size 9 1 p (x.data.length+y.data.length) (x.data.map .string ++ y.data.map .string):=own_mono hp hw3
  simpa [joinM] using this
 ·have:u.ownsRow w.heap.size 3 1 q (x.tags.length+y.tags.length) (x.tags.map (.int .i64) ++ y.tags.map (.int .i64)):=own_mono hq hw3
  simpa [joinM] using this
theorem put6_keep (w:World) (g:Nat) (v0 v1 v2 v3 v4 v5:Value):∀ b,b≠g→((((((w.setCell ⟨g,0,none⟩ v0).setCell ⟨g,1,none⟩ v1).setCell ⟨g,2,none⟩ v2).setCell ⟨g,3,none⟩ v3).setCell ⟨g,4,none⟩ v4).setCell ⟨g,5,none⟩ v5).heap[b]?=w.heap[b]?:=by
 intro b hb
 repeat (rw [heap_setCell_other _ _ b _ (by simpa using hb)])
theorem Lay.to {w wr:World} {l l':List (Nat × TypeId × Array Value)} (h:Lay w wr l) (e:l=l'):Lay w wr l':=e▸h
theorem zero3 (w:World) (o1 o2:Obj) (T:TypeId) (k:Nat):(((w.alloc o1).alloc o2).alloc (Obj.cells #[Value.bool false,Value.int IntKind.i64 0,Value.int IntKind.i64 0,Value.slice none 0 0,Value.slice none 0 0,Value.int IntKind.i64 0] T)).cell? ⟨w.heap.size+1+1,k,none⟩ =
  (#[Value.bool false,Value.int IntKind.i64 0,Value.int IntKind.i64 0,Value.slice none 0 0,Value.slice none 0 0,Value.int IntKind.i64 0]:Array Value)[k]?:=by
 have e:((w.alloc o1).alloc o2).heap.size=w.heap.size+1+1:=by simp
 rw [← e]
 exact cell_of_row _ _ k _ _ _ (heap_alloc_new _ _)
theorem rmerge_bad (S:Nat→Prop) (x y:Rq) (vx vy:Value) (args:Array Value) (w:World) (hx:ReqAt S w vx x) (hy:ReqAt S w vy y) (okx:ReqOk x) (oky:ReqOk y) (hk:¬ joinOk x y)
  (hargs:(args=#[vx,vy]∧y.lo+y.many≠x.lo)∨(args=#[vy,vx]∧x.lo+x.many=y.lo)) :
  Calls Tryz.prog 151 args w (RetMergeO (joinedM x y) w):=by
 obtain ⟨Ad,cd,At,ct,rfl,had,hat,adl,atl,_,_,_⟩:=hx.opened
 obtain ⟨Bd,dd,Bt,dt,rfl,hbd,hbt,bdl,btl,_,_,_⟩:=hy.opened
 obtain ⟨a1,a2,a3,a4,a5⟩:=okx.span
 obtain ⟨b1,b2,b3,b4,b5⟩:=oky.span
 have hsx:IntKind.i64.wrap (x.lo+x.many)=x.lo+x.many:=IntWalk.i64_in _ (by omega)
 have hsy:IntKind.i64.wrap (y.lo+y.many)=y.lo+y.many:=IntWalk.i64_in _ (by omega)
 have hsum:IntKind.i64.wrap (x.many+y.many)=x.many+y.many:=IntWalk.i64_in _ (by omega)
 obtain ⟨t1,t2⟩:=okx.tags
 obtain ⟨t3,t4⟩:=oky.tags
 have htg:IntKind.i64.wrap ((x.tags.length:Int)+(y.tags.length:Int))=(x.tags.length:Int)+(y.tags.length:Int):=IntWalk.i64_in _ (by omega)
 clear hx hy had hat hbd hbt okx oky
 have hn:joinedM x y=none:=by unfold joinedM; rw [if_neg hk]
 have key:((x.lo+x.many != y.lo)=true)∨(x.lo+x.many=y.lo∧((x.write=true∧y.write=false)∨(x.write=false∧y.write=true))) ∨
    (x.lo+x.many=y.lo∧y.write=x.write∧decide (4<x.many+y.many)=true)∨(x.lo+x.many=y.lo∧y.write=x.write∧decide (4<x.many+y.many)=false∧decide (4<(x.tags.length:Int)+(y.tags.length:Int))=true):=by
  unfold joinOk at hk
  by_cases h1:x.lo+x.many=y.lo
  ·by_cases h2:x.write=y.write
   ·by_cases h3:x.many+y.many≤4
    ·right; right; right
     exact ⟨h1,h2.symm,by simp; omega,by have:¬ (x.tags.length+y.tags.length≤4):=fun h=>hk ⟨h1,h2,h3,h⟩; simp; omega⟩
    ·right; right; left
     exact ⟨h1,h2.symm,by simp; omega⟩
   ·right; left
    refine ⟨h1,?_⟩
    cases hx:x.write <;> cases hy:y.write <;> simp [hx,hy] at h2 ⊢
  ·left; simpa using h1
 have Hn:=Lib.hid hn
 clear hn hk
 rcases hargs with ⟨rfl,hs⟩ | ⟨rfl,hs⟩
 ·have hs1:(y.lo+y.many == x.lo)=false:=by simpa using hs
  clear hs
  rcases key with h1 | ⟨h1,⟨h2,h3⟩ | ⟨h2,h3⟩⟩ | ⟨h1,h2,h3⟩ | ⟨h1,h2,h3,h4⟩
  all_goals
   go_enter Tryz.func151,Tryz.ntmps151
   go_wp2
   rw [Hn.out]
   refine bodyPost_ret ?_ rfl (reto_none ((((Below.refl _ _).alloc (Nat.le_refl _) _).alloc (by simp) _).alloc (by simp; omega) _))
   simp [results,Tryz.results151,go_sem,zero3]
 ·have hs1:(x.lo+x.many == y.lo)=true:=by simpa using hs
  rcases key with h1 | ⟨h1,⟨h2,h3⟩ | ⟨h2,h3⟩⟩ | ⟨h1,h2,h3⟩ | ⟨h1,h2,h3,h4⟩
  ·exfalso; simp at h1; exact h1 hs
  all_goals
   clear hs
   go_enter Tryz.func151,Tryz.ntmps151
   go_wp2
   rw [Hn.out]
   refine bodyPost_ret ?_ rfl (reto_none ((((Below.refl _ _).alloc (Nat.le_refl _) _).alloc (by simp) _).alloc (by simp; omega) _))
   simp [results,Tryz.results151,go_sem,zero3]
end Go.Proofs.YtaeadmlgffaegaaGreatDoor
