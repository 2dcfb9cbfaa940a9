/- Oldest, From: which of those that wait. -/
import Derived.Test.YtaeadmlgffaegaaGreatDoorQ3
set_option linter.unusedSimpArgs false
set_option linter.unusedVariables false
set_option maxRecDepth 100000
set_option maxHeartbeats 8000000
namespace Go.Proofs.YtaeadmlgffaegaaGreatDoor
open Go.RowKit
theorem drewN_below (B:Nat) (w:World) (n:Nat):Below B w (w.drewN n):=⟨rfl,rfl,rfl,Nat.le_refl _,fun _ _=>rfl⟩
theorem oldest_any (S:Nat→Prop) (l:List Rq) (v:Value) (wb:Bool) (w:World) (h:ReqsAt S w v l) :
  Calls Tryz.prog 106 #[v,.bool wb] w (Ret (.int .i64 (oldest l wb)) w):=by
 obtain ⟨A,cap,rfl,h1,h2⟩:=h.form
 unfold maxLen at h2
 have Hl:=Lib.hid h
 clear h
 go_enter Tryz.func106,Tryz.ntmps106
 go_wp2
 go_loopw [5,10] (fun b i wr=>∃ k:Nat,k≤l.length∧i=.int .i64 k∧b=.int .i64 (bestOf (fun r:Rq=>r.write == wb) (fun r:Rq=>r.born) l k)∧Below w.heap.size w wr) (fun _ i _=>l.length - (intOf i).toNat)
 case atStart=>exact ⟨0,by omega,rfl,rfl,Below.refl _ _⟩
 case round =>
  obtain ⟨k,hk,rfl,rfl,hb⟩:=hrel
  have hrange:=bestOf_range (fun r:Rq=>r.write == wb) (fun r:Rq=>r.born) l k
  by_cases hlt:k<l.length
  ·have hkl:(k:Int)<(l.length:Int):=by omega
   have Hm:=Lib.hid (Hl.out.below hb)
   obtain ⟨b,off,rfl,_,hbl,hc⟩:=Hm.out.at_ (by omega)
   have hx:l[k]?=some l[k]:=List.getElem?_eq_getElem hlt
   obtain ⟨Ad,cd,At,ct,_,k0,k1,k2,k3,k4,k5⟩:=hc k _ hx
   have Hx:=Lib.hid hx
   clear hx
   generalize l[k]=r at k0 k1 k2 k3 k4 k5 Hx
   have Hc:=Lib.hid hc
   clear hc
   cases hw:(r.write == wb) with
   |false =>
    go_wp2_with fail
    go_quiet (fail)
    go_wp2
    go_roundw
    case rel=>exact ⟨k+1,by omega,by go_num,by rw [bestOf_no Hx.out (by simp [hw])],by first | exact hb | exact ((hb.alloc hb.size _).trans (drewN_below _ _ _)) | exact (hb.alloc hb.size _)⟩
    case measure=>simp [intOf]; omega
   |true =>
    by_cases hneg:bestOf (fun r:Rq=>r.write == wb) (fun r:Rq=>r.born) l k<0
    ·have hm1:bestOf (fun r:Rq=>r.write == wb) (fun r:Rq=>r.born) l k = -1:=by omega
     have Hm1:=Lib.hid hm1
     rw [hm1]
     clear hm1 hrange hneg
     go_wp2_with fail
     go_quiet (fail)
     go_wp2
     go_roundw
     case rel=>exact ⟨k+1,by omega,by go_num,by rw [bestOf_first Hx.out (by simp [hw]) (by rw [Hm1.out]; omega)],by first | exact hb | exact ((hb.alloc hb.size _).trans (drewN_below _ _ _)) | exact (hb.alloc hb.size _)⟩
     case measure=>simp [intOf]; omega
    ·obtain ⟨j,hj⟩:∃ j:Nat,bestOf (fun r:Rq=>r.write == wb) (fun r:Rq=>r.born) l k=j:=⟨(bestOf (fun r:Rq=>r.write == wb) (fun r:Rq=>r.born) l k).toNat,by omega⟩
     have Hj:=Lib.hid hj
     rw [hj]
     have hjk:j<k:=by omega
     have hjl:(j:Int)<(l.length:Int):=by omega
     have hj0:¬ (j:Int)<0:=by omega
     clear hj hrange hneg
     have hxj:l[j]?=some l[j]:=List.getElem?_eq_getElem (by omega)
     obtain ⟨_,_,_,_,_,j0,j1,j2,_,_,j5⟩:=Hc.out j _ hxj
     have Hxj:=Lib.hid hxj
     clear hxj
     generalize l[j]=r2 at j0 j1 j2 j5 Hxj
     by_cases hless:r.born<r2.born
     ·skip
      go_wp2_with fail
      go_quiet (fail)
      go_wp2
      go_roundw
      case rel=>exact ⟨k+1,by omega,by go_num,by rw [bestOf_less Hx.out (by simp [hw]) Hj.out Hxj.out hless],by first | exact hb | exact ((hb.alloc hb.size _).trans (drewN_below _ _ _)) | exact (hb.alloc hb.size _)⟩
      case measure=>simp [intOf]; omega
     ·skip
      go_wp2_with fail
      go_quiet (fail)
      go_wp2
      go_roundw
      case rel=>exact ⟨k+1,by omega,by go_num,by rw [bestOf_more Hx.out Hj.out Hxj.out (by omega)],by first | exact hb | exact ((hb.alloc hb.size _).trans (drewN_below _ _ _)) | exact (hb.alloc hb.size _)⟩
      case measure=>simp [intOf]; omega
  ·obtain rfl:k=l.length:=by omega
   go_wp2
   go_ret
   exact ⟨rfl,hb⟩
theorem roldest_any (S:Nat→Prop) (l:List Rq) (v:Value) (wb:Bool) (w:World) (h:ReqsAt S w v l) :
  Calls Tryz.prog 125 #[v,.bool wb] w (Ret (.int .i64 (oldest l wb)) w):=by
 obtain ⟨A,cap,rfl,h1,h2⟩:=h.form
 unfold maxLen at h2
 have Hl:=Lib.hid h
 clear h
 go_enter Tryz.func125,Tryz.ntmps125
 go_wp2
 go_loopw [5,6] (fun b i wr=>∃ k:Nat,k≤l.length∧i=.int .i64 k∧b=.int .i64 (bestOf (fun r:Rq=>r.write == wb) (fun r:Rq=>r.born) l k)∧Below w.heap.size w wr) (fun _ i _=>l.length - (intOf i).toNat)
 case atStart=>exact ⟨0,by omega,rfl,rfl,Below.refl _ _⟩
 case round =>
  obtain ⟨k,hk,rfl,rfl,hb⟩:=hrel
  have hrange:=bestOf_range (fun r:Rq=>r.write == wb) (fun r:Rq=>r.born) l k
  by_cases hlt:k<l.length
  ·have hkl:(k:Int)<(l.length:Int):=by omega
   have Hm:=Lib.hid (Hl.out.below hb)
   obtain ⟨b,off,rfl,_,hbl,hc⟩:=Hm.out.at_ (by omega)
   have hx:l[k]?=some l[k]:=List.getElem?_eq_getElem hlt
   obtain ⟨Ad,cd,At,ct,_,k0,k1,k2,k3,k4,k5⟩:=hc k _ hx
   have Hx:=Lib.hid hx
   clear hx
   generalize l[k]=r at k0 k1 k2 k3 k4 k5 Hx
   have Hc:=Lib.hid hc
   clear hc
   cases hw:(r.write == wb) with
   |false =>
    go_wp2_with fail
    go_quiet (fail)
    go_wp2
    go_roundw
    case rel=>exact ⟨k+1,by omega,by go_num,by rw [bestOf_no Hx.out (by simp [hw])],by first | exact hb | exact (hb.trans (drewN_below _ _ _)) | exact (hb.alloc hb.size _)⟩
    case measure=>simp [intOf]; omega
   |true =>
    by_cases hneg:bestOf (fun r:Rq=>r.write == wb) (fun r:Rq=>r.born) l k<0
    ·have hm1:bestOf (fun r:Rq=>r.write == wb) (fun r:Rq=>r.born) l k = -1:=by omega
     have Hm1:=Lib.hid hm1
     rw [hm1]
     clear hm1 hrange hneg
     go_wp2_with fail
     go_quiet (fail)
     go_wp2
     go_roundw
     case rel=>exact ⟨k+1,by omega,by go_num,by rw [bestOf_first Hx.out (by simp [hw]) (by rw [Hm1.out]; omega)],by first | exact hb | exact (hb.trans (drewN_below _ _ _)) | exact (hb.alloc hb.size _)⟩
     case measure=>simp [intOf]; omega
    ·obtain ⟨j,hj⟩:∃ j:Nat,bestOf (fun r:Rq=>r.write == wb) (fun r:Rq=>r.born) l k=j:=⟨(bestOf (fun r:Rq=>r.write == wb) (fun r:Rq=>r.born) l k).toNat,by omega⟩
     have Hj:=Lib.hid hj
     rw [hj]
     have hjk:j<k:=by omega
     have hjl:(j:Int)<(l.length:Int):=by omega
     have hj0:¬ (j:Int)<0:=by omega
     clear hj hrange hneg
     have hxj:l[j]?=some l[j]:=List.getElem?_eq_getElem (by omega)
     obtain ⟨_,_,_,_,_,j0,j1,j2,_,_,j5⟩:=Hc.out j _ hxj
     have Hxj:=Lib.hid hxj
     clear hxj
     generalize l[j]=r2 at j0 j1 j2 j5 Hxj
     by_cases hless:r.born<r2.born
     ·skip
      go_wp2_with fail
      go_quiet (fail)
      go_wp2
      go_roundw
      case rel=>exact ⟨k+1,by omega,by go_num,by rw [bestOf_less Hx.out (by simp [hw]) Hj.out Hxj.out hless],by first | exact hb | exact (hb.trans (drewN_below _ _ _)) | exact (hb.alloc hb.size _)⟩
      case measure=>simp [intOf]; omega
     ·skip
      go_wp2_with fail
      go_quiet (fail)
      go_wp2
      go_roundw
      case rel=>exact ⟨k+1,by omega,by go_num,by rw [bestOf_more Hx.out Hj.out Hxj.out (by omega)],by first | exact hb | exact (hb.trans (drewN_below _ _ _)) | exact (hb.alloc hb.size _)⟩
      case measure=>simp [intOf]; omega
  ·obtain rfl:k=l.length:=by omega
   go_wp2
   go_ret
   exact ⟨rfl,hb⟩
theorem from_any (S:Nat→Prop) (l:List Rq) (v:Value) (wb:Bool) (at_:Int) (w:World) (h:ReqsAt S w v l) :
  Calls Tryz.prog 104 #[v,.bool wb,.int .i64 at_] w (Ret (.int .i64 (fromI l wb at_)) w):=by
 obtain ⟨A,cap,rfl,h1,h2⟩:=h.form
 unfold maxLen at h2
 have Hl:=Lib.hid h
 clear h
 go_enter Tryz.func104,Tryz.ntmps104
 go_wp2
 go_loopw [7,12] (fun b i wr=>∃ k:Nat,k≤l.length∧i=.int .i64 k∧b=.int .i64 (bestOf (fun r:Rq=>r.write == wb && decide (at_≤r.lo)) (fun r:Rq=>r.lo) l k)∧Below w.heap.size w wr) (fun _ i _=>l.length - (intOf i).toNat)
 case atStart=>exact ⟨0,by omega,rfl,rfl,Below.refl _ _⟩
 case round =>
  obtain ⟨k,hk,rfl,rfl,hb⟩:=hrel
  have hrange:=bestOf_range (fun r:Rq=>r.write == wb && decide (at_≤r.lo)) (fun r:Rq=>r.lo) l k
  by_cases hlt:k<l.length
  ·have hkl:(k:Int)<(l.length:Int):=by omega
   have Hm:=Lib.hid (Hl.out.below hb)
   obtain ⟨b,off,rfl,_,hbl,hc⟩:=Hm.out.at_ (by omega)
   have hx:l[k]?=some l[k]:=List.getElem?_eq_getElem hlt
   obtain ⟨Ad,cd,At,ct,_,k0,k1,k2,k3,k4,k5⟩:=hc k _ hx
   have Hx:=Lib.hid hx
   clear hx
   generalize l[k]=r at k0 k1 k2 k3 k4 k5 Hx
   have Hc:=Lib.hid hc
   clear hc
   cases hw:(r.write == wb) with
   |false =>
    go_wp2_with fail
    go_quiet (fail)
    go_wp2
    go_roundw
    case rel=>exact ⟨k+1,by omega,by go_num,by rw [bestOf_no Hx.out (by simp [hw])],by first | exact hb | exact ((hb.alloc hb.size _).trans (drewN_below _ _ _)) | exact (hb.alloc hb.size _)⟩
    case measure=>simp [intOf]; omega
   |true =>
    by_cases hat:at_≤r.lo
    ·skip
     by_cases hneg:bestOf (fun r:Rq=>r.write == wb && decide (at_≤r.lo)) (fun r:Rq=>r.lo) l k<0
     ·have hm1:bestOf (fun r:Rq=>r.write == wb && decide (at_≤r.lo)) (fun r:Rq=>r.lo) l k = -1:=by omega
      have Hm1:=Lib.hid hm1
      rw [hm1]
      clear hm1 hrange hneg
      go_wp2_with fail
      go_quiet (fail)
      go_wp2
      go_roundw
      case rel=>exact ⟨k+1,by omega,by go_num,by rw [bestOf_first Hx.out (by simp [hw,hat]) (by rw [Hm1.out]; omega)],by first | exact hb | exact ((hb.alloc hb.size _).trans (drewN_below _ _ _)) | exact (hb.alloc hb.size _)⟩
      case measure=>simp [intOf]; omega
     ·obtain ⟨j,hj⟩:∃ j:Nat,bestOf (fun r:Rq=>r.write == wb && decide (at_≤r.lo)) (fun r:Rq=>r.lo) l k=j:=⟨(bestOf (fun r:Rq=>r.write == wb && decide (at_≤r.lo)) (fun r:Rq=>r.lo) l k).toNat,by omega⟩
      have Hj:=Lib.hid hj
      rw [hj]
      have hjk:j<k:=by omega
      have hjl:(j:Int)<(l.length:Int):=by omega
      have hj0:¬ (j:Int)<0:=by omega
      clear hj hrange hneg
      have hxj:l[j]?=some l[j]:=List.getElem?_eq_getElem (by omega)
      obtain ⟨_,_,_,_,_,j0,j1,j2,_,_,j5⟩:=Hc.out j _ hxj
      have Hxj:=Lib.hid hxj
      clear hxj
      generalize l[j]=r2 at j0 j1 j2 j5 Hxj
      by_cases hless:r.lo<r2.lo
      ·skip
       go_wp2_with fail
       go_quiet (fail)
       go_wp2
       go_roundw
       case rel=>exact ⟨k+1,by omega,by go_num,by rw [bestOf_less Hx.out (by simp [hw,hat]) Hj.out Hxj.out hless],by first | exact hb | exact ((hb.alloc hb.size _).trans (drewN_below _ _ _)) | exact (hb.alloc hb.size _)⟩
       case measure=>simp [intOf]; omega
      ·skip
       go_wp2_with fail
       go_quiet (fail)
       go_wp2
       go_roundw
       case rel=>exact ⟨k+1,by omega,by go_num,by rw [bestOf_more Hx.out Hj.out Hxj.out (by omega)],by first | exact hb | exact ((hb.alloc hb.size _).trans (drewN_below _ _ _)) | exact (hb.alloc hb.size _)⟩
       case measure=>simp [intOf]; omega
    ·have hd:decide (at_≤r.lo)=false:=by simp; omega
     go_wp2_with fail
     go_quiet (fail)
     go_wp2
     go_roundw
     case rel=>exact ⟨k+1,by omega,by go_num,by rw [bestOf_no Hx.out (by simp [hw]; omega)],by first | exact hb | exact ((hb.alloc hb.size _).trans (drewN_below _ _ _)) | exact (hb.alloc hb.size _)⟩
     case measure=>simp [intOf]; omega
  ·obtain rfl:k=l.length:=by omega
   go_wp2
   go_ret
   exact ⟨rfl,hb⟩
theorem rfrom_any (S:Nat→Prop) (l:List Rq) (v:Value) (wb:Bool) (at_:Int) (w:World) (h:ReqsAt S w v l) :
  Calls Tryz.prog 124 #[v,.bool wb,.int .i64 at_] w (Ret (.int .i64 (fromI l wb at_)) w):=by
 obtain ⟨A,cap,rfl,h1,h2⟩:=h.form
 unfold maxLen at h2
 have Hl:=Lib.hid h
 clear h
 go_enter Tryz.func124,Tryz.ntmps124
 go_wp2
 go_loopw [7,8] (fun b i wr=>∃ k:Nat,k≤l.length∧i=.int .i64 k∧b=.int .i64 (bestOf (fun r:Rq=>r.write == wb && decide (at_≤r.lo)) (fun r:Rq=>r.lo) l k)∧Below w.heap.size w wr) (fun _ i _=>l.length - (intOf i).toNat)
 case atStart=>exact ⟨0,by omega,rfl,rfl,Below.refl _ _⟩
 case round =>
  obtain ⟨k,hk,rfl,rfl,hb⟩:=hrel
  have hrange:=bestOf_range (fun r:Rq=>r.write == wb && decide (at_≤r.lo)) (fun r:Rq=>r.lo) l k
  by_cases hlt:k<l.length
  ·have hkl:(k:Int)<(l.length:Int):=by omega
   have Hm:=Lib.hid (Hl.out.below hb)
   obtain ⟨b,off,rfl,_,hbl,hc⟩:=Hm.out.at_ (by omega)
   have hx:l[k]?=some l[k]:=List.getElem?_eq_getElem hlt
   obtain ⟨Ad,cd,At,ct,_,k0,k1,k2,k3,k4,k5⟩:=hc k _ hx
   have Hx:=Lib.hid hx
   clear hx
   generalize l[k]=r at k0 k1 k2 k3 k4 k5 Hx
   have Hc:=Lib.hid hc
   clear hc
   cases hw:(r.write == wb) with
   |false =>
    go_wp2
    go_roundw
    case rel=>exact ⟨k+1,by omega,by go_num,by rw [bestOf_no Hx.out (by simp [hw])],by first | exact hb | exact (hb.trans (drewN_below _ _ _)) | exact (hb.alloc hb.size _)⟩
    case measure=>simp [intOf]; omega
   |true =>
    by_cases hat:at_≤r.lo
    ·skip
     by_cases hneg:bestOf (fun r:Rq=>r.write == wb && decide (at_≤r.lo)) (fun r:Rq=>r.lo) l k<0
     ·have hm1:bestOf (fun r:Rq=>r.write == wb && decide (at_≤r.lo)) (fun r:Rq=>r.lo) l k = -1:=by omega
      have Hm1:=Lib.hid hm1
      rw [hm1]
      clear hm1 hrange hneg
      go_wp2_with fail
      go_quiet (fail)
      go_wp2
      go_roundw
      case rel=>exact ⟨k+1,by omega,by go_num,by rw [bestOf_first Hx.out (by simp [hw,hat]) (by rw [Hm1.out]; omega)],by first | exact hb | exact (hb.trans (drewN_below _ _ _)) | exact (hb.alloc hb.size _)⟩
      case measure=>simp [intOf]; omega
     ·obtain ⟨j,hj⟩:∃ j:Nat,bestOf (fun r:Rq=>r.write == wb && decide (at_≤r.lo)) (fun r:Rq=>r.lo) l k=j:=⟨(bestOf (fun r:Rq=>r.write == wb && decide (at_≤r.lo)) (fun r:Rq=>r.lo) l k).toNat,by omega⟩
      have Hj:=Lib.hid hj
      rw [hj]
      have hjk:j<k:=by omega
      have hjl:(j:Int)<(l.length:Int):=by omega
      have hj0:¬ (j:Int)<0:=by omega
      clear hj hrange hneg
      have hxj:l[j]?=some l[j]:=List.getElem?_eq_getElem (by omega)
      obtain ⟨_,_,_,_,_,j0,j1,j2,_,_,j5⟩:=Hc.out j _ hxj
      have Hxj:=Lib.hid hxj
      clear hxj
      generalize l[j]=r2 at j0 j1 j2 j5 Hxj
      by_cases hless:r.lo<r2.lo
      ·skip
       go_wp2_with fail
       go_quiet (fail)
       go_wp2
       go_roundw
       case rel=>exact ⟨k+1,by omega,by go_num,by rw [bestOf_less Hx.out (by simp [hw,hat]) Hj.out Hxj.out hless],by first | exact hb | exact (hb.trans (drewN_below _ _ _)) | exact (hb.alloc hb.size _)⟩
       case measure=>simp [intOf]; omega
      ·skip
       go_wp2_with fail
       go_quiet (fail)
       go_wp2
       go_roundw
       case rel=>exact ⟨k+1,by omega,by go_num,by rw [bestOf_more Hx.out Hj.out Hxj.out (by omega)],by first | exact hb | exact (hb.trans (drewN_below _ _ _)) | exact (hb.alloc hb.size _)⟩
       case measure=>simp [intOf]; omega
    ·have hd:decide (at_≤r.lo)=false:=by simp; omega
     go_wp2
     go_roundw
     case rel=>exact ⟨k+1,by omega,by go_num,by rw [bestOf_no Hx.out (by simp [hw]; omega)],by first | exact hb | exact (hb.trans (drewN_below _ _ _)) | exact (hb.alloc hb.size _)⟩
     case measure=>simp [intOf]; omega
  ·obtain rfl:k=l.length:=by omega
   go_wp2
   go_ret
   exact ⟨rfl,hb⟩
end Go.Proofs.YtaeadmlgffaegaaGreatDoor
namespace Go.Proofs.YtaeadmlgffaegaaGreatDoor
open Go.RowKit Go.Sort
abbrev tnV (t:Tn):Value:=.agg #[.bool t.write,.int .i64 t.gone,.int .i64 t.starved,.int .i64 t.wh]
abbrev tnCells (t:Tn):Array Value:=#[.bool t.write,.int .i64 t.gone,.int .i64 t.starved,.int .i64 t.wh]
theorem expired_any (S:Nat→Prop) (r:Rq) (v:Value) (now:Int) (w:World) (h:ReqAt S w v r) (hn:0≤now) (hn2:now≤1000000000) (hb:bornOk r) :
  Calls Tryz.prog 107 #[v,.int .i64 now] w (Ret (.bool (expB r now)) w):=by
 obtain ⟨Ad,cd,At,ct,rfl,_,_,_,_,_,_,_⟩:=h.opened
 obtain ⟨b1,b2⟩:=hb
 have e:expB r now=decide ((if r.write then 8 else 4)≤now - r.born):=rfl
 cases hw:r.write with
 |true =>
  rw [hw] at e
  have e2:expB r now=decide (8≤now - r.born):=e
  rw [e2]
  clear e e2
  go_enter Tryz.func107,Tryz.ntmps107
  go_wp2
  go_ret
  exact ⟨rfl,(Below.refl _ _).alloc (Nat.le_refl _) _⟩
 |false =>
  rw [hw] at e
  have e2:expB r now=decide (4≤now - r.born):=e
  rw [e2]
  clear e e2
  go_enter Tryz.func107,Tryz.ntmps107
  go_wp2
  go_ret
  exact ⟨rfl,(Below.refl _ _).alloc (Nat.le_refl _) _⟩
structure Box2 (B:Nat) (w wr:World) (cs ds:Array Value):Prop where
 below:Below B w wr
 lt:B+1<wr.heap.size
 b1:wr.heap[B]?=some (.cells cs 76 (0,0))
 b2:wr.heap[B+1]?=some (.cells ds 76 (0,0))
theorem Box2.c {B:Nat} {w wr:World} {cs ds:Array Value} (h:Box2 B w wr cs ds) (i:Nat):wr.cell? ⟨B,i,none⟩=cs[i]?:=cell_of_row _ _ i _ _ _ h.b1
theorem Box2.d {B:Nat} {w wr:World} {cs ds:Array Value} (h:Box2 B w wr cs ds) (i:Nat):wr.cell? ⟨B+1,i,none⟩=ds[i]?:=cell_of_row _ _ i _ _ _ h.b2
theorem Box2.fc {B:Nat} {w wr:World} {cs ds:Array Value} (h:Box2 B w wr cs ds) (i:Nat):wr.frozen? ⟨B,i,none⟩=false:=frozen_of_row _ _ i _ _ h.b1
theorem Box2.fd {B:Nat} {w wr:World} {cs ds:Array Value} (h:Box2 B w wr cs ds) (i:Nat):wr.frozen? ⟨B+1,i,none⟩=false:=frozen_of_row _ _ i _ _ h.b2
theorem Box2.tn {B:Nat} {w wr:World} {v0 v1 v2 v3 u0 u1 u2 u3:Value} (h:Box2 B w wr #[v0,v1,v2,v3] #[u0,u1,u2,u3]) :
  wr.cell? ⟨B,0,none⟩=some v0∧wr.cell? ⟨B,1,none⟩=some v1∧wr.cell? ⟨B,2,none⟩=some v2∧wr.cell? ⟨B,3,none⟩=some v3∧wr.cell? ⟨B+1,0,none⟩=some u0∧wr.cell? ⟨B+1,1,none⟩=some u1∧wr.cell? ⟨B+1,2,none⟩=some u2∧wr.cell? ⟨B+1,3,none⟩=some u3 ∧
  wr.frozen? ⟨B,0,none⟩=false∧wr.frozen? ⟨B,1,none⟩=false∧wr.frozen? ⟨B,2,none⟩=false∧wr.frozen? ⟨B,3,none⟩=false∧wr.frozen? ⟨B+1,0,none⟩=false∧wr.frozen? ⟨B+1,1,none⟩=false∧wr.frozen? ⟨B+1,2,none⟩=false∧wr.frozen? ⟨B+1,3,none⟩=false :=
 ⟨h.c 0,h.c 1,h.c 2,h.c 3,h.d 0,h.d 1,h.d 2,h.d 3,h.fc 0,h.fc 1,h.fc 2,h.fc 3,h.fd 0,h.fd 1,h.fd 2,h.fd 3⟩
theorem Box2.step {B:Nat} {w wr w':World} {cs ds:Array Value} (h:Box2 B w wr cs ds) (hb:Below wr.heap.size wr w'):Box2 B w w' cs ds :=
 ⟨h.below.trans (hb.mono (by have:=h.lt; omega)),by have:=hb.size; have:=h.lt; omega,(hb.block _ (by have:=h.lt; omega)).trans h.b1,(hb.block _ h.lt).trans h.b2⟩
theorem Box2.set {B:Nat} {w wr:World} {cs ds:Array Value} (h:Box2 B w wr cs ds) (i:Nat) (v:Value):Box2 B w (wr.setCell ⟨B,i,none⟩ v) (cs.setIfInBounds i v) ds :=
 ⟨h.below.setCell (Nat.le_refl _) _,by simpa using h.lt,by rw [heap_setCell_same _ _ _ _ _ _ h.b1],by rw [heap_setCell_other _ _ _ _ (by simp)]; exact h.b2⟩
theorem turned_any (S:Nat→Prop) (l:List Rq) (v:Value) (t:Tn) (w:World) (h:ReqsAt S w v l) (hs:i64 t.starved) (hne:0≤oldest l false∨0≤oldest l true) :
  Calls Tryz.prog 105 #[v,tnV t] w (Ret (tnV (turnedM l t)) w):=by
 have H:=Lib.hid h
 obtain ⟨A,cap,rfl,h1,h2⟩:=h.form
 clear h
 obtain ⟨s1,s2⟩:=hs
 have e:turnedM l t=if 0≤oldest l false∧¬ 0≤oldest l true then { t with gone:=0,write:=false }
  else if 0≤oldest l true∧(¬ 0≤oldest l false∨2≤t.starved) then { t with gone:=0,write:=true,starved:=0 }
  else { t with gone:=0,write:=false,starved:=t.starved+1 }:=rfl
 generalize turnedM l t=t' at e ⊢
 by_cases q1:0≤oldest l false
 ·by_cases q2:0≤oldest l true
  ·by_cases q3:2≤t.starved
   ·rw [if_neg (by simp [q2]),if_pos ⟨q2,.inr q3⟩] at e
    subst e
    go_enter Tryz.func105,Tryz.ntmps105
    go_wp2_with fail
    have hT:Box2 w.heap.size w ((w.alloc (Obj.cells #[Value.bool t.write,Value.int IntKind.i64 t.gone,Value.int IntKind.i64 t.starved,Value.int IntKind.i64 t.wh] 76)).alloc
      (Obj.cells #[Value.bool false,Value.int IntKind.i64 0,Value.int IntKind.i64 0,Value.int IntKind.i64 0] 76)) (tnCells t) #[.bool false,.int .i64 0,.int .i64 0,.int .i64 0] :=
     ⟨((Below.refl _ _).alloc (Nat.le_refl _) _).alloc (by simp) _,by simp,heap_alloc2_old _ _ _,heap_alloc2_new _ _ _⟩
    generalize ((w.alloc (Obj.cells #[Value.bool t.write,Value.int IntKind.i64 t.gone,Value.int IntKind.i64 t.starved,Value.int IntKind.i64 t.wh] 76)).alloc
      (Obj.cells #[Value.bool false,Value.int IntKind.i64 0,Value.int IntKind.i64 0,Value.int IntKind.i64 0] 76))=W at hT ⊢
    refine (oldest_any S l _ false _ (H.out.below (hT.below))).mono ?_
    rintro e w1 ⟨rfl,hb1⟩
    have hT1:=hT.step hb1
    clear hT hb1
    go_wp2_with fail
    refine (oldest_any S l _ true _ (H.out.below (hT1.below))).mono ?_
    rintro e w2 ⟨rfl,hb2⟩
    have hT2:=hT1.step hb2
    clear hT1 hb2
    have c0:=hT2.c 0
    have c1:=hT2.c 1
    have c2:=hT2.c 2
    have c3:=hT2.c 3
    have f0:=hT2.fc 0
    have f1:=hT2.fc 1
    have f2:=hT2.fc 2
    have d0:=hT2.d 0
    have d1:=hT2.d 1
    have d2:=hT2.d 2
    have d3:=hT2.d 3
    have e0:=hT2.fd 0
    have e1:=hT2.fd 1
    have e2:=hT2.fd 2
    have e3:=hT2.fd 3
    simp [tnCells] at c0 c1 c2 c3 d0 d1 d2 d3
    go_wp2_with fail
    refine bodyPost_ret (v:=tnV _) (by simp [results,Tryz.results105,go_sem,d0,d1,d2,d3,e0,e1,e2,e3,c0,c1,c2,c3,f0,f1,f2]) rfl ⟨rfl,?_⟩
    repeat ((with_reducible refine Below.setCell ?_ ?hp _); case hp=>simp)
    exact hT2.below
   ·rw [if_neg (by simp [q2]),if_neg (by simp [q1,q3])] at e
    subst e
    go_enter Tryz.func105,Tryz.ntmps105
    go_wp2_with fail
    have hT:Box2 w.heap.size w ((w.alloc (Obj.cells #[Value.bool t.write,Value.int IntKind.i64 t.gone,Value.int IntKind.i64 t.starved,Value.int IntKind.i64 t.wh] 76)).alloc
      (Obj.cells #[Value.bool false,Value.int IntKind.i64 0,Value.int IntKind.i64 0,Value.int IntKind.i64 0] 76)) (tnCells t) #[.bool false,.int .i64 0,.int .i64 0,.int .i64 0] :=
     ⟨((Below.refl _ _).alloc (Nat.le_refl _) _).alloc (by simp) _,by simp,heap_alloc2_old _ _ _,heap_alloc2_new _ _ _⟩
    generalize ((w.alloc (Obj.cells #[Value.bool t.write,Value.int IntKind.i64 t.gone,Value.int IntKind.i64 t.starved,Value.int IntKind.i64 t.wh] 76)).alloc
      (Obj.cells #[Value.bool false,Value.int IntKind.i64 0,Value.int IntKind.i64 0,Value.int IntKind.i64 0] 76))=W at hT ⊢
    refine (oldest_any S l _ false _ (H.out.below (hT.below))).mono ?_
    rintro e w1 ⟨rfl,hb1⟩
    have hT1:=hT.step hb1
    clear hT hb1
    go_wp2_with fail
    refine (oldest_any S l _ true _ (H.out.below (hT1.below))).mono ?_
    rintro e w2 ⟨rfl,hb2⟩
    have hT2:=hT1.step hb2
    clear hT1 hb2
    have c0:=hT2.c 0
    have c1:=hT2.c 1
    have c2:=hT2.c 2
    have c3:=hT2.c 3
    have f0:=hT2.fc 0
    have f1:=hT2.fc 1
    have f2:=hT2.fc 2
    have d0:=hT2.d 0
    have d1:=hT2.d 1
    have d2:=hT2.d 2
    have d3:=hT2.d 3
    have e0:=hT2.fd 0
    have e1:=hT2.fd 1
    have e2:=hT2.fd 2
    have e3:=hT2.fd 3
    simp [tnCells] at c0 c1 c2 c3 d0 d1 d2 d3
    go_wp2_with fail
    refine bodyPost_ret (v:=tnV _) (by simp [results,Tryz.results105,go_sem,d0,d1,d2,d3,e0,e1,e2,e3,c0,c1,c2,c3,f0,f1,f2]) rfl ⟨rfl,?_⟩
    repeat ((with_reducible refine Below.setCell ?_ ?hp _); case hp=>simp)
    exact hT2.below
  ·have q2':decide (0≤oldest l true)=false:=decide_eq_false q2
   rw [if_pos ⟨q1,q2⟩] at e
   subst e
   go_enter Tryz.func105,Tryz.ntmps105
   go_wp2_with fail
   have hT:Box2 w.heap.size w ((w.alloc (Obj.cells #[Value.bool t.write,Value.int IntKind.i64 t.gone,Value.int IntKind.i64 t.starved,Value.int IntKind.i64 t.wh] 76)).alloc
     (Obj.cells #[Value.bool false,Value.int IntKind.i64 0,Value.int IntKind.i64 0,Value.int IntKind.i64 0] 76)) (tnCells t) #[.bool false,.int .i64 0,.int .i64 0,.int .i64 0] :=
    ⟨((Below.refl _ _).alloc (Nat.le_refl _) _).alloc (by simp) _,by simp,heap_alloc2_old _ _ _,heap_alloc2_new _ _ _⟩
   generalize ((w.alloc (Obj.cells #[Value.bool t.write,Value.int IntKind.i64 t.gone,Value.int IntKind.i64 t.starved,Value.int IntKind.i64 t.wh] 76)).alloc
     (Obj.cells #[Value.bool false,Value.int IntKind.i64 0,Value.int IntKind.i64 0,Value.int IntKind.i64 0] 76))=W at hT ⊢
   refine (oldest_any S l _ false _ (H.out.below (hT.below))).mono ?_
   rintro e w1 ⟨rfl,hb1⟩
   have hT1:=hT.step hb1
   clear hT hb1
   go_wp2_with fail
   refine (oldest_any S l _ true _ (H.out.below (hT1.below))).mono ?_
   rintro e w2 ⟨rfl,hb2⟩
   have hT2:=hT1.step hb2
   clear hT1 hb2
   have c0:=hT2.c 0
   have c1:=hT2.c 1
   have c2:=hT2.c 2
   have c3:=hT2.c 3
   have f0:=hT2.fc 0
   have f1:=hT2.fc 1
   have f2:=hT2.fc 2
   have d0:=hT2.d 0
   have d1:=hT2.d 1
   have d2:=hT2.d 2
   have d3:=hT2.d 3
   have e0:=hT2.fd 0
   have e1:=hT2.fd 1
   have e2:=hT2.fd 2
   have e3:=hT2.fd 3
   simp [tnCells] at c0 c1 c2 c3 d0 d1 d2 d3
   go_wp2_with fail
   refine bodyPost_ret (v:=tnV _) (by simp [results,Tryz.results105,go_sem,d0,d1,d2,d3,e0,e1,e2,e3,c0,c1,c2,c3,f0,f1,f2]) rfl ⟨rfl,?_⟩
   repeat ((with_reducible refine Below.setCell ?_ ?hp _); case hp=>simp)
   exact hT2.below
 ·have q1':decide (0≤oldest l false)=false:=decide_eq_false q1
  have q2:=hne.resolve_left q1
  rw [if_neg (by simp [q1]),if_pos ⟨q2,.inl q1⟩] at e
  subst e
  go_enter Tryz.func105,Tryz.ntmps105
  go_wp2_with fail
  have hT:Box2 w.heap.size w ((w.alloc (Obj.cells #[Value.bool t.write,Value.int IntKind.i64 t.gone,Value.int IntKind.i64 t.starved,Value.int IntKind.i64 t.wh] 76)).alloc
    (Obj.cells #[Value.bool false,Value.int IntKind.i64 0,Value.int IntKind.i64 0,Value.int IntKind.i64 0] 76)) (tnCells t) #[.bool false,.int .i64 0,.int .i64 0,.int .i64 0] :=
   ⟨((Below.refl _ _).alloc (Nat.le_refl _) _).alloc (by simp) _,by simp,heap_alloc2_old _ _ _,heap_alloc2_new _ _ _⟩
  generalize ((w.alloc (Obj.cells #[Value.bool t.write,Value.int IntKind.i64 t.gone,Value.int IntKind.i64 t.starved,Value.int IntKind.i64 t.wh] 76)).alloc
    (Obj.cells #[Value.bool false,Value.int IntKind.i64 0,Value.int IntKind.i64 0,Value.int IntKind.i64 0] 76))=W at hT ⊢
  refine (oldest_any S l _ false _ (H.out.below (hT.below))).mono ?_
  rintro e w1 ⟨rfl,hb1⟩
  have hT1:=hT.step hb1
  clear hT hb1
  go_wp2_with fail
  refine (oldest_any S l _ true _ (H.out.below (hT1.below))).mono ?_
  rintro e w2 ⟨rfl,hb2⟩
  have hT2:=hT1.step hb2
  clear hT1 hb2
  have c0:=hT2.c 0
  have c1:=hT2.c 1
  have c2:=hT2.c 2
  have c3:=hT2.c 3
  have f0:=hT2.fc 0
  have f1:=hT2.fc 1
  have f2:=hT2.fc 2
  have d0:=hT2.d 0
  have d1:=hT2.d 1
  have d2:=hT2.d 2
  have d3:=hT2.d 3
  have e0:=hT2.fd 0
  have e1:=hT2.fd 1
  have e2:=hT2.fd 2
  have e3:=hT2.fd 3
  simp [tnCells] at c0 c1 c2 c3 d0 d1 d2 d3
  go_wp2_with fail
  refine bodyPost_ret (v:=tnV _) (by simp [results,Tryz.results105,go_sem,d0,d1,d2,d3,e0,e1,e2,e3,c0,c1,c2,c3,f0,f1,f2]) rfl ⟨rfl,?_⟩
  repeat ((with_reducible refine Below.setCell ?_ ?hp _); case hp=>simp)
  exact hT2.below
end Go.Proofs.YtaeadmlgffaegaaGreatDoor
