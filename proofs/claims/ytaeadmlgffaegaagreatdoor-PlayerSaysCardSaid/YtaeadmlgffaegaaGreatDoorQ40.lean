/- SameTexts, SameNumbers, SameReq, SameReqs: two lists, two requests. -/
import Derived.Test.YtaeadmlgffaegaaGreatDoorQ24
import Derived.Test.YtaeadmlgffaegaaGreatDoorQ28
set_option linter.unusedSimpArgs false
set_option linter.unusedVariables false
set_option maxRecDepth 100000
set_option maxHeartbeats 8000000
namespace Go.Proofs.YtaeadmlgffaegaaGreatDoor
open Go.RowKit Go.Sort
theorem take_eq_succ {α:Type} (a b:List α) (k:Nat) (x:α) (h:a.take k=b.take k) (ha:a[k]?=some x) (hb:b[k]?=some x):a.take (k+1)=b.take (k+1):=by
 rw [List.take_add_one,List.take_add_one,h,ha,hb]
theorem take_eq_end {α:Type} (a b:List α) (k:Nat) (h:a.take k=b.take k) (hl:a.length=b.length) (hk:a.length≤k):a=b:=by
 rwa [List.take_of_length_le hk,List.take_of_length_le (by omega)] at h
theorem ne_at {α:Type} (a b:List α) (k:Nat) (x y:α) (ha:a[k]?=some x) (hb:b[k]?=some y) (h:x≠y):¬ a=b:=fun e=>h (by rw [e,hb] at ha; cases ha; rfl)
theorem str_ne {s t:ByteArray} (h:¬ s=t):(!s.toList == t.toList)=true:=by
 have:¬ s.toList=t.toList:=fun e=>h (by
  rw [ByteArray.toList_eq,ByteArray.toList_eq] at e
  exact Go.WideShapes.bytes_inj e)
 simp [this]
def eqB {α:Type} [DecidableEq α] (a b:α):Bool:=decide (a=b)
theorem eqB_true {α:Type} [DecidableEq α] {a b:α} (h:a=b):eqB a b=true:=by simp [eqB,h]
theorem eqB_false {α:Type} [DecidableEq α] {a b:α} (h:¬ a=b):eqB a b=false:=by simp [eqB,h]
theorem sametexts_any (S:Nat→Prop) (a b:List ByteArray) (va vb:Value) (w:World) (ha:StrsAt S w va a) (hb:StrsAt S w vb b) :
  Calls Tryz.prog 127 #[va,vb] w (Ret (.bool (eqB a b)) w):=by
 obtain ⟨A,ca,rfl,h1,h2⟩:=ha.form
 obtain ⟨B,cb,rfl,h3,h4⟩:=hb.form
 unfold maxLen at h2 h4
 have Ha:=Lib.hid ha
 have Hb:=Lib.hid hb
 clear ha hb
 by_cases hn:a.length=b.length
 ·have hn':((a.length:Int) != (b.length:Int))=false:=by simp [hn]
  go_enter Tryz.func127,Tryz.ntmps127
  go_wp2
  go_loopw [5] (fun i wr=>∃ k:Nat,k≤a.length∧i=.int .i64 k∧Below w.heap.size w wr∧Hid (a.take k=b.take k)) (fun i _=>a.length - (intOf i).toNat)
  case atStart=>exact ⟨0,by omega,rfl,Below.refl _ _,rfl⟩
  case round =>
   obtain ⟨k,hk,rfl,hw,hall⟩:=hrel
   by_cases hlt:k<a.length
   ·obtain ⟨ba,oa,rfl,_,hba,hca⟩:=(Ha.out.below hw).at_ (by omega)
    obtain ⟨bb,ob,rfl,_,hbb,hcb⟩:=(Hb.out.below hw).at_ (by omega)
    have hx:a[k]?=some a[k]:=List.getElem?_eq_getElem hlt
    have hy:b[k]?=some (b[k]'(by omega)):=List.getElem?_eq_getElem (by omega)
    have hxc:=hca k _ hx
    have hyc:=hcb k _ hy
    obtain ⟨hxc,hsx⟩:=hxc
    obtain ⟨hyc,hsy⟩:=hyc
    clear hca hcb
    have Hx:=Lib.hid hx
    have Hy:=Lib.hid hy
    clear hx hy
    generalize a[k]=s at *
    generalize b[k]'(by omega)=t at *
    have hk1:(k:Int)<(a.length:Int):=by omega
    have hk2:(k:Int)<(b.length:Int):=by omega
    by_cases hs:s=t
    ·subst hs
     go_wp2_with go_region
     go_roundw
     case rel=>exact ⟨k+1,by omega,by go_num,hw.drew,take_eq_succ _ _ _ _ hall.out Hx.out Hy.out⟩
     case measure=>simp [intOf]; omega
    ·have hs':=str_ne hs
     go_wp2_with go_region
     go_ret
     exact ⟨by rw [eqB_false (ne_at _ _ _ _ _ Hx.out Hy.out hs)]; rfl,hw.drew⟩
   ·go_wp2
    go_ret
    exact ⟨by rw [eqB_true (take_eq_end _ _ _ hall.out hn (by omega))]; rfl,hw⟩
 ·have hn':((a.length:Int) != (b.length:Int))=true:=by simp; omega
  rw [eqB_false (fun e=>hn (by rw [e]))]
  go_enter Tryz.func127,Tryz.ntmps127
  go_wp2
  go_ret
  exact ⟨rfl,Below.refl _ _⟩
theorem samenumbers_any (S:Nat→Prop) (a b:List Int) (va vb:Value) (w:World) (ha:IntsAt S w va a) (hb:IntsAt S w vb b) :
  Calls Tryz.prog 128 #[va,vb] w (Ret (.bool (eqB a b)) w):=by
 obtain ⟨A,ca,rfl,h1,h2⟩:=ha.form
 obtain ⟨B,cb,rfl,h3,h4⟩:=hb.form
 unfold maxLen at h2 h4
 have Ha:=Lib.hid ha
 have Hb:=Lib.hid hb
 clear ha hb
 by_cases hn:a.length=b.length
 ·have hn':((a.length:Int) != (b.length:Int))=false:=by simp [hn]
  go_enter Tryz.func128,Tryz.ntmps128
  go_wp2
  go_loopw [5] (fun i wr=>∃ k:Nat,k≤a.length∧i=.int .i64 k∧Below w.heap.size w wr∧Hid (a.take k=b.take k)) (fun i _=>a.length - (intOf i).toNat)
  case atStart=>exact ⟨0,by omega,rfl,Below.refl _ _,rfl⟩
  case round =>
   obtain ⟨k,hk,rfl,hw,hall⟩:=hrel
   by_cases hlt:k<a.length
   ·obtain ⟨ba,oa,rfl,_,hba,hca⟩:=(Ha.out.below hw).at_ (by omega)
    obtain ⟨bb,ob,rfl,_,hbb,hcb⟩:=(Hb.out.below hw).at_ (by omega)
    have hx:a[k]?=some a[k]:=List.getElem?_eq_getElem hlt
    have hy:b[k]?=some (b[k]'(by omega)):=List.getElem?_eq_getElem (by omega)
    have hxc:=hca k _ hx
    have hyc:=hcb k _ hy
    obtain ⟨hxc,hsx⟩:=hxc
    obtain ⟨hyc,hsy⟩:=hyc
    clear hca hcb
    have Hx:=Lib.hid hx
    have Hy:=Lib.hid hy
    clear hx hy
    generalize a[k]=s at *
    generalize b[k]'(by omega)=t at *
    have hk1:(k:Int)<(a.length:Int):=by omega
    have hk2:(k:Int)<(b.length:Int):=by omega
    by_cases hs:s=t
    ·subst hs
     go_wp2_with go_region
     go_roundw
     case rel=>exact ⟨k+1,by omega,by go_num,hw.drew,take_eq_succ _ _ _ _ hall.out Hx.out Hy.out⟩
     case measure=>simp [intOf]; omega
    ·skip
     go_wp2_with go_region
     go_ret
     exact ⟨by rw [eqB_false (ne_at _ _ _ _ _ Hx.out Hy.out hs)]; rfl,hw.drew⟩
   ·go_wp2
    go_ret
    exact ⟨by rw [eqB_true (take_eq_end _ _ _ hall.out hn (by omega))]; rfl,hw⟩
 ·have hn':((a.length:Int) != (b.length:Int))=true:=by simp; omega
  rw [eqB_false (fun e=>hn (by rw [e]))]
  go_enter Tryz.func128,Tryz.ntmps128
  go_wp2
  go_ret
  exact ⟨rfl,Below.refl _ _⟩
structure RSt (B:Nat) (w wr:World) (x y:Rq) (xd xt yd yt:Value):Prop where
 below:Below B w wr
 b0:wr.heap[B]?=some (.cells #[.bool x.write,.int .i64 x.lo,.int .i64 x.many,xd,xt,.int .i64 x.born] 123 (0,0))
 b1:wr.heap[B+1]?=some (.cells #[.bool y.write,.int .i64 y.lo,.int .i64 y.many,yd,yt,.int .i64 y.born] 123 (0,0))
 lt:B+1<wr.heap.size
section
variable {B:Nat} {w wr w':World} {x y:Rq} {xd xt yd yt:Value}
theorem RSt.step (h:RSt B w wr x y xd xt yd yt) (hb:Below wr.heap.size wr w'):RSt B w w' x y xd xt yd yt :=
 have:=h.lt
 ⟨h.below.trans (hb.mono (by omega)),(hb.block _ (by omega)).trans h.b0,(hb.block _ (by omega)).trans h.b1,by have:=hb.size; omega⟩
theorem RSt.limbs (h:RSt B w wr x y xd xt yd yt) :
  wr.cell? ⟨B,0,none⟩=some (.bool x.write)∧wr.cell? ⟨B,1,none⟩=some (.int .i64 x.lo)∧wr.cell? ⟨B,2,none⟩=some (.int .i64 x.many)∧wr.cell? ⟨B,3,none⟩=some xd∧wr.cell? ⟨B,4,none⟩=some xt∧wr.cell? ⟨B,5,none⟩=some (.int .i64 x.born) ∧
  wr.cell? ⟨B+1,0,none⟩=some (.bool y.write)∧wr.cell? ⟨B+1,1,none⟩=some (.int .i64 y.lo)∧wr.cell? ⟨B+1,2,none⟩=some (.int .i64 y.many)∧wr.cell? ⟨B+1,3,none⟩=some yd∧wr.cell? ⟨B+1,4,none⟩=some yt∧wr.cell? ⟨B+1,5,none⟩=some (.int .i64 y.born) :=
 ⟨cell_of_row _ _ 0 _ _ _ h.b0,cell_of_row _ _ 1 _ _ _ h.b0,cell_of_row _ _ 2 _ _ _ h.b0,cell_of_row _ _ 3 _ _ _ h.b0,cell_of_row _ _ 4 _ _ _ h.b0,cell_of_row _ _ 5 _ _ _ h.b0,
  cell_of_row _ _ 0 _ _ _ h.b1,cell_of_row _ _ 1 _ _ _ h.b1,cell_of_row _ _ 2 _ _ _ h.b1,cell_of_row _ _ 3 _ _ _ h.b1,cell_of_row _ _ 4 _ _ _ h.b1,cell_of_row _ _ 5 _ _ _ h.b1⟩
end
theorem RSt.start (w:World) (x y:Rq) (xd xt yd yt:Value):RSt w.heap.size w ((w.alloc (Obj.cells #[Value.bool x.write,Value.int IntKind.i64 x.lo,Value.int IntKind.i64 x.many,xd,xt,Value.int IntKind.i64 x.born] 123)).alloc (Obj.cells #[Value.bool y.write,Value.int IntKind.i64 y.lo,Value.int IntKind.i64 y.many,yd,yt,Value.int IntKind.i64 y.born] 123)) x y xd xt yd yt :=
 ⟨((Below.refl _ _).alloc (Nat.le_refl _) _).alloc (by simp) _,heap_alloc2_old _ _ _,heap_alloc2_new _ _ _,by simp⟩
def sameB (a b:Rq):Bool:=eqB a.data b.data && (eqB a.tags b.tags && (eqB a.write b.write && (eqB a.lo b.lo && (eqB a.many b.many && eqB a.born b.born))))
theorem sameB_true {a b:Rq}:sameB a b=true↔a=b:=by
 obtain ⟨a1,a2,a3,a4,a5,a6⟩:=a
 obtain ⟨b1,b2,b3,b4,b5,b6⟩:=b
 simp [sameB,eqB]
 constructor
 ·rintro ⟨rfl,rfl,rfl,rfl,rfl,rfl⟩; simp
 ·rintro ⟨rfl,rfl,rfl,rfl,rfl,rfl⟩; simp
theorem samereq_any (S:Nat→Prop) (a b:Rq) (va vb:Value) (w:World) (ha:ReqAt S w va a) (hb:ReqAt S w vb b) :
  Calls Tryz.prog 93 #[va,vb] w (Ret (.bool (sameB a b)) w):=by
 obtain ⟨Ad,cd,At,ct,rfl,had,hat,adl,atl,_,_,_⟩:=ha.opened
 obtain ⟨Bd,dd,Bt,dt,rfl,hbd,hbt,bdl,btl,_,_,_⟩:=hb.opened
 have Had:=Lib.hid had
 have Hat:=Lib.hid hat
 have Hbd:=Lib.hid hbd
 have Hbt:=Lib.hid hbt
 clear had hat hbd hbt ha hb
 generalize hsb:sameB a b=sb
 have Hs:=Lib.hid hsb
 clear hsb
 go_enter Tryz.func93,Tryz.ntmps93
 go_wp2_with fail
 have hM:=RSt.start w a b (.slice Ad a.data.length cd) (.slice At a.tags.length ct) (.slice Bd b.data.length dd) (.slice Bt b.tags.length dt)
 generalize ((w.alloc (Obj.cells #[Value.bool a.write,Value.int IntKind.i64 a.lo,Value.int IntKind.i64 a.many,(Value.slice Ad a.data.length cd),(Value.slice At a.tags.length ct),Value.int IntKind.i64 a.born] 123)).alloc (Obj.cells #[Value.bool b.write,Value.int IntKind.i64 b.lo,Value.int IntKind.i64 b.many,(Value.slice Bd b.data.length dd),(Value.slice Bt b.tags.length dt),Value.int IntKind.i64 b.born] 123))=W at hM ⊢
 refine (sametexts_any S _ _ _ _ _ (Had.out.below hM.below) (Hbd.out.below hM.below)).mono ?_
 rintro e w1 ⟨rfl,hb1⟩
 have hM1:=hM.step hb1
 clear hM hb1
 obtain ⟨⟨c0,c1,c2,c3,c4,c5,d0,d1,d2,d3,d4,d5⟩⟩:Nonempty _:=⟨hM1.limbs⟩
 go_wp2_with fail
 refine (samenumbers_any S _ _ _ _ _ (Hat.out.below hM1.below) (Hbt.out.below hM1.below)).mono ?_
 rintro e w2 ⟨rfl,hb2⟩
 have hM2:=hM1.step hb2
 clear hM1 hb2 c0 c1 c2 c3 c4 c5 d0 d1 d2 d3 d4 d5
 obtain ⟨⟨c0,c1,c2,c3,c4,c5,d0,d1,d2,d3,d4,d5⟩⟩:Nonempty _:=⟨hM2.limbs⟩
 go_wp2_with fail
 all_goals
  go_ret
  clear c0 c1 c2 c3 c4 c5 d0 d1 d2 d3 d4 d5
  refine ⟨congrArg (fun t=>Ending.returned (Value.bool t)) (?_:_=sb),hM2.below⟩
  rw [← Hs.out]
  simp_all [sameB,eqB]
def sameLB:List Rq→List Rq→Bool
 | [],[]=>true
 |a :: l,b :: m=>sameB a b && sameLB l m
 |_,_=>false
theorem sameLB_true {l m:List Rq}:sameLB l m=true↔l=m:=by
 induction l generalizing m with
 |nil=>cases m <;> simp [sameLB]
 |cons a l ih=>cases m <;> simp [sameLB,sameB_true,ih]
theorem sameLB_false {l m:List Rq} (h:¬ l=m):sameLB l m=false:=by
 rw [← Bool.not_eq_true,sameLB_true]; exact h
theorem samereqs_any (S:Nat→Prop) (a b:List Rq) (va vb:Value) (w:World) (ha:ReqsAt S w va a) (hb:ReqsAt S w vb b) :
  Calls Tryz.prog 53 #[va,vb] w (Ret (.bool (sameLB a b)) w):=by
 obtain ⟨A,ca,rfl,h1,h2⟩:=ha.form
 obtain ⟨B,cb,rfl,h3,h4⟩:=hb.form
 unfold maxLen at h2 h4
 have Ha:=Lib.hid ha
 have Hb:=Lib.hid hb
 clear ha hb
 by_cases hn:a.length=b.length
 ·have hn':((a.length:Int) != (b.length:Int))=false:=by simp [hn]
  have Hn:=Lib.hid hn
  clear hn
  go_enter Tryz.func53,Tryz.ntmps53
  go_wp2
  go_loopw [5] (fun i wr=>∃ k:Nat,k≤a.length∧i=.int .i64 k∧Below w.heap.size w wr∧Hid (a.take k=b.take k)) (fun i _=>a.length - (intOf i).toNat)
  case atStart=>exact ⟨0,by omega,rfl,Below.refl _ _,rfl⟩
  case round =>
   obtain ⟨k,hk,rfl,hw,hall⟩:=hrel
   by_cases hlt:k<a.length
   ·obtain ⟨ba,oa,rfl,_,hba,hca⟩:=(Ha.out.below hw).at_ (by omega)
    obtain ⟨bb,ob,rfl,_,hbb,hcb⟩:=(Hb.out.below hw).at_ (by have:=Hn.out; omega)
    have hx:a[k]?=some a[k]:=List.getElem?_eq_getElem hlt
    have hy:b[k]?=some (b[k]'(by have:=Hn.out; omega)):=List.getElem?_eq_getElem (by have:=Hn.out; omega)
    obtain ⟨Ad,cd,At,ct,hokx,k0,k1,k2,k3,k4,k5⟩:=hca k _ hx
    obtain ⟨Bd,dd,Bt,dt,hoky,j0,j1,j2,j3,j4,j5⟩:=hcb k _ hy
    clear hca hcb
    have Hx:=Lib.hid hx
    have Hy:=Lib.hid hy
    clear hx hy
    generalize a[k]=s at *
    generalize b[k]'(by have:=Hn.out; omega)=t at *
    have hk1:(k:Int)<(a.length:Int):=by omega
    have hk2:(k:Int)<(b.length:Int):=by have:=Hn.out; omega
    have Hokx:=Lib.hid hokx
    have Hoky:=Lib.hid hoky
    clear hokx hoky
    go_wp2_with fail
    have k0:=cell_regrown k0
    have k1:=cell_regrown k1
    have k2:=cell_regrown k2
    have k3:=cell_regrown k3
    have k4:=cell_regrown k4
    have k5:=cell_regrown k5
    have j0:=cell_regrown j0
    have j1:=cell_regrown j1
    have j2:=cell_regrown j2
    have j3:=cell_regrown j3
    have j4:=cell_regrown j4
    have j5:=cell_regrown j5
    refine wp_region_quiet_below mixed (by kernel_rfl) ?_
    repeat (quiet_step (first | (go_at_call 93; exact Calls.rg (samereq_any S _ _ _ _ _ (Hokx.out.below (below_regrown _ _ _)) (Hoky.out.below (below_regrown _ _ _))))))
    refine wpQuiet_nil ?_
    intro _ hw'
    obtain ⟨⟨dq,osq⟩,hw''⟩:=hw'
    subst hw''
    have hb4:=hw.trans (Below.mono (below_regrown wr dq osq) hw.size)
    generalize grow (redrawn wr dq) osq=w4 at hb4 ⊢
    cases hs:sameB s t with
    |true =>
     have hs:=Lib.hid hs
     go_wp2
     go_roundw
     case rel=>exact ⟨k+1,by omega,by go_num,hb4,take_eq_succ _ _ _ _ hall.out Hx.out (by rw [sameB_true.1 hs.out]; exact Hy.out)⟩
     case measure=>simp [intOf]; omega
    |false =>
     have hs:=Lib.hid hs
     go_wp2
     go_ret
     exact ⟨by rw [sameLB_false (ne_at _ _ _ _ _ Hx.out Hy.out (fun e=>by have h1:=sameB_true.2 e; rw [hs.out] at h1; cases h1))]; rfl,hb4⟩
   ·go_wp2
    go_ret
    exact ⟨by rw [sameLB_true.2 (take_eq_end _ _ _ hall.out Hn.out (by omega))]; rfl,hw⟩
 ·have hn':((a.length:Int) != (b.length:Int))=true:=by simp; omega
  rw [sameLB_false (fun e=>hn (by rw [e]))]
  go_enter Tryz.func53,Tryz.ntmps53
  go_wp2
  go_ret
  exact ⟨rfl,Below.refl _ _⟩
end Go.Proofs.YtaeadmlgffaegaaGreatDoor
namespace Go.Proofs.YtaeadmlgffaegaaGreatDoor
open Go.RowKit Go.Sort
theorem samereqs_self (S:Nat→Prop) (a:List Rq) (va vb:Value) (w:World) (ha:ReqsAt S w va a) (hb:ReqsAt S w vb a):Calls Tryz.prog 53 #[va,vb] w (Ret (.bool true) w) :=
 (sameLB_true.2 rfl:sameLB a a=true)▸samereqs_any S a a va vb w ha hb
def Ka (b2 bd2:Nat) (y:Sv) (s:St) (lv:Value) (q:World):Prop:=q.cell? ⟨b2,2,none⟩=some y.bufs∧q.cell? ⟨b2,20,none⟩=some (.bool s.dead)∧q.cell? ⟨b2,3,none⟩=some y.wait∧q.cell? ⟨b2,0,none⟩=some (.pointer (some ⟨bd2,0,none⟩))∧q.cell? ⟨bd2,65,none⟩=some lv
theorem Ka.b {b2 bd2:Nat} {y:Sv} {s:St} {lv:Value} {u u':World} (h:Ka b2 bd2 y s lv u) (hb:Below u.heap.size u u'):Ka b2 bd2 y s lv u':=⟨cell_b hb h.1,cell_b hb h.2.1,cell_b hb h.2.2.1,cell_b hb h.2.2.2.1,cell_b hb h.2.2.2.2⟩
theorem StAt.list {T:Tys} {col:Nat→Nat} {w:World} {b bd N:Nat} {x:Sv} {s:St} (h:StAt T col w b bd N x s):∃ lv,w.cell? ⟨bd,65,none⟩=some lv∧ReqsAt (fun _=>True) w lv s.v.d.l:=by
 obtain ⟨_,hk32,hn32,wv,lv,ds,hrowd,_,hld,hds,hokd⟩:=h.drv.dev
 exact ⟨lv,by rw [cell_of_row _ _ _ _ _ _ hrowd]; simpa using devCells_at_l s.v.d wv _ hk32 hn32,ds,hds,(show ds.length=s.v.d.l.length by rw [← hds,List.length_map])▸hld.rd.more (fun _ _=>trivial),fun c hc=>(hokd c hc).more (fun _ _=>trivial)⟩
theorem asstack_any (c1 c2:Nat→Nat) (w:World) (b bd b2 bd2 N M:Nat) (x y:Sv) (s:St) (h1:StAt Ts c1 w b bd N x s) (h2:StAt Tr c2 w b2 bd2 M y s) (hI:Inv s) :
  Calls Tryz.prog 11 #[.pointer (some ⟨b,0,none⟩),.pointer (some ⟨b2,0,none⟩)] w (Ret (.bool true) w):=by
 have HA:=Lib.hid h1
 have HC:=Lib.hid h2
 have HI:=Lib.hid hI
 clear h1 h2 hI
 go_enter Tryz.func11,Tryz.ntmps11
 go_wp2_with fail
 go_loopw [5,6,7,8,9] (fun i _ _ _ _ wr=>∃ c:Nat,c≤3∧i=.int .i64 c∧Hid (Below w.heap.size w wr)) (fun i _ _ _ _ _=>3 - (intOf i).toNat)
 case atStart=>exact ⟨0,by omega,rfl,Below.refl _ _⟩
 case round =>
  obtain ⟨c,hc,rfl,HR⟩:=hrel
  have H1:=Lib.hid (HA.out.below HR.out)
  have H2:=Lib.hid (HC.out.below HR.out)
  by_cases h3:c<3
  ·have hk3:(c:Int)<3:=by omega
   have hk0:¬ (c:Int)<0:=by omega
   obtain ⟨p,ep,hn,hq⟩:=H2.out.ptr c h3
   have cA:wr.cell? ⟨b2,11+c,none⟩=some (.pointer p):=(H2.out.cellA h3).trans (congrArg some ep)
   have gA:∀ d os,(grow (redrawn wr d) os).cell? ⟨b2,11+c,none⟩=some (.pointer p):=fun _ _=>cell_regrown cA _ _
   have hw:∀ d os,Calls Tryz.prog 49 #[.pointer (some ⟨b,0,none⟩),.int .i64 (c:Int)] (grow (redrawn wr d) os) (RetSame (.bool (s.askAt c).isSome) (grow (redrawn wr d) os)):=fun d os=>waits_any c1 _ b bd N x s c (H1.out.below (below_regrown wr d os)) h3
   have key:((s.askAt c).isSome=false∧p=none)∨((s.askAt c).isSome=true∧∃ ba:Nat,p=some ⟨ba,0,none⟩):=by
    cases ho:s.askAt c with
    |none=>exact .inl ⟨rfl,hn ho⟩
    |some a=>exact .inr ⟨rfl,hq a ho⟩
   clear ep hn hq cA
   rcases key with ⟨e1,rfl⟩ | ⟨e1,ba,rfl⟩
   all_goals
    rw [e1] at hw
    have HW:=Lib.hid hw
    clear e1 hw
    go_wp2_with fail
    refine wp_region_quiet_below mixed (by kernel_rfl) ?_
    repeat (first | go_big_quiet_step ((go_at_call 49; exact Calls.rgSame (HW.out _ _))) | quiet_step ((go_at_call 49; exact Calls.rgSame (HW.out _ _))))
    refine wpQuiet_nil ?_
    intro _ hw'
    obtain ⟨⟨dq,osq⟩,hw''⟩:=hw'
    subst hw''
    have H4:=Lib.hid (below_regrown wr dq osq)
    clear gA HW
    generalize grow (redrawn wr dq) osq=w4 at H4 ⊢
    go_wp2_with fail
    refine (got_any c1 w4 b bd N x s c (H1.out.below H4.out) h3).mono ?_
    rintro e w5 ⟨rfl,hp5⟩
    have H5:=Lib.hid (H4.out.trans (hp5.mono H4.out.size))
    clear hp5
    go_wp2_with fail
    refine (rgot_any c2 w5 b2 bd2 M y s c (H2.out.below H5.out) h3).mono ?_
    rintro e w6 ⟨rfl,hp6⟩
    have H6:=Lib.hid (H5.out.trans (hp6.mono H5.out.size))
    clear hp6
    go_wp2_with fail
    refine (same_any _ _ w6).mono ?_
    rintro e w7 ⟨rfl,rfl⟩
    go_wp2_with fail
    go_roundw
    case rel=>exact ⟨c+1,by omega,by go_num,HR.out.trans (H6.out.mono HR.out.size)⟩
    case measure=>simp [intOf]; omega
  ·obtain rfl:c=3:=by omega
   have hi:((3:Nat):Int)=3:=rfl
   clear h3
   go_wp2_with fail
   obtain ⟨lv,c65,hld⟩:=H2.out.list
   have Hld:=Lib.hid hld
   have K0:Ka b2 bd2 y s lv wr.drew:=⟨H2.out.cell 2,H2.out.cell 20,H2.out.cell 3,H2.out.cell 0,c65⟩
   have HB0:Hid (Below wr.heap.size wr wr.drew):=show Below _ _ _ from (Below.refl _ _).drew
   clear hld c65
   go_region_held3 (fun q=>q.cell? ⟨b2,2,none⟩=some y.bufs∧q.cell? ⟨b2,20,none⟩=some (.bool s.dead)∧q.cell? ⟨b2,3,none⟩=some y.wait∧q.cell? ⟨b2,0,none⟩=some (.pointer (some ⟨bd2,0,none⟩))∧q.cell? ⟨bd2,65,none⟩=some lv)
    (first | exact K7 | exact K6 | exact K5 | exact K4 | exact K3 | exact K2 | exact K1 | exact K0)
    (first
     |((with_reducible refine (stdirty_any c1 wr.drew b bd N x s (H1.out.below HB0.out) HI.out.len8).mono ?_); rintro e u1 ⟨rfl,hb⟩; have HB1:=Lib.hid (HB0.out.trans (hb.mono HB0.out.size)); have K1:=K0.b hb; clear hb)
     |((with_reducible refine (rdirty_any (Im u1 c2) s.bufs y.bufs u1 (H2.out.below HB1.out).bufs (by have:=HI.out.len8; omega)).mono ?_); rintro e u2 ⟨rfl,hb⟩; have HB2:=Lib.hid (HB1.out.trans (hb.mono HB1.out.size)); have K2:=K1.b hb; clear hb)
     |((with_reducible refine ((dead_any c1 u2 b bd N x s (H1.out.below HB2.out)).mono fun _ _ h=>h.ret).mono ?_); rintro e u3 ⟨rfl,hb⟩; have HB3:=Lib.hid (HB2.out.trans (hb.mono HB2.out.size)); have K3:=K2.b hb; clear hb)
     |((with_reducible refine (stqueue_any c1 u3 b bd N x s (H1.out.below HB3.out) HI.out.wait6).mono ?_); rintro e u4 ⟨vq,rfl,hq,hb⟩; have HQ:=Lib.hid (hq.more (S':=fun _=>True) (fun _ _=>trivial)); clear hq; have HB4:=Lib.hid (HB3.out.trans (hb.mono HB3.out.size)); have K4:=K3.b hb; clear hb)
     |((with_reducible refine (samereqs_self (fun _=>True) s.wait vq y.wait u4 HQ.out ((H2.out.below HB4.out).wait.more (fun _ _=>trivial))).mono ?_); rintro e u5 ⟨rfl,hb⟩; have HB5:=Lib.hid (HB4.out.trans (hb.mono HB4.out.size)); have K5:=K4.b hb; clear hb)
     |((with_reducible refine (stbusy_any c1 u5 b bd N x s (H1.out.below HB5.out) HI.out.dv.two).mono ?_); rintro e u6 ⟨vb,rfl,hq,hb⟩; have HQb:=Lib.hid (hq.more (S':=fun _=>True) (fun _ _=>trivial)); clear hq; have HB6:=Lib.hid (HB5.out.trans (hb.mono HB5.out.size)); have K6:=K5.b hb; clear hb)
     |((with_reducible refine (samereqs_self (fun _=>True) s.v.d.l vb lv u6 HQb.out (Hld.out.below HB6.out)).mono ?_); rintro e u7 ⟨rfl,hb⟩; have HB7:=Lib.hid (HB6.out.trans (hb.mono HB6.out.size)); have K7:=K6.b hb; clear hb)
     |fail)
   all_goals
    try go_wp2_with fail
    go_ret
    exact ⟨by simp,HR.out.trans (HB7.out.mono HR.out.size)⟩
end Go.Proofs.YtaeadmlgffaegaaGreatDoor
namespace Go.Proofs.YtaeadmlgffaegaaGreatDoor
open Go.RowKit
theorem bit_and {m:Nat} (hm:m<18446744073709551616):bits BinOp.and IntKind.u64 (m:Int) 1=((m % 2:Nat):Int):=by
 have h:(BitVec.ofInt 64 (m:Int) &&& BitVec.ofInt 64 1).toNat=m % 2:=by
  rw [BitVec.toNat_and]
  have h1:(BitVec.ofInt 64 (m:Int)).toNat=m:=by
   rw [BitVec.toNat_ofInt]; omega
  have h2:(BitVec.ofInt 64 1).toNat=1:=by decide
  rw [h1,h2,Nat.and_one_is_mod]
 show IntKind.u64.wrap ((BitVec.ofInt 64 (m:Int) &&& BitVec.ofInt 64 1).toNat:Int)=_
 rw [h]
 rcases Nat.mod_two_eq_zero_or_one m with h | h <;> rw [h] <;> rfl
theorem keep_bit {keep k:Nat} (hk:keep<18446744073709551616):(bits BinOp.and IntKind.u64 ((keep:Int) / 2 ^ (k % 64)) 1 == 1)=Dv.bit keep k:=by
 have e:((keep:Int) / 2 ^ (k % 64))=((keep / 2 ^ (k % 64):Nat):Int):=by simp
 rw [e,bit_and (Nat.lt_of_le_of_lt (Nat.div_le_self _ _) hk)]
 unfold Dv.bit
 rcases Nat.mod_two_eq_zero_or_one (keep / 2 ^ (k % 64)) with h | h <;> rw [h] <;> rfl
theorem putCells_at:∀ (l:List (Nat × ByteArray)) (k p:Nat) (s:ByteArray),l[k]?=some (p,s)→(putCells l)[k * 2]?=some (.int .i64 (p:Int))∧(putCells l)[k * 2+1]?=some (.string s)
 | [],k,p,s,h=>by simp at h
 |a :: l,0,p,s,h=>by simp at h; subst h; exact ⟨rfl,rfl⟩
 |a :: l,k+1,p,s,h=>by
  have:=putCells_at l k p s (by simpa using h)
  have e:putCells (a :: l)=[.int .i64 (a.1:Int),.string a.2] ++ putCells l:=rfl
  rw [e,List.getElem?_append_right (by simp; omega),List.getElem?_append_right (by simp; omega)]
  simp only [List.length_cons,List.length_nil]
  rw [show (k+1) * 2 - (0+1+1)=k * 2 by omega,show (k+1) * 2+1 - (0+1+1)=k * 2+1 by omega]
  exact this
def RetCrash (TD TP:TypeId) (S F:Nat→Prop) (w:World) (b:Nat) (d':Dv):Ending→World→Prop:=fun e w'=>e=.returned (.tuple #[])∧DevAt TD TP S F w' b d'∧Chg F w w'
theorem devcrash_any (S F:Nat→Prop) (w:World) (b:Nat) (d:Dv) (keep:Nat) (hkeep:keep<18446744073709551616) (h:DevAt TDp TPp S F w b d) (hp:∀ q ∈ d.waits,q.1<32) (hwl:d.waits.length≤1000000000000) (hF:∀ k,F k→k<w.heap.size) (hSF:∀ k,S k→¬ F k) :
  Calls Tryz.prog 34 #[.pointer (some ⟨b,0,none⟩),.int .u64 (keep:Int)] w (RetCrash TDp TPp S F w b (d.crash keep)):=by
 obtain ⟨wv,lv,cs,hrow,hw,hl,hcs,hok⟩:=h.two
 obtain ⟨A,cap,rfl,hA1,hA2⟩:=hw.form
 have c64:w.cell? ⟨b,64,none⟩=some (.slice A d.waits.length cap):=by rw [cell_of_row _ _ _ _ _ _ hrow]; simpa using devCells_at_w d _ lv h.kept h.now
 have hbl:=(Array.getElem?_eq_some_iff.1 hrow).1
 have H:=Lib.hid h
 have Hw:=Lib.hid hw
 have Hrow:=Lib.hid hrow
 have Hp:=Lib.hid hp
 have HF:=Lib.hid hF
 have HS:=Lib.hid hSF
 clear h hw hrow hl hcs hok hp hF hSF
 go_enter Tryz.func34,Tryz.ntmps34
 go_wp2_with fail
 go_loopw [11] (fun j wr=>∃ k:Nat,k≤d.waits.length∧j=.int .i64 k∧Hid (Chg (fun q=>q=b) w wr)∧Hid (DevAt TDp TPp S F wr b { d with kept:=Dv.keepFrom keep d.kept (d.waits.take k) 0 })) (fun j _=>d.waits.length - (intOf j).toNat)
 case atStart=>exact ⟨0,by omega,rfl,Chg.refl,H.out⟩
 case round =>
  obtain ⟨k,hk,rfl,hcw,hdw⟩:=hrel
  by_cases hlt:k<d.waits.length
  ·have hx:d.waits[k]?=some d.waits[k]:=List.getElem?_eq_getElem hlt
   generalize d.waits[k]=x at hx
   obtain ⟨p,s⟩:=x
   have hp32:=Hp.out _ (List.mem_of_getElem? hx)
   simp only at hp32
   obtain ⟨g,off,rfl,hFg,hgl,hcell⟩:=Hw.out.rd.at_ (by omega) (by omega)
   have hgb:g≠b:=by
    rcases Hw.out.1.2 with ⟨hv,_⟩ | ⟨_,_,_,hv,_⟩
    ·cases hv
    ·cases hv
     exact own_ne Hw.out.1 Hrow.out (by decide) g rfl
   have hpc:=putCells_at _ _ _ _ hx
   have x0:wr.cell? ⟨g,off+k * 2,none⟩=some (.int .i64 (p:Int)):=(World.cell?_of_block (w:=w) (hcw.out.block g hgl hgb)).trans (hcell _ _ hpc.1)
   have x1:wr.cell? ⟨g,off+k * 2+1,none⟩=some (.string s):=(World.cell?_of_block (w:=w) (hcw.out.block g hgl hgb)).trans (hcell _ _ hpc.2)
   have Hx:=Lib.hid hx
   have hk2:(k:Int)<(d.waits.length:Int):=by omega
   clear hx hcell hpc
   obtain ⟨wv',lv',hrow'⟩:=hdw.out.row
   have hk':=hdw.out.kept
   obtain ⟨y,hy⟩:∃ y,(Dv.keepFrom keep d.kept (d.waits.take k) 0)[p]?=some y:=⟨_,List.getElem?_eq_getElem (by rw [Dv.keepFrom_len,H.out.kept]; exact hp32)⟩
   have hcy:∀ o,(wr.alloc o).cell? ⟨b,p,none⟩=some (.string y):=fun o=>by
    rw [World.cell?_alloc_lt _ _ _ (Array.getElem?_eq_some_iff.1 hrow').1,cell_of_row _ _ _ _ _ _ hrow']
    have hlt:p<(Dv.keepFrom keep d.kept (d.waits.take k) 0).length:=(List.getElem?_eq_some_iff.1 hy).1
    simp only [List.getElem?_toArray]
    unfold devCells
    rw [List.getElem?_append_left (by simpa using hlt),List.getElem?_map,hy]
    rfl
   have hfy:∀ o,(wr.alloc o).frozen? ⟨b,p,none⟩=false:=fun o=>by
    rw [World.frozen?_alloc_past _ _ _ (Array.getElem?_eq_some_iff.1 hrow').1]
    exact frozen_of_row _ _ _ _ _ hrow'
   have hpi:(p:Int)<32:=by omega
   have hbA:∀ o,Below wr.heap.size wr (wr.alloc o):=fun o=>(Below.refl _ _).alloc (Nat.le_refl _) o
   have HbA:=Lib.hid hbA
   have Hcw:=Lib.hid hcw.out
   clear hbA hy hrow' hk' hcw
   rcases Bool.eq_false_or_eq_true (Dv.bit keep k) with hb | hb
   ·have hbit:(bits BinOp.and IntKind.u64 ((keep:Int) / 2 ^ (k % 64)) 1 == 1)=true:=by rw [keep_bit hkeep]; exact hb
    have Hb:=Lib.hid hb
    clear hb
    go_wp2_with fail
    go_region
    go_wp2_with fail
    go_roundw
    case rel =>
     refine ⟨k+1,by omega,by go_num,((Hcw.out.step (HbA.out _)).setCell (.inl rfl) _).drew,?_⟩
     show DevAt _ _ _ _ _ _ _
     rw [Dv.keepFrom_succ Hx.out,Hb.out]
     exact ((hdw.out.below (HbA.out _)).setKept p hp32 s HS.out (by decide) (by decide)).below (Below.refl _ _).drew
    case measure=>simp [intOf]; omega
   ·have hbit:(bits BinOp.and IntKind.u64 ((keep:Int) / 2 ^ (k % 64)) 1 == 1)=false:=by rw [keep_bit hkeep]; exact hb
    have Hb:=Lib.hid hb
    clear hb
    go_wp2_with fail
    go_roundw
    case rel =>
     refine ⟨k+1,by omega,by go_num,Hcw.out.step (HbA.out _),?_⟩
     show DevAt _ _ _ _ _ _ _
     rw [Dv.keepFrom_succ Hx.out,Hb.out]
     exact hdw.out.below (HbA.out _)
    case measure=>simp [intOf]; omega
  ·obtain rfl:k=d.waits.length:=by omega
   have hd:=hdw.out
   rw [List.take_of_length_le (Nat.le_refl _)] at hd
   generalize hK:Dv.keepFrom keep d.kept d.waits 0=K at hd
   obtain ⟨wv',lv',cs',hrow',hw',hl',hcs',hok'⟩:=hd.two
   have hk':K.length=32:=hd.kept
   have hn':d.now.length=32:=hd.now
   have HR:Hid (wr.rangeAt b 0 (K.map .string)):=range_kept hrow'
   have HT:Hid (wr.there b 32 (K.map Value.string).toArray.size):=there_of_row hrow' 32 _ (by rw [List.size_toArray,List.size_toArray,List.length_map,devCells_len { d with kept:=K } _ _ hk' hn']; omega)
   have Hs:Hid ((Tryz.prog.info? 45).map (·.size)=some (K.map Value.string).length):=show _=_ by rw [List.length_map,hk']; kernel_rfl
   have H1:Hid ((K.map Value.string).toArray.all (·.oneCell')=true):=all_oneCell_toArray (fun v hv=>by obtain ⟨s,_,rfl⟩:=List.mem_map.1 hv; rfl)
   have hrow1:=heap_setCells_row b _ (K.map .string) 32 wr _ hrow'
   rw [devCells_back { d with kept:=K } wv' lv' hk' hn'] at hrow1
   obtain ⟨W1,hW1⟩:∃ u,wr.setCells b 32 (K.map .string)=u:=⟨_,rfl⟩
   rw [hW1] at hrow1
   have c64:W1.cell? ⟨b,64,none⟩=some wv':=by rw [cell_of_row _ _ _ _ _ _ hrow1]; simpa using devCells_at_w { d with kept:=K,now:=K } wv' lv' hk' hk'
   have f64:W1.frozen? ⟨b,64,none⟩=false:=frozen_of_row _ _ _ _ _ hrow1
   have hrow2:=heap_setCell_same _ _ 64 _ _ (.slice none 0 0) hrow1
   rw [devCells_set_w { d with kept:=K,now:=K } _ _ _ hk' hk'] at hrow2
   have c65:(W1.setCell ⟨b,64,none⟩ (.slice none 0 0)).cell? ⟨b,65,none⟩=some lv':=by rw [cell_of_row _ _ _ _ _ _ hrow2]; simpa using devCells_at_l { d with kept:=K,now:=K } (.slice none 0 0) lv' hk' hk'
   have f65:(W1.setCell ⟨b,64,none⟩ (.slice none 0 0)).frozen? ⟨b,65,none⟩=false:=frozen_of_row _ _ _ _ _ hrow2
   have hrow3:=heap_setCell_same _ _ 65 _ _ (.slice none 0 0) hrow2
   rw [devCells_set_l { d with kept:=K,now:=K } _ _ _ hk' hk'] at hrow3
   have hfb:=hd.fb
   have hcr:Chg F wr W1:=hW1▸Chg.refl.setCells (.inl hfb) _ _
   have hc:=(hcr.setCell (p:=⟨b,64,none⟩) (.inl hfb) (.slice none 0 0)).setCell (p:=⟨b,65,none⟩) (.inl hfb) (.slice none 0 0)
   have Hrow3:=Lib.hid hrow3
   have Hc:=Lib.hid ((hcw.out.mono (fun q hq=>hq▸hfb)).trans (hc.mono (fun q hq=>.inl hq)))
   have HW:=Lib.hid hW1
   have HKk:=Lib.hid hK
   have Hfb:=Lib.hid hfb
   clear hrow' hw' hl' hcs' hok' hrow1 hrow2 hrow3 hc hcr hW1 hd hdw hcw hK hfb
   go_wp2_with (first
    |(refine wpList_load_mid rfl 45 (.tmp 36) rfl b 0 rfl (K.map .string) _ HR.out Tryz.underlying45 rfl Hs.out ?_)
    |(refine wpList_store_mid rfl 45 (.tmp 39) (.tmp 37) rfl b 32 (K.map Value.string).toArray rfl rfl HT.out (by rw [List.size_toArray]; exact Hs.out) H1.out ?_
      rw [show wr.setCells b 32 (K.map Value.string).toArray.toList=W1 from HW.out]))
   go_end0
   refine ⟨rfl,?_,Hc.out⟩
   have he:d.crash keep=⟨K,K,[],[]⟩:=by unfold Dv.crash; rw [HKk.out]
   rw [he]
   exact ⟨Hfb.out,hk',hk',_,_,[],Hrow3.out,Ow.nil,Ow.nil,rfl,by simp⟩
end Go.Proofs.YtaeadmlgffaegaaGreatDoor
