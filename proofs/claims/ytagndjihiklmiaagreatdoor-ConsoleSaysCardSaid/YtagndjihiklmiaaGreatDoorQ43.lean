/- What the arms of Play share, for the program's player and the reference's. -/
import Derived.Test.YtagndjihiklmiaaGreatDoorQ42
set_option linter.unusedSimpArgs false
set_option linter.unusedVariables false
set_option maxRecDepth 100000
set_option maxHeartbeats 8000000
namespace Go.Proofs.YtagndjihiklmiaaGreatDoor
open Go.RowKit Go.Sort
theorem wait_ok {s:St} (h:Inv s):∀ r ∈ s.wait,ReqOk r:=fun r hr=>by
 obtain ⟨i,hi⟩:=List.getElem?_of_mem (List.mem_append_left s.v.d.l hr);exact good_mem h.good hi
theorem busy_ok {s:St} (h:Inv s):∀ r ∈ s.v.d.l,ReqOk r:=fun r hr=>by
 obtain ⟨i,hi⟩:=List.getElem?_of_mem (List.mem_append_right s.wait hr);exact good_mem h.good hi
theorem ask_err (s:St) (a k p:Int) (d:ByteArray):(s.ask a k p d).2≤1000:=by
 unfold St.ask
 split
 ·exact Nat.le_of_ble_eq_true rfl
 ·split
  ·exact Nat.le_of_ble_eq_true rfl
  ·split <;> exact Nat.le_of_ble_eq_true rfl
theorem endAt_err (v:Drv) (i:Int) (f:Bool):(v.endAt i f).2.2.2≤1000:=by
 unfold Drv.endAt;simp only
 split
 ·show (v.d.endAt i f).2.2≤1000
  unfold Dv.endAt
  split
  ·exact Nat.le_of_ble_eq_true rfl
  ·split <;> exact Nat.le_of_ble_eq_true rfl
 ·split
  ·exact Nat.zero_le _
  ·split
   ·show (Dv.start _ _).2≤1000
    unfold Dv.start
    split <;> exact Nat.le_of_ble_eq_true rfl
   ·exact Nat.zero_le _
theorem end_err (s:St) (i:Int) (f:Bool):(s.end_ i f).2≤1000:=by
 unfold St.end_;simp only
 split
 ·exact endAt_err _ _ _
 ·split <;> exact Nat.le_of_ble_eq_true rfl
theorem yesB_size (b:Bool):(yesB b).size≤3:=by cases b <;> decide
def Ks (p b bd bb:Nat) (z:Stp) (u:World):Prop :=
 u.cell? ⟨p,0,none⟩=some (.pointer (some ⟨bd,0,none⟩))∧u.cell? ⟨p,1,none⟩=some (.pointer (some ⟨b,0,none⟩))∧u.cell? ⟨bb,0,none⟩=some (.string z.word)∧u.cell? ⟨bb,1,none⟩=some (.int .i64 z.a)∧u.cell? ⟨bb,2,none⟩=some (.int .i64 z.b)∧u.cell? ⟨bb,3,none⟩=some (.string z.data)
section
variable {W0 w w1 u1 u2 u3:World} {col col1:Nat→Nat} {p b bd bb N N1:Nat} {K K1:Int} {x y1:Sv} {s t:St} {z:Stp} {T:Tys} {tp:TypeId}
theorem Ks.keep {F:Nat→Prop} (h:Ks p b bd bb z w) (hc:Chg F w w1) (hp:¬ F p) (hb:¬ F bb) (hpl:p<w.heap.size) (hbl:bb<w.heap.size):Ks p b bd bb z w1:=by
 obtain ⟨h0,h1,h2,h3,h4,h5⟩:=h;have e1:=hc.block p hpl hp;have e2:=hc.block bb hbl hb;exact ⟨(World.cell?_of_block e1).trans h0,(World.cell?_of_block e1).trans h1,(World.cell?_of_block e2).trans h2,(World.cell?_of_block e2).trans h3,(World.cell?_of_block e2).trans h4,(World.cell?_of_block e2).trans h5⟩
theorem Ks.below (h:Ks p b bd bb z w) (hb:Below w.heap.size w w1) (hpl:p<w.heap.size) (hbl:bb<w.heap.size):Ks p b bd bb z w1:=h.keep (F:=fun _=>False) (Chg.of_below hb) id id hpl hbl
theorem play_done (h1:PlAt T tp W0 u1 col1 p b bd N1 K1 y1 t) (hB:Below w.heap.size w w1) (hp:Pr col col1 p w1 u1) (hb:Below u1.heap.size u1 u2) (h9:col p=9) (hN:N1≤N+2000) (hK:K1≤K+15000) :
  ∃ (col':Nat→Nat) (b':Nat) (y:Sv),PlAt T tp W0 u2 col' p b' bd (N+2000) (K+15000) y t∧Pr col col' p w u2 :=
 ⟨col1,b,y1,(h1.mono hN hK).step hb,(hp.before hB).after (Pr.rest hb) h9⟩
end
def RetPlay (T:Tys) (tp:TypeId) (W0:World) (col:Nat→Nat) (w:World) (p bd N:Nat) (K:Int) (s:St) (z:Stp):Ending→World→Prop:=fun e w' =>
 e=.returned (.string (playM s z).2)∧∃ (col':Nat→Nat) (b':Nat) (y:Sv),PlAt T tp W0 w' col' p b' bd (N+2000) (K+15000) y (playM s z).1∧Pr col col' p w w'
theorem PlAt.call_cells {T:Tys} {tp:TypeId} {W0 w u:World} {col col2:Nat→Nat} {p b bd bb N N2:Nat} {K K2:Int} {x y:Sv} {s t:St} {z:Stp} (h:PlAt T tp W0 w col p b bd N K x s) (h2:PlAt T tp W0 u col2 p b bd N2 K2 y t) (hp:Pr col col2 p w u) (k:Ks p b bd bb z w) (hcb:¬ Fl col bb) (hbn:bb≠p) (hbl:bb<w.heap.size) :
  Ks p b bd bb z u∧p<u.heap.size∧bb<u.heap.size:=by
 obtain ⟨_,_,k2,k3,k4,k5⟩:=k;obtain ⟨c0,c1⟩:=h2.cell;have e:=hp.chg.block bb hbl (fun e=>e.elim hcb hbn);exact ⟨⟨c0,c1,(World.cell?_of_block e).trans k2,(World.cell?_of_block e).trans k3,(World.cell?_of_block e).trans k4,(World.cell?_of_block e).trans k5⟩,(Array.getElem?_eq_some_iff.1 h2.row).1,Nat.lt_of_lt_of_le hbl hp.chg.size⟩
theorem settle_le' (s:St) {m:Nat} (hm:m≤999):(St.settle m s).2≤999:=by
 have:∀ (n:Nat) (s:St),(St.settle n s).2≤n:=by
  intro n
  induction n with
  |zero=>intro s; exact Nat.le_refl _
  |succ n ih =>
   intro s;unfold St.settle
   split
   ·exact Nat.zero_le _
   ·have:=ih s.round
    show (St.settle n s.round).2+1≤n+1;omega
 exact Nat.le_trans (this m s) hm
structure Pre (T:Tys) (tp ts:TypeId) (W0:World) (col:Nat→Nat) (w w1:World) (p b bd bb N:Nat) (x:Sv) (s:St) (z:Stp) (K:Int):Prop where
 hbb:w.heap.size=bb
 HW:Hid (w.alloc (.cells #[.string z.word,.int .i64 z.a,.int .i64 z.b,.string z.data] ts)=w1)
 pc0:∀ o,(w.alloc o).cell? ⟨p,0,none⟩=some (.pointer (some ⟨bd,0,none⟩))
 pc1:∀ o,(w.alloc o).cell? ⟨p,1,none⟩=some (.pointer (some ⟨b,0,none⟩))
 H1:Hid (PlAt T tp W0 w1 col p b bd N K x s)
 KS:Hid (Ks p b bd bb z w1)
 HX:Hid (Below w.heap.size w w1)
 Hpl:Hid (p<w1.heap.size)
 Hbl:Hid (bb<w1.heap.size)
 Hbn:Hid (bb≠p)
 Hcb:Hid (¬ Fl col bb)
 HEE:Hid (Env W0)
 Ha:Hid (0≤z.a∧z.a≤999)
 H0:Hid (PlAt T tp W0 w col p b bd N K x s)
 q0:0≤K
 hK:K≤500000000
 hN:N≤800000000
 HD:Hid (PlAt T tp W0 w1.drew col p b bd N K x s)
 KD:Hid (Ks p b bd bb z w1.drew)
 HXD:Hid (Below w.heap.size w w1.drew)
 k:Ks p b bd bb z w1
theorem PlAt.pre {T:Tys} {tp:TypeId} {W0 w:World} {col:Nat→Nat} {p b bd N:Nat} {K:Int} {x:Sv} {s:St} (h:PlAt T tp W0 w col p b bd N K x s) (ts:TypeId) (z:Stp) (hE:Env W0) (hK:K≤500000000) (hN:N≤800000000) (ha:0≤z.a∧z.a≤999):∃ w1 bb,Pre T tp ts W0 col w w1 p b bd bb N x s z K:=by
 have hX:=StpBox.new ts z w;have hpl:=(Array.getElem?_eq_some_iff.1 h.row).1;obtain ⟨d0,d1,d2,d3⟩:=hX.c;have h1:=h.step hX.bel;obtain ⟨c0,c1⟩:=h1.cell;have k:∀ o,(w.alloc o).heap[p]?=_:=fun o=>(Below.heap_alloc _ _ _ hpl).trans h.row
 exact ⟨_,_,rfl,rfl,fun o=>cell_of_row _ _ 0 _ _ _ (k o),fun o=>cell_of_row _ _ 1 _ _ _ (k o),h1,⟨c0,c1,d0,d1,d2,d3⟩,hX.bel,Nat.lt_of_lt_of_le hpl hX.bel.size,hX.hi,show _≠_ by omega,fun hf=>hf.1 (h.st.s0 _ (Nat.le_refl _)),hE,ha,h,h.k0,hK,hN,h1.step (Below.refl _ _).drew,⟨c0,c1,d0,d1,d2,d3⟩,hX.bel.trans (((Below.refl _ _).drew).mono hX.bel.size),c0,c1,d0,d1,d2,d3⟩
end Go.Proofs.YtagndjihiklmiaaGreatDoor
namespace Go.Proofs.YtagndjihiklmiaaGreatDoor
open Go.RowKit Go.Sort
theorem take_eq_succ {α:Type} (a b:List α) (k:Nat) (x:α) (h:a.take k=b.take k) (ha:a[k]?=some x) (hb:b[k]?=some x):a.take (k+1)=b.take (k+1):=by
 rw [List.take_add_one,List.take_add_one,h,ha,hb]
theorem take_eq_end {α:Type} (a b:List α) (k:Nat) (h:a.take k=b.take k) (hl:a.length=b.length) (hk:a.length≤k):a=b:=by
 rwa [List.take_of_length_le hk,List.take_of_length_le (by omega)] at h
theorem ne_at {α:Type} (a b:List α) (k:Nat) (x y:α) (ha:a[k]?=some x) (hb:b[k]?=some y) (h:x≠y):¬ a=b:=fun e=>h (by rw [e,hb] at ha; cases ha; rfl)
theorem str_ne {s t:ByteArray} (h:¬ s=t):(!s.toList == t.toList)=true:=by
 have:¬ s.toList=t.toList:=fun e=>h (by
  rw [ByteArray.toList_eq,ByteArray.toList_eq] at e
  exact Go.WideShapes.bytes_inj e)
 simp [this]
def eqB {α:Type} [DecidableEq α] (a b:α):Bool:=decide (a=b)
theorem eqB_true {α:Type} [DecidableEq α] {a b:α} (h:a=b):eqB a b=true:=by simp [eqB,h]
theorem eqB_false {α:Type} [DecidableEq α] {a b:α} (h:¬ a=b):eqB a b=false:=by simp [eqB,h]
theorem sametexts_any (S:Nat→Prop) (a b:List ByteArray) (va vb:Value) (w:World) (ha:StrsAt S w va a) (hb:StrsAt S w vb b) :
  Calls Tryz.prog 10 #[va,vb] w (Ret (.bool (eqB a b)) w):=by
 obtain ⟨A,ca,rfl,h1,h2⟩:=ha.form;obtain ⟨B,cb,rfl,h3,h4⟩:=hb.form;unfold maxLen at h2 h4;have Ha:=Lib.hid ha;have Hb:=Lib.hid hb;clear ha hb;by_cases hn:a.length=b.length
 ·have hn':((a.length:Int) != (b.length:Int))=false:=by simp [hn]
  go_enter Tryz.func10,Tryz.ntmps10;go_wp2;go_loopw [5] (fun i wr=>∃ k:Nat,k≤a.length∧i=.int .i64 k∧Below w.heap.size w wr∧Hid (a.take k=b.take k)) (fun i _=>a.length - (intOf i).toNat)
  case atStart=>exact ⟨0,by omega,rfl,Below.refl _ _,rfl⟩
  case round =>
   obtain ⟨k,hk,rfl,hw,hall⟩:=hrel;by_cases hlt:k<a.length
   ·obtain ⟨ba,oa,rfl,_,hba,hca⟩:=(Ha.out.below hw).at_ (by omega)
    obtain ⟨bb,ob,rfl,_,hbb,hcb⟩:=(Hb.out.below hw).at_ (by omega);have hx:a[k]?=some a[k]:=List.getElem?_eq_getElem hlt;have hy:b[k]?=some (b[k]'(by omega)):=List.getElem?_eq_getElem (by omega);have hxc:=hca k _ hx;have hyc:=hcb k _ hy;obtain ⟨hxc,hsx⟩:=hxc;obtain ⟨hyc,hsy⟩:=hyc;clear hca hcb;have Hx:=Lib.hid hx;have Hy:=Lib.hid hy;clear hx hy;generalize a[k]=s at *;generalize b[k]'(by omega)=t at *;have hk1:(k:Int)<(a.length:Int):=by omega
    have hk2:(k:Int)<(b.length:Int):=by omega
    by_cases hs:s=t
    ·subst hs
     go_wp2_with go_region;go_roundw
     case rel=>exact ⟨k+1,by omega,by go_num,hw.drew,take_eq_succ _ _ _ _ hall.out Hx.out Hy.out⟩
     case measure=>simp [intOf]; omega
    ·have hs':=str_ne hs
     go_wp2_with go_region;go_ret;exact ⟨by rw [eqB_false (ne_at _ _ _ _ _ Hx.out Hy.out hs)]; rfl,hw.drew⟩
   ·go_wp2
    go_ret;exact ⟨by rw [eqB_true (take_eq_end _ _ _ hall.out hn (by omega))]; rfl,hw⟩
 ·have hn':((a.length:Int) != (b.length:Int))=true:=by simp; omega
  rw [eqB_false (fun e=>hn (by rw [e]))];go_enter Tryz.func10,Tryz.ntmps10;go_wp2;go_ret;exact ⟨rfl,Below.refl _ _⟩
structure RSt (B:Nat) (w wr:World) (x y:Rq) (xd xt yd yt:Value):Prop where
 below:Below B w wr
 b0:wr.heap[B]?=some (.cells #[.bool x.write,.int .i64 x.lo,.int .i64 x.many,xd,xt,.int .i64 x.born] 117 (0,0))
 b1:wr.heap[B+1]?=some (.cells #[.bool y.write,.int .i64 y.lo,.int .i64 y.many,yd,yt,.int .i64 y.born] 117 (0,0))
 lt:B+1<wr.heap.size
section
variable {B:Nat} {w wr w':World} {x y:Rq} {xd xt yd yt:Value}
theorem RSt.step (h:RSt B w wr x y xd xt yd yt) (hb:Below wr.heap.size wr w'):RSt B w w' x y xd xt yd yt :=
 have:=h.lt
 ⟨h.below.trans (hb.mono (by omega)),(hb.block _ (by omega)).trans h.b0,(hb.block _ (by omega)).trans h.b1,by have:=hb.size; omega⟩
theorem RSt.limbs (h:RSt B w wr x y xd xt yd yt) :
  wr.cell? ⟨B,0,none⟩=some (.bool x.write)∧wr.cell? ⟨B,1,none⟩=some (.int .i64 x.lo)∧wr.cell? ⟨B,2,none⟩=some (.int .i64 x.many)∧wr.cell? ⟨B,3,none⟩=some xd∧wr.cell? ⟨B,4,none⟩=some xt∧wr.cell? ⟨B,5,none⟩=some (.int .i64 x.born) ∧
  wr.cell? ⟨B+1,0,none⟩=some (.bool y.write)∧wr.cell? ⟨B+1,1,none⟩=some (.int .i64 y.lo)∧wr.cell? ⟨B+1,2,none⟩=some (.int .i64 y.many)∧wr.cell? ⟨B+1,3,none⟩=some yd∧wr.cell? ⟨B+1,4,none⟩=some yt∧wr.cell? ⟨B+1,5,none⟩=some (.int .i64 y.born) :=
 ⟨cell_of_row _ _ 0 _ _ _ h.b0,cell_of_row _ _ 1 _ _ _ h.b0,cell_of_row _ _ 2 _ _ _ h.b0,cell_of_row _ _ 3 _ _ _ h.b0,cell_of_row _ _ 4 _ _ _ h.b0,cell_of_row _ _ 5 _ _ _ h.b0,
  cell_of_row _ _ 0 _ _ _ h.b1,cell_of_row _ _ 1 _ _ _ h.b1,cell_of_row _ _ 2 _ _ _ h.b1,cell_of_row _ _ 3 _ _ _ h.b1,cell_of_row _ _ 4 _ _ _ h.b1,cell_of_row _ _ 5 _ _ _ h.b1⟩
end
theorem RSt.start (w:World) (x y:Rq) (xd xt yd yt:Value):RSt w.heap.size w ((w.alloc (Obj.cells #[Value.bool x.write,Value.int IntKind.i64 x.lo,Value.int IntKind.i64 x.many,xd,xt,Value.int IntKind.i64 x.born] 117)).alloc (Obj.cells #[Value.bool y.write,Value.int IntKind.i64 y.lo,Value.int IntKind.i64 y.many,yd,yt,Value.int IntKind.i64 y.born] 117)) x y xd xt yd yt :=
 ⟨((Below.refl _ _).alloc (Nat.le_refl _) _).alloc (by simp) _,heap_alloc2_old _ _ _,heap_alloc2_new _ _ _,by simp⟩
end Go.Proofs.YtagndjihiklmiaaGreatDoor
namespace Go.Proofs.YtagndjihiklmiaaGreatDoor
open Go.RowKit Go.Sort
def Ka (b2 bd2:Nat) (y:Sv) (s:St) (lv:Value) (q:World):Prop:=q.cell? ⟨b2,2,none⟩=some y.bufs∧q.cell? ⟨b2,20,none⟩=some (.bool s.dead)∧q.cell? ⟨b2,3,none⟩=some y.wait∧q.cell? ⟨b2,0,none⟩=some (.pointer (some ⟨bd2,0,none⟩))∧q.cell? ⟨bd2,65,none⟩=some lv
theorem Ka.b {b2 bd2:Nat} {y:Sv} {s:St} {lv:Value} {u u':World} (h:Ka b2 bd2 y s lv u) (hb:Below u.heap.size u u'):Ka b2 bd2 y s lv u':=⟨cell_b hb h.1,cell_b hb h.2.1,cell_b hb h.2.2.1,cell_b hb h.2.2.2.1,cell_b hb h.2.2.2.2⟩
theorem StAt.list {T:Tys} {col:Nat→Nat} {w:World} {b bd N:Nat} {x:Sv} {s:St} (h:StAt T col w b bd N x s):∃ lv,w.cell? ⟨bd,65,none⟩=some lv∧ReqsAt (fun _=>True) w lv s.v.d.l:=by
 obtain ⟨_,hk32,hn32,wv,lv,ds,hrowd,_,hld,hds,hokd⟩:=h.drv.dev;exact ⟨lv,by rw [cell_of_row _ _ _ _ _ _ hrowd]; simpa using devCells_at_l s.v.d wv _ hk32 hn32,ds,hds,(show ds.length=s.v.d.l.length by rw [← hds,List.length_map])▸hld.rd.more (fun _ _=>trivial),fun c hc=>(hokd c hc).more (fun _ _=>trivial)⟩
end Go.Proofs.YtagndjihiklmiaaGreatDoor
namespace Go.Proofs.YtagndjihiklmiaaGreatDoor
open Go.RowKit Go.Sort
abbrev rplayG (W0:World) (col:Nat→Nat) (w:World) (p bd N:Nat) (s:St) (z:Stp) (K:Int):Prop:=Calls Tryz.prog 9 #[.pointer (some ⟨p,0,none⟩),stpV z] w (RetPlay Tr tPr W0 col w p bd N K s z)
section
variable {W0 w w1:World} {col:Nat→Nat} {p b bd bb N:Nat} {K:Int} {x:Sv} {s:St} {z:Stp}
theorem rplay_asks (P:Pre Tr tPr 32 W0 col w w1 p b bd bb N x s z K) (hc:pcOf z.word=.read∨pcOf z.word=.write∨pcOf z.word=.sync):rplayG W0 col w p bd N s z K:=by
 obtain ⟨hbb,HW,pc0,pc1,H1,KS,HX,Hpl,Hbl,Hbn,Hcb,HEE,Ha,H0,q0,hK,hN,HD,KD,HXD,c0,c1,d0,d1,d2,d3⟩:=P;rcases hc with hc | hc | hc;obtain ⟨h0,_⟩:=Wd.of hc;have He:Hid (playM s z=((s.ask z.a 1 z.b noB).1,doneB (s.ask z.a 1 z.b noB).2)):=show _=_ by unfold playM; rw [hc]
 rotate_left;obtain ⟨h0,h1,_⟩:=Wd.of hc;have He:Hid (playM s z=((s.ask z.a 2 z.b z.data).1,doneB (s.ask z.a 2 z.b z.data).2)):=show _=_ by unfold playM; rw [hc]
 rotate_left;obtain ⟨h0,h1,h2,_⟩:=Wd.of hc;have He:Hid (playM s z=((s.ask z.a 3 0 noB).1,doneB (s.ask z.a 3 0 noB).2)):=show _=_ by unfold playM; rw [hc]
 rotate_left
 all_goals
  clear hc;go_enter Tryz.func9,Tryz.ntmps9;go_wp2_with fail;rw [HW.out]
  go_region_held3 (fun u=>u.cell? ⟨p,0,none⟩=some (.pointer (some ⟨bd,0,none⟩))∧u.cell? ⟨p,1,none⟩=some (.pointer (some ⟨b,0,none⟩))∧u.cell? ⟨bb,0,none⟩=some (.string z.word)∧u.cell? ⟨bb,1,none⟩=some (.int .i64 z.a)∧u.cell? ⟨bb,2,none⟩=some (.int .i64 z.b)∧u.cell? ⟨bb,3,none⟩=some (.string z.data))
   (first | exact K2 | exact K1 | exact KD.out | exact KS.out)
   (first
    |(go_at_call 21; refine (rask_any col w1.drew b bd N x s z.a _ _ _ K HD.out.st HD.out.inv HD.out.bnd q0 (by omega)).mono ?_; rintro e u1 hr; obtain ⟨rfl,col2,y2,h2,hp2⟩:=HD.out.five hr (HD.out.inv.ask_ ..) (HD.out.bnd.ask q0 ..) (by omega); have hl1:=HD.out.call_cells h2 hp2 KD.out Hcb.out Hbn.out Hbl.out; have K1:=hl1.1; have H2:=Lib.hid h2; have HP:=Lib.hid hp2; have HL:=Lib.hid hl1.2; clear hr h2 hp2 hl1)
    |(go_at_call 20; refine (rdone_any _ u1 (ask_err ..)).mono ?_; rintro e u2 ⟨rfl,hb2⟩; have K2:=Ks.below K1 hb2 HL.out.1 HL.out.2; have HB2:=Lib.hid hb2; clear hb2))
  go_wp2_with fail;go_ret;unfold RetPlay;rw [He.out];exact ⟨rfl,play_done H2.out HXD.out HP.out HB2.out H0.out.c9 (by omega) (by omega)⟩
theorem rplay_got (P:Pre Tr tPr 32 W0 col w w1 p b bd bb N x s z K) (hc:pcOf z.word=.got):rplayG W0 col w p bd N s z K:=by
 obtain ⟨hbb,HW,pc0,pc1,H1,KS,HX,Hpl,Hbl,Hbn,Hcb,HEE,Ha,H0,q0,hK,hN,HD,KD,HXD,c0,c1,d0,d1,d2,d3⟩:=P;obtain ⟨h0,h1,h2,h3,_⟩:=Wd.of hc;have He:Hid (playM s z=(s,gotM s z.a)):=show _=_ by unfold playM; rw [hc]
 clear hc;obtain ⟨zw,za,zb,zd⟩:=z
 obtain ⟨c,rfl⟩:∃ c:Nat,za=(c:Int):=⟨za.toNat,by have:=Ha.out.1; dsimp only at this; omega⟩
 dsimp only at *;by_cases h3:3≤(c:Int)
 ·have He:Hid (playM s ⟨zw,(c:Int),zb,zd⟩=(s,doneB 5)):=show _=_ by rw [He.out]; unfold gotM; rw [if_pos h3]
  have g2:(2:Int)<(c:Int):=by omega
  go_enter Tryz.func9,Tryz.ntmps9;go_wp2_with fail;rw [HW.out];refine (rdone_any 5 w1 (by decide)).mono ?_;rintro e u1 ⟨rfl,hb1⟩;have HB1:=Lib.hid hb1;clear hb1;go_wp2_with fail;go_ret;unfold RetPlay;rw [He.out];exact ⟨rfl,play_done H1.out HX.out (Pr.rest (Below.refl _ _)) HB1.out H0.out.c9 (by omega) (by omega)⟩
 have hc3:c<3:=by omega
 have g2:¬ (2:Int)<(c:Int):=by omega
 have g0:¬ (c:Int)<0:=by omega
 have HG:Hid (gotM s (c:Int)=if (s.askAt c).isSome then p_waitsB else if (s.got c).2≠0 then doneB (s.got c).2 else p_dataB ++ (s.got c).1):=show _=_ by unfold gotM; rw [if_neg h3,Int.toNat_natCast]
 obtain ⟨pa,ep,hn,hq⟩:=H1.out.st.ptr c hc3;have cA:w1.cell? ⟨b,11+c,none⟩=some (.pointer pa):=(H1.out.st.cellA hc3).trans (congrArg some ep);have gA:=cell_regrown cA;have gd:=cell_regrown d1;have gc:=cell_regrown c1
 have key:((s.askAt c).isSome=false∧pa=none)∨((s.askAt c).isSome=true∧∃ ba:Nat,pa=some ⟨ba,0,none⟩):=by
  cases ho:s.askAt c with
  |none=>exact .inl ⟨rfl,hn ho⟩
  |some a=>exact .inr ⟨rfl,hq a ho⟩
 have G9:=Lib.hid (got_err H1.out.inv c);have G16:=Lib.hid (got_size H1.out.inv c);clear ep hn hq h3
 rcases key with ⟨e1,rfl⟩ | ⟨e1,ba,rfl⟩
 all_goals
  have HN:=Lib.hid e1;clear e1;go_enter Tryz.func9,Tryz.ntmps9;go_wp2_with fail;rw [HW.out];refine wp_region_quiet_below mixed (by kernel_rfl) ?_;repeat (first | go_big_quiet_step (fail) | quiet_step (fail))
  refine wpQuiet_nil ?_;intro _ hw';obtain ⟨⟨dq,osq⟩,hw''⟩:=hw';subst hw'';have H4:=Lib.hid (below_regrown w1 dq osq);clear gA gd gc;generalize grow (redrawn w1 dq) osq=w4 at H4 ⊢;go_wp2_with fail
 rotate_left
 ·go_ret
  unfold RetPlay;rw [He.out];dsimp only;rw [HG.out,HN.out];exact ⟨rfl,play_done H1.out HX.out (Pr.rest (Below.refl _ _)) H4.out H0.out.c9 (by omega) (by omega)⟩
 have H5:=Lib.hid (H4.out.trans (((Below.refl w4.heap.size w4).drew).mono H4.out.size))
 have K4:w4.drew.cell? ⟨p,1,none⟩=some (.pointer (some ⟨b,0,none⟩))∧w4.drew.cell? ⟨bb,1,none⟩=some (.int .i64 (c:Int)):=⟨cell_b H5.out c1,cell_b H5.out d1⟩
 go_region_held3 (fun u=>u.cell? ⟨p,1,none⟩=some (.pointer (some ⟨b,0,none⟩))∧u.cell? ⟨bb,1,none⟩=some (.int .i64 (c:Int)))
  (first | exact K1 | exact K4)
  (first
   |(go_at_call 22; refine (rgot_any col w4.drew b bd N x s c (H1.out.st.below H5.out) hc3).mono ?_; rintro e u1 ⟨rfl,hb1⟩; have K1:=And.intro (cell_b hb1 K4.1) (cell_b hb1 K4.2); have HB1:=Lib.hid (H5.out.trans (hb1.mono H5.out.size)); clear hb1)
   |fail)
 clear K1;generalize (s.got c).1=dd at *;generalize (s.got c).2=n at *;have g9:=G9.out;have g16:=G16.out;have z1:¬ (9223372036854775807<5+dd.size):=by omega
 by_cases he:n=0
 ·have He:Hid (playM s ⟨zw,(c:Int),zb,zd⟩=(s,(⟨#[100,97,116,97,32]⟩:ByteArray) ++ dd)):=show _=_ by rw [He.out,HG.out,HN.out,he]; rfl
  have e0:decide (0<n)=false:=by rw [he]; rfl
  clear he;go_wp2_with fail;go_ret;unfold RetPlay;rw [He.out];exact ⟨rfl,play_done H1.out HX.out (Pr.rest (Below.refl _ _)) HB1.out H0.out.c9 (by omega) (by omega)⟩
 ·have He:Hid (playM s ⟨zw,(c:Int),zb,zd⟩=(s,doneB n)):=show _=_ by rw [He.out,HG.out,HN.out,if_neg (by decide),if_pos he]
  have e0:decide (0<n)=true:=decide_eq_true (by omega);go_wp2_with fail;refine (rdone_any n u1 (by omega)).mono ?_;rintro e u2 ⟨rfl,hb2⟩;have HB2:=Lib.hid (HB1.out.trans (hb2.mono HB1.out.size));clear hb2;go_wp2_with fail;go_ret;unfold RetPlay;rw [He.out];exact ⟨rfl,play_done H1.out HX.out (Pr.rest (Below.refl _ _)) HB2.out H0.out.c9 (by omega) (by omega)⟩
theorem rplay_tick (P:Pre Tr tPr 32 W0 col w w1 p b bd bb N x s z K) (hc:pcOf z.word=.tick):rplayG W0 col w p bd N s z K:=by
 obtain ⟨hbb,HW,pc0,pc1,H1,KS,HX,Hpl,Hbl,Hbn,Hcb,HEE,Ha,H0,q0,hK,hN,HD,KD,HXD,c0,c1,d0,d1,d2,d3⟩:=P;obtain ⟨h0,h1,h2,h3,h4,_⟩:=Wd.of hc;have He:Hid (playM s z=(s.tick,p_okB)):=show _=_ by unfold playM; rw [hc]
 clear hc;go_enter Tryz.func9,Tryz.ntmps9;go_wp2_with fail;rw [HW.out];refine (rtick_any col w1 b bd N x s K H1.out.st H1.out.inv H1.out.bnd q0 (by omega)).mono ?_;rintro e u1 hr;obtain ⟨rfl,col2,y2,h2,hp2⟩:=H1.out.five hr (H1.out.inv.tick) (H1.out.bnd.tick q0) (by omega);have H2:=Lib.hid h2;have HP:=Lib.hid hp2;clear hr h2 hp2;go_wp2_with fail;go_ret;unfold RetPlay;rw [He.out];exact ⟨rfl,play_done H2.out HX.out HP.out (Below.refl _ _) H0.out.c9 (by omega) (by omega)⟩
theorem rplay_clean (P:Pre Tr tPr 32 W0 col w w1 p b bd bb N x s z K) (hc:pcOf z.word=.clean):rplayG W0 col w p bd N s z K:=by
 obtain ⟨hbb,HW,pc0,pc1,H1,KS,HX,Hpl,Hbl,Hbn,Hcb,HEE,Ha,H0,q0,hK,hN,HD,KD,HXD,c0,c1,d0,d1,d2,d3⟩:=P;obtain ⟨h0,h1,h2,h3,h4,h5,_⟩:=Wd.of hc;have He:Hid (playM s z=(s.clean.1,yesB s.clean.2)):=show _=_ by unfold playM; rw [hc]
 clear hc;go_enter Tryz.func9,Tryz.ntmps9;go_wp2_with fail;rw [HW.out];refine (rclean_st col w1 b bd N x s H1.out.st H1.out.inv ⟨by have:=H1.out.bnd.use; omega,by have:=H1.out.bnd.tag; omega⟩).mono ?_;rintro e u1 hr;obtain ⟨rfl,col2,y2,h2,hp2⟩:=H1.out.two hr (H1.out.inv.clean) (H1.out.bnd.clean) (by omega);have H2:=Lib.hid h2;have HP:=Lib.hid hp2;clear hr h2 hp2;go_wp2_with fail;refine (ryes_any _ u1).mono ?_;rintro e u2 ⟨rfl,hb2⟩;have HB2:=Lib.hid hb2;clear hb2;go_wp2_with fail;go_ret;unfold RetPlay;rw [He.out];exact ⟨rfl,play_done H2.out HX.out HP.out HB2.out H0.out.c9 (by omega) (by omega)⟩
theorem rplay_dispatch (P:Pre Tr tPr 32 W0 col w w1 p b bd bb N x s z K) (hc:pcOf z.word=.dispatch):rplayG W0 col w p bd N s z K:=by
 obtain ⟨hbb,HW,pc0,pc1,H1,KS,HX,Hpl,Hbl,Hbn,Hcb,HEE,Ha,H0,q0,hK,hN,HD,KD,HXD,c0,c1,d0,d1,d2,d3⟩:=P;obtain ⟨h0,h1,h2,h3,h4,h5,h6,_⟩:=Wd.of hc;have He:Hid (playM s z=(s.dispatch.1,yesB s.dispatch.2)):=show _=_ by unfold playM; rw [hc]
 clear hc;go_enter Tryz.func9,Tryz.ntmps9;go_wp2_with fail;rw [HW.out];refine (rdispatch_any col w1 b bd N x s H1.out.st H1.out.inv).mono ?_;rintro e u1 hr;obtain ⟨rfl,col2,y2,h2,hp2⟩:=H1.out.five hr (H1.out.inv.dispatch) (H1.out.bnd.dispatch) (by omega);have H2:=Lib.hid h2;have HP:=Lib.hid hp2;clear hr h2 hp2;go_wp2_with fail;refine (ryes_any _ u1).mono ?_;rintro e u2 ⟨rfl,hb2⟩;have HB2:=Lib.hid hb2;clear hb2;go_wp2_with fail;go_ret;unfold RetPlay;rw [He.out];exact ⟨rfl,play_done H2.out HX.out HP.out HB2.out H0.out.c9 (by omega) (by omega)⟩
theorem rplay_ends (P:Pre Tr tPr 32 W0 col w w1 p b bd bb N x s z K) (hc:pcOf z.word=.end_∨pcOf z.word=.fault):rplayG W0 col w p bd N s z K:=by
 obtain ⟨hbb,HW,pc0,pc1,H1,KS,HX,Hpl,Hbl,Hbn,Hcb,HEE,Ha,H0,q0,hK,hN,HD,KD,HXD,c0,c1,d0,d1,d2,d3⟩:=P;rcases hc with hc | hc;obtain ⟨h0,h1,h2,h3,h4,h5,h6,h7,_⟩:=Wd.of hc;have He:Hid (playM s z=((s.end_ z.a false).1,doneB (s.end_ z.a false).2)):=show _=_ by unfold playM; rw [hc]
 rotate_left;obtain ⟨h0,h1,h2,h3,h4,h5,h6,h7,h8,_⟩:=Wd.of hc;have He:Hid (playM s z=((s.end_ z.a true).1,doneB (s.end_ z.a true).2)):=show _=_ by unfold playM; rw [hc]
 rotate_left
 all_goals
  clear hc;go_enter Tryz.func9,Tryz.ntmps9;go_wp2_with fail;rw [HW.out]
  go_region_held3 (fun u=>u.cell? ⟨p,0,none⟩=some (.pointer (some ⟨bd,0,none⟩))∧u.cell? ⟨p,1,none⟩=some (.pointer (some ⟨b,0,none⟩))∧u.cell? ⟨bb,0,none⟩=some (.string z.word)∧u.cell? ⟨bb,1,none⟩=some (.int .i64 z.a)∧u.cell? ⟨bb,2,none⟩=some (.int .i64 z.b)∧u.cell? ⟨bb,3,none⟩=some (.string z.data))
   (first | exact K2 | exact K1 | exact KD.out | exact KS.out)
   (first
    |(go_at_call 27; refine (rend_any col w1.drew b bd N x s z.a _ K HD.out.st HD.out.inv HD.out.bnd q0 (by omega) (by omega)).mono ?_; rintro e u1 hr; obtain ⟨rfl,col2,y2,h2,hp2⟩:=HD.out.five hr (HD.out.inv.end_ ..) (HD.out.bnd.end_ q0 HD.out.inv ..) (by omega); have hl1:=HD.out.call_cells h2 hp2 KD.out Hcb.out Hbn.out Hbl.out; have K1:=hl1.1; have H2:=Lib.hid h2; have HP:=Lib.hid hp2; have HL:=Lib.hid hl1.2; clear hr h2 hp2 hl1)
    |(go_at_call 20; refine (rdone_any _ u1 (end_err ..)).mono ?_; rintro e u2 ⟨rfl,hb2⟩; have K2:=Ks.below K1 hb2 HL.out.1 HL.out.2; have HB2:=Lib.hid hb2; clear hb2))
  go_wp2_with fail;go_ret;unfold RetPlay;rw [He.out];exact ⟨rfl,play_done H2.out HXD.out HP.out HB2.out H0.out.c9 (by omega) (by omega)⟩
theorem rplay_round (P:Pre Tr tPr 32 W0 col w w1 p b bd bb N x s z K) (hc:pcOf z.word=.round):rplayG W0 col w p bd N s z K:=by
 obtain ⟨hbb,HW,pc0,pc1,H1,KS,HX,Hpl,Hbl,Hbn,Hcb,HEE,Ha,H0,q0,hK,hN,HD,KD,HXD,c0,c1,d0,d1,d2,d3⟩:=P;obtain ⟨h0,h1,h2,h3,h4,h5,h6,h7,h8,h9,_⟩:=Wd.of hc;have He:Hid (playM s z=(s.round,p_okB)):=show _=_ by unfold playM; rw [hc]
 clear hc;go_enter Tryz.func9,Tryz.ntmps9;go_wp2_with fail;rw [HW.out];refine (rround_any col w1 b bd N x s K H1.out.st H1.out.inv H1.out.bnd q0 (by omega) (by omega)).mono ?_;rintro e u1 hr;obtain ⟨rfl,col2,y2,h2,hp2⟩:=H1.out.five hr (H1.out.inv.round) (H1.out.bnd.round q0 H1.out.inv) (by omega);have H2:=Lib.hid h2;have HP:=Lib.hid hp2;clear hr h2 hp2;go_wp2_with fail;go_ret;unfold RetPlay;rw [He.out];exact ⟨rfl,play_done H2.out HX.out HP.out (Below.refl _ _) H0.out.c9 (by omega) (by omega)⟩
theorem rplay_settle (P:Pre Tr tPr 32 W0 col w w1 p b bd bb N x s z K) (hc:pcOf z.word=.settle):rplayG W0 col w p bd N s z K:=by
 obtain ⟨hbb,HW,pc0,pc1,H1,KS,HX,Hpl,Hbl,Hbn,Hcb,HEE,Ha,H0,q0,hK,hN,HD,KD,HXD,c0,c1,d0,d1,d2,d3⟩:=P;obtain ⟨h0,h1,h2,h3,h4,h5,h6,h7,h8,h9,h10,_⟩:=Wd.of hc;have He:Hid (playM s z=((St.settle z.a.toNat s).1,(itoaB ((St.settle z.a.toNat s).2:Nat) ++ p_spB) ++ yesB (St.settle z.a.toNat s).1.quiet)):=show _=_ by unfold playM; rw [hc]
 clear hc;have hm0:z.a.toNat≤999:=by have:=Ha.out; omega
 have HM:Hid (z.a=((z.a.toNat:Nat):Int)):=show _=_ from (Int.toNat_of_nonneg Ha.out.1).symm;have HQ:Hid ((St.settle z.a.toNat s).2≤999):=settle_le' s hm0;go_enter Tryz.func9,Tryz.ntmps9;go_wp2_with fail;rw [HW.out]
 go_region_held3 (fun u=>u.cell? ⟨p,0,none⟩=some (.pointer (some ⟨bd,0,none⟩))∧u.cell? ⟨p,1,none⟩=some (.pointer (some ⟨b,0,none⟩))∧u.cell? ⟨bb,0,none⟩=some (.string z.word)∧u.cell? ⟨bb,1,none⟩=some (.int .i64 z.a)∧u.cell? ⟨bb,2,none⟩=some (.int .i64 z.b)∧u.cell? ⟨bb,3,none⟩=some (.string z.data))
  (first | exact K1 | exact KD.out | exact KS.out)
  (first
   |(go_at_call 29; rw [HM.out]; refine (rsettle_any col w1.drew b bd N x s K z.a.toNat HD.out.st HD.out.inv HD.out.bnd q0 (by omega) (by omega) (by omega)).mono ?_; rintro e u1 hr; obtain ⟨rfl,col2,y2,h2,hp2⟩:=HD.out.five hr HD.out.inv.settle (HD.out.bnd.settle q0 HD.out.inv) (by omega); have hl1:=HD.out.call_cells h2 hp2 KD.out Hcb.out Hbn.out Hbl.out; have K1:=hl1.1; have H2:=Lib.hid h2; have HP:=Lib.hid hp2; clear hr h2 hp2 hl1)
   |fail)
 clear K1;generalize (St.settle z.a.toNat s).1=s2 at *;generalize (St.settle z.a.toNat s).2=n2 at *;have hq9:=HQ.out;have s1:=itoaB_size (n2:Int) (by omega) (by omega);have Hi:=Lib.hid (fun w=>rdec_any (n2:Int) w (by omega) (by omega));have Hy:=Lib.hid (fun w=>ryes_any s2.quiet w);have s3:=yesB_size s2.quiet;generalize itoaB (n2:Int)=dn at *;generalize yesB s2.quiet=yq at *;have z1:¬ (9223372036854775807<dn.size+1):=by omega
 have z2:¬ (9223372036854775807<dn.size+1+yq.size):=by omega
 go_wp2_with fail;refine (Hi.out u1).mono ?_;rintro e u2 ⟨rfl,hb2⟩;have HB2:=Lib.hid hb2;clear hb2;go_wp2_with fail;refine (Hy.out u2).mono ?_;rintro e u3 ⟨rfl,hb3⟩;have HB3:=Lib.hid hb3;clear hb3;go_wp2_with fail;go_ret;unfold RetPlay;rw [He.out];exact ⟨rfl,play_done H2.out HXD.out HP.out (HB2.out.trans (HB3.out.mono HB2.out.size)) H0.out.c9 (by omega) (by omega)⟩
theorem rplay_queue (P:Pre Tr tPr 32 W0 col w w1 p b bd bb N x s z K) (hc:pcOf z.word=.queue):rplayG W0 col w p bd N s z K:=by
 obtain ⟨hbb,HW,pc0,pc1,H1,KS,HX,Hpl,Hbl,Hbn,Hcb,HEE,Ha,H0,q0,hK,hN,HD,KD,HXD,c0,c1,d0,d1,d2,d3⟩:=P;obtain ⟨h0,h1,h2,h3,h4,h5,h6,h7,h8,h9,h10,h11,_⟩:=Wd.of hc;have He:Hid (playM s z=(s,textsM s.wait)):=show _=_ by unfold playM; rw [hc]
 clear hc;have q3:∀ o,(w.alloc o).cell? ⟨b,3,none⟩=some x.wait:=fun o=>cell_b ((Below.refl _ _).alloc (Nat.le_refl _) o) (H0.out.st.cell 3)
 go_enter Tryz.func9,Tryz.ntmps9;go_wp2_with fail;rw [HW.out];refine (rtexts_any _ s.wait _ w1 H1.out.st.wait (H1.out.inv.wait6) (wait_ok H1.out.inv)).mono ?_;rintro e u1 ⟨rfl,hb1⟩;have HB1:=Lib.hid hb1;clear hb1;go_wp2_with fail;go_ret;unfold RetPlay;rw [He.out];exact ⟨rfl,play_done H1.out HX.out (Pr.rest (Below.refl _ _)) HB1.out H0.out.c9 (by omega) (by omega)⟩
theorem rplay_busy (P:Pre Tr tPr 32 W0 col w w1 p b bd bb N x s z K) (hc:pcOf z.word=.busy):rplayG W0 col w p bd N s z K:=by
 obtain ⟨hbb,HW,pc0,pc1,H1,KS,HX,Hpl,Hbl,Hbn,Hcb,HEE,Ha,H0,q0,hK,hN,HD,KD,HXD,c0,c1,d0,d1,d2,d3⟩:=P;obtain ⟨h0,h1,h2,h3,h4,h5,h6,h7,h8,h9,h10,h11,h12,_⟩:=Wd.of hc;have He:Hid (playM s z=(s,textsM s.v.d.l)):=show _=_ by unfold playM; rw [hc]
 clear hc;have q0:∀ o,(w.alloc o).cell? ⟨b,0,none⟩=some (.pointer (some ⟨bd,0,none⟩)):=fun o=>cell_b ((Below.refl _ _).alloc (Nat.le_refl _) o) (H0.out.st.cell 0)
 obtain ⟨lv,c65,hl⟩:=H0.out.st.list;have q65:∀ o,(w.alloc o).cell? ⟨bd,65,none⟩=some lv:=fun o=>cell_b ((Below.refl _ _).alloc (Nat.le_refl _) o) c65
 have Hl:=Lib.hid (hl.below (HX.out));clear hl c65;go_enter Tryz.func9,Tryz.ntmps9;go_wp2_with fail;rw [HW.out];refine (rtexts_any _ s.v.d.l _ w1 Hl.out (Nat.le_trans H1.out.inv.dv.two (by decide)) (busy_ok H1.out.inv)).mono ?_;rintro e u1 ⟨rfl,hb1⟩;have HB1:=Lib.hid hb1;clear hb1;go_wp2_with fail;go_ret;unfold RetPlay;rw [He.out];exact ⟨rfl,play_done H1.out HX.out (Pr.rest (Below.refl _ _)) HB1.out H0.out.c9 (by omega) (by omega)⟩
theorem rplay_dirty (P:Pre Tr tPr 32 W0 col w w1 p b bd bb N x s z K) (hc:pcOf z.word=.dirty):rplayG W0 col w p bd N s z K:=by
 obtain ⟨hbb,HW,pc0,pc1,H1,KS,HX,Hpl,Hbl,Hbn,Hcb,HEE,Ha,H0,q0,hK,hN,HD,KD,HXD,c0,c1,d0,d1,d2,d3⟩:=P;obtain ⟨h0,h1,h2,h3,h4,h5,h6,h7,h8,h9,h10,h11,h12,h13,_⟩:=Wd.of hc;have He:Hid (playM s z=(s,itoaB (dirtyB s.bufs:Nat))):=show _=_ by unfold playM; rw [hc]
 clear hc;have q2:∀ o,(w.alloc o).cell? ⟨b,2,none⟩=some x.bufs:=fun o=>cell_b ((Below.refl _ _).alloc (Nat.le_refl _) o) (H0.out.st.cell 2)
 go_enter Tryz.func9,Tryz.ntmps9;go_wp2_with fail;rw [HW.out];refine (rdirty_any _ s.bufs _ w1 H1.out.st.bufs (by have:=H1.out.inv.len8; omega)).mono ?_;rintro e u1 ⟨rfl,hb1⟩;have HB1:=Lib.hid hb1;clear hb1;have Hd6:=Lib.hid H1.out.inv.dirty;generalize dirtyB s.bufs=n2 at *;go_wp2_with fail;refine (rdec_any (n2:Int) u1 (by omega) (by have:=Hd6.out; omega)).mono ?_;rintro e u2 ⟨rfl,hb2⟩;have HB2:=Lib.hid hb2;clear hb2;go_wp2_with fail;go_ret;unfold RetPlay;rw [He.out];exact ⟨rfl,play_done H1.out HX.out (Pr.rest (Below.refl _ _)) (HB1.out.trans (HB2.out.mono HB1.out.size)) H0.out.c9 (by omega) (by omega)⟩
theorem rplay_crash (P:Pre Tr tPr 32 W0 col w w1 p b bd bb N x s z K) (hc:pcOf z.word=.crash):rplayG W0 col w p bd N s z K:=by
 obtain ⟨hbb,HW,pc0,pc1,H1,KS,HX,Hpl,Hbl,Hbn,Hcb,HEE,Ha,H0,q0,hK,hN,HD,KD,HXD,c0,c1,d0,d1,d2,d3⟩:=P;obtain ⟨h0,h1,h2,h3,h4,h5,h6,h7,h8,h9,h10,h11,h12,h13,h14,_⟩:=Wd.of hc
 obtain ⟨m,hm⟩:∃ m,z.a.toNat=m:=⟨_,rfl⟩
 have HMM:Hid (m≤999):=show _≤_ by have:=Ha.out; omega
 have He:Hid (playM s z=(St.new (s.v.d.crash m),p_okB)):=show _=_ by unfold playM; rw [hc]; rw [hm]
 clear hc
 have hwr:IntKind.u64.wrap z.a=(m:Int):=by
  have:=Ha.out;have e:(m:Int)=z.a:=by omega
  rw [e];unfold IntKind.wrap;simp [IntKind.bits,IntKind.signed];omega
 clear hm;go_enter Tryz.func9,Tryz.ntmps9;go_wp2_with fail;rw [HW.out]
 go_region_held3 (fun u=>u.cell? ⟨p,0,none⟩=some (.pointer (some ⟨bd,0,none⟩))∧u.cell? ⟨p,1,none⟩=some (.pointer (some ⟨b,0,none⟩))∧u.cell? ⟨bb,0,none⟩=some (.string z.word)∧u.cell? ⟨bb,1,none⟩=some (.int .i64 z.a)∧u.cell? ⟨bb,2,none⟩=some (.int .i64 z.b)∧u.cell? ⟨bb,3,none⟩=some (.string z.data))
  (first | exact K1 | exact KD.out | exact KS.out)
  (first
   |(go_at_call 33; refine (rdevcrash_any (Im w1.drew col) (Fd col) w1.drew bd s.v.d m (by have:=HMM.out; omega) HD.out.st.drv.dev (fun q hq=>(HD.out.inv.dv.waits q hq).1) (by have:=HD.out.bnd.waits; omega) (fun k hk=>HD.out.st.lt k (by rw [show col k=4 from hk]; decide)) (fun k hk hf=>by have h1:col k=4:=hf; rw [hk.2] at h1; cases h1)).mono ?_; rintro e u1 ⟨rfl,hd2,hc2⟩; have K1:=KD.out.keep hc2 (fun e=>by have e:col p=4:=e; rw [H0.out.c9] at e; cases e) (fun e=>Hcb.out ⟨by rw [show col bb=4 from e]; decide,by rw [show col bb=4 from e]; decide⟩) Hpl.out Hbl.out; have HC:=Lib.hid hc2; have HV:=Lib.hid hd2; clear hc2 hd2)
   |fail)
 obtain ⟨e0,e1,_,_,_,_⟩:=K1;have HR1:Hid (u1.heap[p]?=some (.cells #[.pointer (some ⟨bd,0,none⟩),.pointer (some ⟨b,0,none⟩)] tPr (0,0))):=(HC.out.block p Hpl.out (fun e=>by have e:col p=4:=e; rw [H0.out.c9] at e; cases e)).trans HD.out.row;go_wp2_with fail;refine (rstnew_any (fun _=>False) (Fd col) u1 bd (s.v.d.crash m) (HV.out.bare rfl) (fun k hk=>Nat.lt_of_lt_of_le (HD.out.st.lt k (by rw [show col k=4 from hk]; decide)) HC.out.size) (fun k hk=>hk.elim) (fun k hk=>hk.elim)).mono ?_;rintro e u2 ⟨b2,col2,y2,rfl,hs2,hb2,hf2,hlo⟩;have hR2:u2.heap[p]?=some (.cells #[.pointer (some ⟨bd,0,none⟩),.pointer (some ⟨b,0,none⟩)] tPr (0,0)):=(hb2.block p (Array.getElem?_eq_some_iff.1 HR1.out).1).trans HR1.out;have g1:u2.cell? ⟨p,1,none⟩=some (.pointer (some ⟨b,0,none⟩)):=cell_of_row _ _ 1 _ _ _ hR2;have gf:∀ k,u2.frozen? ⟨p,k,none⟩=false:=fun k=>frozen_of_row _ _ k _ _ hR2
 have HR2:=Lib.hid hR2;have HS2:=Lib.hid hs2;have HB2:=Lib.hid hb2;have HF2:=Lib.hid hf2;clear hR2 hs2 hb2 hf2 hlo e0 e1;go_wp2_with fail;go_ret;unfold RetPlay;rw [He.out];obtain ⟨col',h3,hp3⟩:=HD.out.crashed (m:=m) HC.out HS2.out HB2.out HF2.out (Same1.refl.setCell 1 (.pointer (some ⟨b2,0,none⟩))) (heap_setCell_same _ _ 1 _ _ _ HR2.out) (Bd.newB rfl);exact ⟨rfl,col',b2,y2,h3.mono (by omega) (by omega),hp3.before HXD.out⟩
theorem rplay_other (P:Pre Tr tPr 32 W0 col w w1 p b bd bb N x s z K) (hc:pcOf z.word=.other):rplayG W0 col w p bd N s z K:=by
 obtain ⟨hbb,HW,pc0,pc1,H1,KS,HX,Hpl,Hbl,Hbn,Hcb,HEE,Ha,H0,q0,hK,hN,HD,KD,HXD,c0,c1,d0,d1,d2,d3⟩:=P;obtain ⟨h0,h1,h2,h3,h4,h5,h6,h7,h8,h9,h10,h11,h12,h13,h14,_⟩:=Wd.of hc;have He:Hid (playM s z=(s,p_okB)):=show _=_ by unfold playM; rw [hc]
 clear hc;go_enter Tryz.func9,Tryz.ntmps9;go_wp2_with fail;rw [HW.out];go_ret;unfold RetPlay;rw [He.out];exact ⟨rfl,play_done H1.out HX.out (Pr.rest (Below.refl _ _)) (Below.refl _ _) H0.out.c9 (by omega) (by omega)⟩
end
theorem rplay_any (W0:World) (col:Nat→Nat) (w:World) (p b bd N:Nat) (x:Sv) (s:St) (z:Stp) (K:Int) (h:PlAt Tr tPr W0 w col p b bd N K x s) (hE:Env W0) (hK:K≤500000000) (hN:N≤800000000) (ha:0≤z.a∧z.a≤999):rplayG W0 col w p bd N s z K:=by
 obtain ⟨w1,bb,P⟩:=h.pre 32 z hE hK hN ha
 cases hc:pcOf z.word
 ·exact rplay_asks P (.inl hc)
 ·exact rplay_asks P (.inr (.inl hc))
 ·exact rplay_asks P (.inr (.inr hc))
 ·exact rplay_got P hc
 ·exact rplay_tick P hc
 ·exact rplay_clean P hc
 ·exact rplay_dispatch P hc
 ·exact rplay_ends P (.inl hc)
 ·exact rplay_ends P (.inr hc)
 ·exact rplay_round P hc
 ·exact rplay_settle P hc
 ·exact rplay_queue P hc
 ·exact rplay_busy P hc
 ·exact rplay_dirty P hc
 ·exact rplay_crash P hc
 ·exact rplay_other P hc
end Go.Proofs.YtagndjihiklmiaaGreatDoor
