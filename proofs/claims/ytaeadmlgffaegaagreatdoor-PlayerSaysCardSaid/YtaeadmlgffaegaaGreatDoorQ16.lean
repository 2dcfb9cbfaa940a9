/- The small methods of a stack: answer, used, Waits, Dead, Got. -/
import Derived.Test.YtaeadmlgffaegaaGreatDoorQ15
import Derived.BigRegion
set_option linter.unusedSimpArgs false
set_option linter.unusedVariables false
set_option maxRecDepth 100000
set_option maxHeartbeats 8000000
namespace Go.Proofs.YtaeadmlgffaegaaGreatDoor
open Go.RowKit
def Ret1 (T:Tys) (col:Nat→Nat) (w:World) (b bd N:Nat) (y:Sv) (t:St) (v:Value):Ending→World→Prop:=fun e w'=>e=.returned v∧Same1 b w w'∧StAt T col w' b bd N y t
def Sv.ans (x:Sv) (c:Nat) (d:ByteArray) (e:Nat):Sv:=match c with
 |0=>{ x with a0:=.pointer none,d0:=d,e0:=e }
 |1=>{ x with a1:=.pointer none,d1:=d,e1:=e }
 |_=>{ x with a2:=.pointer none,d2:=d,e2:=e }
section
variable {T:Tys} {col:Nat→Nat} {w w':World} {b bd N:Nat} {x:Sv} {s:St}
theorem askAt_answer {c j:Nat} {d:ByteArray} {e:Nat} (h3:s.asks.length=3) (hc:c<3):(s.answer c d e).askAt j=if j=c then none else s.askAt j:=by
 unfold St.askAt St.answer
 simp only [List.getD_eq_getElem?_getD,List.getElem?_set]
 by_cases h:c=j
 ·subst h; simp [h3,hc]
 ·simp [h,Ne.symm h]
theorem StAt.ans (h:StAt T col w b bd N x s) (hb:Same1 b w w') {c:Nat} (hc:c<3) {d:ByteArray} {e:Nat} (hrow:w'.heap[b]?=some (.cells ((x.ans c d e).row s bd) T.S (0,0))):StAt T col w' b bd N (x.ans c d e) (s.answer c d e):=by
 have hask:∀ j,j<3→AskAt T.A (Fa col j) w ((x.ans c d e).av j) ((s.answer c d e).askAt j):=by
  intro j hj
  rw [askAt_answer h.asks hc]
  have:=h.ask j hj
  match c,hc with
  |0,_=>match j,hj with
   |0,_=>rfl
   |1,_=>exact this
   |2,_=>exact this
  |1,_=>match j,hj with
   |0,_=>exact this
   |1,_=>rfl
   |2,_=>exact this
  |2,_=>match j,hj with
   |0,_=>exact this
   |1,_=>exact this
   |2,_=>rfl
 refine h.turn1 hb hrow ?_ ?_ ?_ rfl ?_ ?_ ?_ hask ?_ ?_
 ·match c,hc with | 0,_=>rfl | 1,_=>rfl | 2,_=>rfl
 ·match c,hc with | 0,_=>rfl | 1,_=>rfl | 2,_=>rfl
 ·match c,hc with | 0,_=>rfl | 1,_=>rfl | 2,_=>rfl
 ·have:=h.bufs; match c,hc with | 0,_=>exact this | 1,_=>exact this | 2,_=>exact this
 ·have:=h.wait; match c,hc with | 0,_=>exact this | 1,_=>exact this | 2,_=>exact this
 ·show (s.asks.set c none).length=3
  rw [List.length_set]; exact h.asks
 ·show s.done.set c d=_
  rw [h.done]
  match c,hc with | 0,_=>rfl | 1,_=>rfl | 2,_=>rfl
 ·show s.errs.set c e=_
  rw [h.errs]
  match c,hc with | 0,_=>rfl | 1,_=>rfl | 2,_=>rfl
end
theorem answer_any (col:Nat→Nat) (w:World) (b bd N:Nat) (x:Sv) (s:St) (c:Nat) (d:ByteArray) (e:Nat) (h:StAt Ts col w b bd N x s) (hc:c<3) :
  Calls Tryz.prog 111 #[.pointer (some ⟨b,0,none⟩),.int .i64 (c:Int),.string d,.int .i64 (e:Int)] w (Ret1 Ts col w b bd N (x.ans c d e) (s.answer c d e) (.tuple #[])):=by
 have H:=Lib.hid h
 have c11:w.cell? ⟨b,11,none⟩=some x.a0:=h.cell 11
 have c12:w.cell? ⟨b,12,none⟩=some x.a1:=h.cell 12
 have c13:w.cell? ⟨b,13,none⟩=some x.a2:=h.cell 13
 have c14:w.cell? ⟨b,14,none⟩=some (.string x.d0):=h.cell 14
 have c15:w.cell? ⟨b,15,none⟩=some (.string x.d1):=h.cell 15
 have c16:w.cell? ⟨b,16,none⟩=some (.string x.d2):=h.cell 16
 have c17:w.cell? ⟨b,17,none⟩=some (.int .i64 (x.e0:Int)):=h.cell 17
 have c18:w.cell? ⟨b,18,none⟩=some (.int .i64 (x.e1:Int)):=h.cell 18
 have c19:w.cell? ⟨b,19,none⟩=some (.int .i64 (x.e2:Int)):=h.cell 19
 have hfr:=fun k=>h.frozen k
 clear h
 match c,hc with
 |0,_ =>
  go_enter Tryz.func111,Tryz.ntmps111
  go_wp2_with fail
  go_region
  go_end0
  have hrow:=heap_setCell_same _ _ 17 _ _ (.int .i64 (e:Int)) (heap_setCell_same _ _ 14 _ _ (.string d) (heap_setCell_same _ _ 11 _ _ (.pointer none) H.out.row))
  have hb:=(((Same1.refl (b:=b) (w:=w)).setCell 11 (.pointer none)).setCell 14 (.string d)).setCell 17 (.int .i64 (e:Int))
  exact ⟨rfl,hb.drew,H.out.ans hb.drew (by omega) hrow⟩
 |1,_ =>
  go_enter Tryz.func111,Tryz.ntmps111
  go_wp2_with fail
  go_region
  go_end0
  have hrow:=heap_setCell_same _ _ 18 _ _ (.int .i64 (e:Int)) (heap_setCell_same _ _ 15 _ _ (.string d) (heap_setCell_same _ _ 12 _ _ (.pointer none) H.out.row))
  have hb:=(((Same1.refl (b:=b) (w:=w)).setCell 12 (.pointer none)).setCell 15 (.string d)).setCell 18 (.int .i64 (e:Int))
  exact ⟨rfl,hb.drew,H.out.ans hb.drew (by omega) hrow⟩
 |2,_ =>
  go_enter Tryz.func111,Tryz.ntmps111
  go_wp2_with fail
  go_region
  go_end0
  have hrow:=heap_setCell_same _ _ 19 _ _ (.int .i64 (e:Int)) (heap_setCell_same _ _ 16 _ _ (.string d) (heap_setCell_same _ _ 13 _ _ (.pointer none) H.out.row))
  have hb:=(((Same1.refl (b:=b) (w:=w)).setCell 13 (.pointer none)).setCell 16 (.string d)).setCell 19 (.int .i64 (e:Int))
  exact ⟨rfl,hb.drew,H.out.ans hb.drew (by omega) hrow⟩
theorem StAt.used {T:Tys} {col:Nat→Nat} {w w':World} {b bd N:Nat} {x:Sv} {s:St} (h:StAt T col w b bd N x s) (hb:Same1 b w w') {n:Int} (hrow:w'.heap[b]?=some (.cells (x.row { s with use:=n } bd) T.S (0,0))):StAt T col w' b bd N x { s with use:=n } :=
 h.turn1 hb hrow rfl rfl rfl rfl h.bufs h.wait h.asks h.ask h.done h.errs
theorem used_any (col:Nat→Nat) (w:World) (b bd N:Nat) (x:Sv) (s:St) (h:StAt Ts col w b bd N x s) (hu:0≤s.use∧s.use≤1000000000) :
  Calls Tryz.prog 69 #[.pointer (some ⟨b,0,none⟩)] w (Ret1 Ts col w b bd N x { s with use:=s.use+1 } (.int .i64 (s.use+1))):=by
 have H:=Lib.hid h
 have c9:w.cell? ⟨b,9,none⟩=some (.int .i64 s.use):=h.cell 9
 have hfr:=h.frozen 9
 have hw:IntKind.i64.wrap (s.use+1)=s.use+1:=by rw [IntKind.wrap_i64]; omega
 clear h
 go_enter Tryz.func69,Tryz.ntmps69
 go_wp2_with fail
 go_ret
 exact ⟨rfl,Same1.refl.setCell 9 _,H.out.used (Same1.refl.setCell 9 _) (heap_setCell_same _ _ 9 _ _ _ H.out.row)⟩
theorem waits_any (col:Nat→Nat) (w:World) (b bd N:Nat) (x:Sv) (s:St) (c:Nat) (h:StAt Ts col w b bd N x s) (hc:c<3) :
  Calls Tryz.prog 49 #[.pointer (some ⟨b,0,none⟩),.int .i64 (c:Int)] w (RetSame (.bool (s.askAt c).isSome) w):=by
 have c11:w.cell? ⟨b,11,none⟩=some x.a0:=h.cell 11
 have c12:w.cell? ⟨b,12,none⟩=some x.a1:=h.cell 12
 have c13:w.cell? ⟨b,13,none⟩=some x.a2:=h.cell 13
 have ha:=h.ask c hc
 match c,hc with
 |0,_ =>
  cases ho:s.askAt 0 with
  |none =>
   rw [ho] at ha
   rw [show x.a0=.pointer none from ha] at c11
   clear h ha ho
   go_enter Tryz.func49,Tryz.ntmps49
   go_wp2_with fail
   go_ret
   exact ⟨rfl,rfl⟩
  |some a =>
   rw [ho] at ha
   obtain ⟨ba,lv,h1,_⟩:=ha
   rw [show x.a0=_ from h1] at c11
   clear h ho h1
   go_enter Tryz.func49,Tryz.ntmps49
   go_wp2_with fail
   go_ret
   exact ⟨rfl,rfl⟩
 |1,_ =>
  cases ho:s.askAt 1 with
  |none =>
   rw [ho] at ha
   rw [show x.a1=.pointer none from ha] at c12
   clear h ha ho
   go_enter Tryz.func49,Tryz.ntmps49
   go_wp2_with fail
   go_ret
   exact ⟨rfl,rfl⟩
  |some a =>
   rw [ho] at ha
   obtain ⟨ba,lv,h1,_⟩:=ha
   rw [show x.a1=_ from h1] at c12
   clear h ho h1
   go_enter Tryz.func49,Tryz.ntmps49
   go_wp2_with fail
   go_ret
   exact ⟨rfl,rfl⟩
 |2,_ =>
  cases ho:s.askAt 2 with
  |none =>
   rw [ho] at ha
   rw [show x.a2=.pointer none from ha] at c13
   clear h ha ho
   go_enter Tryz.func49,Tryz.ntmps49
   go_wp2_with fail
   go_ret
   exact ⟨rfl,rfl⟩
  |some a =>
   rw [ho] at ha
   obtain ⟨ba,lv,h1,_⟩:=ha
   rw [show x.a2=_ from h1] at c13
   clear h ho h1
   go_enter Tryz.func49,Tryz.ntmps49
   go_wp2_with fail
   go_ret
   exact ⟨rfl,rfl⟩
theorem dead_any (col:Nat→Nat) (w:World) (b bd N:Nat) (x:Sv) (s:St) (h:StAt Ts col w b bd N x s) :
  Calls Tryz.prog 52 #[.pointer (some ⟨b,0,none⟩)] w (RetSame (.bool s.dead) w):=by
 have c20:w.cell? ⟨b,20,none⟩=some (.bool s.dead):=h.cell 20
 clear h
 go_enter Tryz.func52,Tryz.ntmps52
 go_wp2_with fail
 go_ret
 exact ⟨rfl,rfl⟩
theorem stdirty_any (col:Nat→Nat) (w:World) (b bd N:Nat) (x:Sv) (s:St) (h:StAt Ts col w b bd N x s) (h8:s.bufs.length≤8) :
  Calls Tryz.prog 33 #[.pointer (some ⟨b,0,none⟩)] w (Ret (.int .i64 (dirtyB s.bufs:Nat)) w):=by
 have c2:w.cell? ⟨b,2,none⟩=some x.bufs:=h.cell 2
 have H:=Lib.hid h.bufs
 clear h
 go_enter Tryz.func33,Tryz.ntmps33
 go_wp2_with fail
 refine (dirty_any _ _ _ _ H.out (by omega)).mono ?_
 rintro e w1 ⟨rfl,hb1⟩
 go_wp2_with fail
 go_ret
 exact ⟨rfl,hb1⟩
end Go.Proofs.YtaeadmlgffaegaaGreatDoor
namespace Go.Proofs.YtaeadmlgffaegaaGreatDoor
open Go.RowKit Go.Sort
theorem enters {f:FuncId} {fn:Func} {c:Code} (hf:Tryz.prog.funcs[f]?=some fn) (hname:(fn.name == "runtime.NumGoroutine")=false) (hb:fn.body=some c) (args:Array Value) (w:World):(callFunc f args).run Tryz.prog w=.ok (.enter f args) w:=by
 have h1:fn.name ≠ "runtime.NumGoroutine" := by simpa using hname
 simp [callFunc,hf,h1,hb]
structure HeldBy (w:World) (f:FuncId) (first caps:Array Value) (held:Int→Bool):Prop where
 enter:∀ args w',(callFunc f args).run Tryz.prog w'=.ok (.enter f args) w'
 calls:∀ (w':World) (p:Int),Below w.heap.size w w'→0≤p→p≤31→Calls Tryz.prog f (first.push (.int .i64 p) ++ caps) w' (Ret (.bool (held p)) w')
theorem HeldBy.step {w w1:World} {f:FuncId} {first caps:Array Value} {held:Int→Bool} (h:HeldBy w f first caps held) (hb:Below w.heap.size w w1):HeldBy w1 f first caps held :=
 ⟨h.enter,fun w' p h1=>h.calls w' p (hb.trans (h1.mono hb.size))⟩
theorem HeldBy.at_ {w w':World} {f:FuncId} {first caps:Array Value} {held:Int→Bool} {p:Int} {v:Bool} (h:HeldBy w f first caps held) (hv:held p=v) (h0:0≤p) (h31:p≤31) (hb:Below w.heap.size w w') :
  Calls Tryz.prog f (first.push (.int .i64 p) ++ caps) w' (Ret (.bool v) w'):=by rw [← hv]; exact h.calls w' p hb h0 h31
def InB (l:List Bf):Prop:=∀ b ∈ l,0≤b.pos∧b.pos≤31
def okB (dirty:Bool) (held:Int→Bool) (b:Bf):Bool:=(b.dirty == dirty) && !held b.pos
theorem leastB_eq (l:List Bf) (dirty:Bool) (held:Int→Bool):leastB l dirty held=bestB (okB dirty held) l l.length:=rfl
theorem best_cases {l:List Bf} {k:Nat} {x:Bf} {held:Int→Bool} {ok:Bf→Bool} (d nd:Bool) (hok:okB d held=ok) (hnd:nd=!d) (hx:l[k]?=some x) :
  (x.dirty=nd∧bestB ok l (k+1)=bestB ok l k)∨(x.dirty=d∧held x.pos=true∧bestB ok l (k+1)=bestB ok l k)∨(x.dirty=d∧held x.pos=false∧bestB ok l k = -1∧bestB ok l (k+1)=k) ∨
  (∃ j y,x.dirty=d∧held x.pos=false∧bestB ok l k=((j:Nat):Int)∧j<k∧l[j]?=some y∧x.used<y.used∧bestB ok l (k+1)=k)∨(∃ j y,x.dirty=d∧held x.pos=false∧bestB ok l k=((j:Nat):Int)∧j<k∧l[j]?=some y∧¬ x.used<y.used∧bestB ok l (k+1)=(j:Int)):=by
 subst hok hnd
 have hr:=bestB_range (okB d held) l k
 have hlt:=(List.getElem?_eq_some_iff.1 hx).1
 by_cases hd:x.dirty=d
 ·cases hh:held x.pos with
  |true=>exact .inr (.inl ⟨hd,rfl,bestB_no hx (by simp [okB,hh])⟩)
  |false =>
   have ho:okB d held x=true:=by simp [okB,hh,hd]
   by_cases hn:bestB (okB d held) l k<0
   ·exact .inr (.inr (.inl ⟨hd,rfl,by omega,bestB_first hx ho hn⟩))
   ·obtain ⟨j,hj⟩:∃ j:Nat,bestB (okB d held) l k=j:=⟨(bestB (okB d held) l k).toNat,by omega⟩
    have hy:l[j]?=some l[j]:=List.getElem?_eq_getElem (by omega)
    by_cases hu:x.used<l[j].used
    ·exact .inr (.inr (.inr (.inl ⟨j,_,hd,rfl,hj,by omega,hy,hu,bestB_less hx ho hj hy hu⟩)))
    ·exact .inr (.inr (.inr (.inr ⟨j,_,hd,rfl,hj,by omega,hy,hu,bestB_more hx hj hy hu⟩)))
 ·exact .inl ⟨by cases d <;> simpa using hd,bestB_no hx (by simp [okB,hd])⟩
theorem victim_any (S:Nat→Prop) (l:List Bf) (v:Value) (f:FuncId) (first caps:Array Value) (held:Int→Bool) (w:World) (h:BufsAt S w v l) (hin:InB l) (hh:HeldBy w f first caps held) (hn:l.length≤65536) :
  Calls Tryz.prog 113 #[v,.func (.func f) first caps] w (Ret (.int .i64 (leastB l false held)) w):=by
 obtain ⟨A,cap,rfl,h1,h2⟩:=h.form
 unfold maxLen at h2
 have H:=Lib.hid h
 have HH:=Lib.hid hh
 have HI:=Lib.hid hin
 have hen:=hh.enter
 clear h hh hin
 obtain ⟨ok,hok⟩:∃ ok,okB false held=ok:=⟨_,rfl⟩
 have HO:=Lib.hid hok
 clear hok
 go_enter Tryz.func113,Tryz.ntmps113
 go_wp2_with fail
 go_loopw [5,10] (fun b i wr=>∃ k:Nat,k≤l.length∧i=.int .i64 k∧b=.int .i64 (bestB ok l k)∧Below w.heap.size w wr) (fun _ i _=>l.length - (intOf i).toNat)
 case atStart=>exact ⟨0,by omega,rfl,rfl,Below.refl _ _⟩
 case round =>
  obtain ⟨k,hk,rfl,rfl,hb⟩:=hrel
  by_cases hlt:k<l.length
  ·have hkl:(k:Int)<(l.length:Int):=by omega
   have Hm:=Lib.hid (H.out.below hb)
   obtain ⟨b,off,rfl,_,hbl,hc⟩:=Hm.out.at_ (by omega)
   have hx:l[k]?=some l[k]:=List.getElem?_eq_getElem hlt
   obtain ⟨_,k0,k1,k2,k3⟩:=hc k _ hx
   have Hp:=Lib.hid (HI.out _ (List.mem_of_getElem? hx))
   have Hc:=Lib.hid hc
   have hcs:=best_cases false true HO.out rfl hx
   clear hx hc
   generalize l[k]=x at *
   rcases hcs with ⟨hd,hr⟩ | ⟨hd,hhx,hr⟩ | ⟨hd,hhx,hm1,hr⟩ | ⟨j,y,hd,hhx,hj,hjk,hxj,hless,hr⟩ | ⟨j,y,hd,hhx,hj,hjk,hxj,hless,hr⟩
   all_goals
    have HR:=Lib.hid hr
    have Hd:=Lib.hid hd
    rw [hd] at k2
    clear hr hd
    try
     have Hhx:=Lib.hid hhx
     clear hhx
    try
     rw [hm1]
     clear hm1
    try have hl2:decide (x.used<y.used)=_:=decide_eq_false hless
    try
     rw [hj]
     have Hxj:=Lib.hid hxj
     clear hxj
    try
     have hjl:(j:Int)<(l.length:Int):=by omega
     have hj0:¬ (j:Int)<0:=by omega
     clear hj
    go_wp2_with fail
    have L:=(Lay.refl wr).alloc' wr.heap.size #[.int .i64 x.pos,.string x.data,.bool x.dirty,.int .i64 x.used] 111 rfl
    rw [Hd.out] at L
    generalize World.alloc _ _=W at L ⊢
    obtain ⟨c0,c1,c2,c3⟩:=L.c4 0 rfl
    have g0:=cell_regrown c0
    have g2:=cell_regrown c2
    have g3:=cell_regrown c3
    try
     have hq:=Hxj.out
     have hq2:=Hc.out j _ hq
     obtain ⟨_,j0,j1,j2,j3⟩:=hq2
     have g4:=cell_regrown (cell_b L.below j3)
     clear j0 j1 j2 j3 hq
    have HbW:=Lib.hid (hb.trans (L.below.mono hb.size))
    clear c0 c1 c2 c3 k0 k1 k2 k3 L hb
    refine wp_region_quiet_below mixed (by kernel_rfl) ?_
    repeat (first | go_big_quiet_step ((exact Calls.rg (HH.out.at_ Hhx.out Hp.out.1 Hp.out.2 (HbW.out.trans (Below.mono (below_regrown W _ _) HbW.out.size))))) | quiet_step ((exact Calls.rg (HH.out.at_ Hhx.out Hp.out.1 Hp.out.2 (HbW.out.trans (Below.mono (below_regrown W _ _) HbW.out.size))))))
    refine wpQuiet_nil ?_
    intro _ hw'
    obtain ⟨⟨dq,osq⟩,hw''⟩:=hw'
    subst hw''
    have hb4:=HbW.out.trans (Below.mono (below_regrown W dq osq) HbW.out.size)
    clear g0 g2 g3
    generalize grow (redrawn W dq) osq=w4 at hb4 ⊢
    go_wp2
    go_roundw
    case rel=>exact ⟨k+1,by omega,by go_num,by rw [HR.out],hb4⟩
    case measure=>simp [intOf]; omega
  ·obtain rfl:k=l.length:=by omega
   have hrange:=bestB_range ok l l.length
   clear hrange
   go_wp2
   go_ret
   refine ⟨?_,hb⟩
   rw [leastB_eq,HO.out]; rfl
theorem pick_any (S:Nat→Prop) (l:List Bf) (v:Value) (f:FuncId) (first caps:Array Value) (held:Int→Bool) (w:World) (h:BufsAt S w v l) (hin:InB l) (hh:HeldBy w f first caps held) (hn:l.length≤65536) :
  Calls Tryz.prog 57 #[v,.func (.func f) first caps] w (Ret (.int .i64 (pickB l held)) w):=by
 obtain ⟨A,cap,rfl,h1,h2⟩:=h.form
 unfold maxLen at h2
 have H:=Lib.hid h
 have HH:=Lib.hid hh
 have HI:=Lib.hid hin
 have hen:=hh.enter
 clear h hh hin
 obtain ⟨ok,hok⟩:∃ ok,okB true held=ok:=⟨_,rfl⟩
 have HO:=Lib.hid hok
 clear hok
 go_enter Tryz.func57,Tryz.ntmps57
 go_wp2_with fail
 go_loopw [5,10] (fun b i wr=>∃ k:Nat,k≤l.length∧i=.int .i64 k∧b=.int .i64 (bestB ok l k)∧Below w.heap.size w wr) (fun _ i _=>l.length - (intOf i).toNat)
 case atStart=>exact ⟨0,by omega,rfl,rfl,Below.refl _ _⟩
 case round =>
  obtain ⟨k,hk,rfl,rfl,hb⟩:=hrel
  by_cases hlt:k<l.length
  ·have hkl:(k:Int)<(l.length:Int):=by omega
   have Hm:=Lib.hid (H.out.below hb)
   obtain ⟨b,off,rfl,_,hbl,hc⟩:=Hm.out.at_ (by omega)
   have hx:l[k]?=some l[k]:=List.getElem?_eq_getElem hlt
   obtain ⟨_,k0,k1,k2,k3⟩:=hc k _ hx
   have Hp:=Lib.hid (HI.out _ (List.mem_of_getElem? hx))
   have Hc:=Lib.hid hc
   have hcs:=best_cases true false HO.out rfl hx
   clear hx hc
   generalize l[k]=x at *
   rcases hcs with ⟨hd,hr⟩ | ⟨hd,hhx,hr⟩ | ⟨hd,hhx,hm1,hr⟩ | ⟨j,y,hd,hhx,hj,hjk,hxj,hless,hr⟩ | ⟨j,y,hd,hhx,hj,hjk,hxj,hless,hr⟩
   all_goals
    have HR:=Lib.hid hr
    have Hd:=Lib.hid hd
    rw [hd] at k2
    clear hr hd
    try
     have Hhx:=Lib.hid hhx
     clear hhx
    try
     rw [hm1]
     clear hm1
    try have hl2:decide (x.used<y.used)=_:=decide_eq_false hless
    try
     rw [hj]
     have Hxj:=Lib.hid hxj
     clear hxj
    try
     have hjl:(j:Int)<(l.length:Int):=by omega
     have hj0:¬ (j:Int)<0:=by omega
     clear hj
    go_wp2_with fail
    have L:=(Lay.refl wr).alloc' wr.heap.size #[.int .i64 x.pos,.string x.data,.bool x.dirty,.int .i64 x.used] 111 rfl
    rw [Hd.out] at L
    generalize World.alloc _ _=W at L ⊢
    obtain ⟨c0,c1,c2,c3⟩:=L.c4 0 rfl
    have g0:=cell_regrown c0
    have g2:=cell_regrown c2
    have g3:=cell_regrown c3
    try
     have hq:=Hxj.out
     have hq2:=Hc.out j _ hq
     obtain ⟨_,j0,j1,j2,j3⟩:=hq2
     have g4:=cell_regrown (cell_b L.below j3)
     clear j0 j1 j2 j3 hq
    have HbW:=Lib.hid (hb.trans (L.below.mono hb.size))
    clear c0 c1 c2 c3 k0 k1 k2 k3 L hb
    refine wp_region_quiet_below mixed (by kernel_rfl) ?_
    repeat (first | go_big_quiet_step ((exact Calls.rg (HH.out.at_ Hhx.out Hp.out.1 Hp.out.2 (HbW.out.trans (Below.mono (below_regrown W _ _) HbW.out.size))))) | quiet_step ((exact Calls.rg (HH.out.at_ Hhx.out Hp.out.1 Hp.out.2 (HbW.out.trans (Below.mono (below_regrown W _ _) HbW.out.size))))))
    refine wpQuiet_nil ?_
    intro _ hw'
    obtain ⟨⟨dq,osq⟩,hw''⟩:=hw'
    subst hw''
    have hb4:=HbW.out.trans (Below.mono (below_regrown W dq osq) HbW.out.size)
    clear g0 g2 g3
    generalize grow (redrawn W dq) osq=w4 at hb4 ⊢
    go_wp2
    go_roundw
    case rel=>exact ⟨k+1,by omega,by go_num,by rw [HR.out],hb4⟩
    case measure=>simp [intOf]; omega
  ·obtain rfl:k=l.length:=by omega
   have hrange:=bestB_range ok l l.length
   have hpk:pickB l held=if bestB ok l l.length<0 then -1 else (l.getD (bestB ok l l.length).toNat default).pos:=by unfold pickB; rw [leastB_eq,HO.out]
   by_cases hneg:bestB ok l l.length<0
   ·rw [if_pos hneg] at hpk
    have Hpk:=Lib.hid hpk
    have hm1:bestB ok l l.length = -1:=by omega
    rw [hm1]
    clear hrange hneg hpk hm1
    go_wp2
    go_ret
    refine ⟨?_,hb⟩
    rw [Hpk.out]; rfl
   ·rw [if_neg hneg] at hpk
    obtain ⟨j,hj⟩:∃ j:Nat,bestB ok l l.length=j:=⟨(bestB ok l l.length).toNat,by omega⟩
    rw [hj] at hpk ⊢
    have hjk:j<l.length:=by omega
    have hxj:l[j]?=some l[j]:=List.getElem?_eq_getElem (by omega)
    rw [Int.toNat_natCast,List.getD_eq_getElem?_getD,hxj,Option.getD_some] at hpk
    have Hpk:=Lib.hid hpk
    obtain ⟨b,off,rfl,_,hbl,hc⟩:=(H.out.below hb).at_ (by omega)
    obtain ⟨_,k0,k1,k2,k3⟩:=hc j _ hxj
    generalize l[j]=y at *
    have hjl:(j:Int)<(l.length:Int):=by omega
    have hj0:¬ (j:Int)<0:=by omega
    clear hxj hpk hrange hneg hc hj
    go_wp2
    go_ret
    refine ⟨?_,hb⟩
    rw [Hpk.out]; rfl
end Go.Proofs.YtaeadmlgffaegaaGreatDoor
namespace Go.Proofs.YtaeadmlgffaegaaGreatDoor
open Go.RowKit
theorem belowN {B:Nat} {a w:World} (h:Below B a w) (n:Nat):Below B a (w.drewN n):=h.trans ⟨rfl,rfl,rfl,Nat.le_refl _,fun _ _=>rfl⟩
theorem bytes_ne {s t:ByteArray} (h:¬ s=t):¬ s.toList=t.toList:=fun e=>h (by
 rw [ByteArray.toList_eq,ByteArray.toList_eq] at e
 exact ByteArray.ext (Array.toList_inj.1 e))
theorem run_buf (a b:Bf) (w:World):(Op.equalIn 10000 111 (bfV a) (bfV b)).run Tryz.prog w=.ok (decide (a=b)) w:=by
 have u1:=Tryz.underlying3
 have u2:=Tryz.underlying9
 have u3:=Tryz.underlying4
 have hS:Tryz.prog.underlying 111=some (.struct (Tryz.prog.fieldsOf 111)):=by kernel_rfl
 have hp:Tryz.prog.stoodInHeld 111=false:=by kernel_rfl
 rw [show (10000:Nat)=9999+1 from rfl,run_equalIn_agg w 9999 111 _ _ hS hp]
 simp only [Program.fieldsOf,Tryz.underlying111]
 obtain ⟨p,d,y,u⟩:=a
 obtain ⟨p',d',y',u'⟩:=b
 go_simp
 by_cases h2:d=d'
 ·subst h2
  by_cases h1:p=p' <;> by_cases h3:y=y' <;> by_cases h4:u=u' <;> simp [h1,h3,h4]
 ·have h5:=bytes_ne h2
  by_cases h1:p=p' <;> by_cases h3:y=y' <;> by_cases h4:u=u' <;> simp [h1,h2,h3,h4,h5]
@[go_sem high] theorem buf_eq (a b:Bf) (w:World):(binOp .eql 111 (bfV a) (bfV b)).run Tryz.prog w=.ok (.bool (decide (a=b))) w:=by
 rw [run_eql_struct,run_buf]; rfl
@[go_sem high] theorem buf_ne (a b:Bf) (w:World):(binOp .neq 111 (bfV a) (bfV b)).run Tryz.prog w=.ok (.bool (!decide (a=b))) w:=by
 rw [run_neq_struct,run_buf]; rfl
instance (l:List Bf):Decidable (goodB l):=by unfold goodB Rises; infer_instance
end Go.Proofs.YtaeadmlgffaegaaGreatDoor
namespace Go.Proofs.YtaeadmlgffaegaaGreatDoor
open Go.RowKit Go.Sort
def hasR (p:Int) (x:Rq):Bool:=hasB x.lo x.many p
theorem held1_any (S:Nat→Prop) (x:Rq) (v:Value) (B:Nat) (T:TypeId) (p:Int) (w:World) (h:ReqAt S w v x) (hB:w.heap[B]?=some (.cells #[.int .i64 p] T (0,0))) (hx:SpanOk x.lo x.many 4) (hp:0≤p∧p≤31) :
  Calls Tryz.prog 99 #[v,.pointer (some ⟨B,0,none⟩)] w (Ret (.bool (hasR p x)) w):=by
 obtain ⟨Ad,cd,At,ct,rfl,_,_,_,_,_,_,_⟩:=h.opened
 obtain ⟨a1,a2,a3,a4,a5⟩:=hx
 obtain ⟨b1,b2⟩:=hp
 have hlt:B<w.heap.size:=by
  rcases Nat.lt_or_ge B w.heap.size with h | h
  ·exact h
  ·rw [Array.getElem?_eq_none h] at hB; cases hB
 have c0:∀ o,(w.alloc o).cell? ⟨B,0,none⟩=some (.int .i64 p):=fun o=>cell_of_row _ _ 0 _ _ _ ((Below.heap_alloc _ _ _ hlt).trans hB)
 clear hB h
 go_enter Tryz.func99,Tryz.ntmps99
 go_wp2_with fail
 refine (has_any x.lo x.many p _ a1 (by omega) (by omega) (by omega)).mono ?_
 rintro e w1 ⟨rfl,hb1⟩
 go_wp2
 go_ret
 exact ⟨rfl,((Below.refl _ _).alloc (Nat.le_refl _) _).trans (hb1.mono (by simp))⟩
theorem index3_any (S:Nat→Prop) (l:List Rq) (v:Value) (B:Nat) (T:TypeId) (p:Int) (w:World) (h:ReqsAt S w v l) (hB:w.heap[B]?=some (.cells #[.int .i64 p] T (0,0))) (hl:∀ x ∈ l,SpanOk x.lo x.many 4) (hr:0≤p∧p≤31) :
  Calls Tryz.prog 134 #[v,.func (.func 99) #[] #[.pointer (some ⟨B,0,none⟩)]] w (RetIdxB (fun n=>idxTells n (l.any (hasR p))) w):=by
 obtain ⟨A,cap,rfl,h1,h2⟩:=h.form
 unfold maxLen at h2
 have Hl:=Lib.hid h
 have HB:=Lib.hid hB
 have Hs:=Lib.hid hl
 have Hr:=Lib.hid hr
 have hlt:B<w.heap.size:=by
  rcases Nat.lt_or_ge B w.heap.size with h | h
  ·exact h
  ·rw [Array.getElem?_eq_none h] at hB; cases hB
 clear h hB hl hr
 go_enter Tryz.func134,Tryz.ntmps134
 go_wp2
 go_loopw [8] (fun i wr=>∃ k:Nat,k≤l.length∧i=.int .i64 k∧Below w.heap.size w wr∧Hid ((l.take k).any (hasR p)=false)) (fun i _=>l.length - (intOf i).toNat)
 case atStart=>exact ⟨0,by omega,rfl,Below.refl _ _,rfl⟩
 case round =>
  obtain ⟨k,hk,rfl,hw,hall⟩:=hrel
  by_cases hlt:k<l.length
  ·obtain ⟨b,off,rfl,_,hb,hc⟩:=(Hl.out.below hw).at_ (by omega)
   have hx:l[k]?=some l[k]:=List.getElem?_eq_getElem hlt
   obtain ⟨Ad,cd,At,ct,hok,k0,k1,k2,k3,k4,k5⟩:=hc k _ hx
   have Hok:=Lib.hid hok
   clear hc hok
   have Hx:=Lib.hid hx
   clear hx
   generalize l[k]=s at *
   have Hsx:=Lib.hid (Hs.out s (List.mem_of_getElem? Hx.out))
   go_wp2_with fail
   refine (held1_any S s _ B T p _ Hok.out ((hw.block _ (by assumption)).trans HB.out) Hsx.out Hr.out).mono ?_
   rintro e w1 ⟨rfl,hb1⟩
   have hw1:=hw.trans (hb1.mono hw.size)
   clear k0 k1 k2 k3 k4 k5 hb1
   cases hs:hasR p s with
   |false =>
    have Hm:=Lib.hid hs
    clear hs
    go_wp2_with fail
    go_roundw
    case rel=>exact ⟨k+1,by omega,by go_num,hw1,by show _=false; rw [any_take_succ _ _ _ _ Hx.out,hall.out,Hm.out]; rfl⟩
    case measure=>simp [intOf]; omega
   |true =>
    have Hm:=Lib.hid hs
    clear hs
    go_wp2_with fail
    go_ret
    refine ⟨k,rfl,?_,hw1⟩
    rw [any_yes _ _ _ _ Hx.out Hm.out]
    simp [idxTells]
  ·go_wp2
   go_ret
   refine ⟨-1,rfl,?_,hw⟩
   rw [any_end _ _ _ (by omega) hall.out]
   simp [idxTells]
theorem contains3_any (S:Nat→Prop) (l:List Rq) (v:Value) (B:Nat) (T:TypeId) (p:Int) (w:World) (h:ReqsAt S w v l) (hB:w.heap[B]?=some (.cells #[.int .i64 p] T (0,0))) (hl:∀ x ∈ l,SpanOk x.lo x.many 4) (hr:0≤p∧p≤31) :
  Calls Tryz.prog 101 #[v,.func (.func 99) #[] #[.pointer (some ⟨B,0,none⟩)]] w (Ret (.bool (l.any (hasR p))) w):=by
 go_enter Tryz.func101,Tryz.ntmps101
 go_wp2_with fail
 refine (index3_any S l _ B T p _ h hB hl hr).mono ?_
 rintro e w1 ⟨n,rfl,hn,hb1⟩
 go_wp2_with fail
 go_ret
 refine ⟨?_,hb1⟩
 cases hb:(l.any (hasR p)) with
 |true=>rw [hb] at hn; have:=hn.2 rfl; simp [this]
 |false=>rw [hb] at hn; have:¬ 0≤n:=fun h=>by cases hn.1 h
         simp; omega
section
variable {S S':Nat→Prop} {w w':World} {v:Value}
theorem Im.of {T:Tys} {col:Nat→Nat} {b bd N:Nat} {x:Sv} {s:St} (h:StAt T col w b bd N x s) (hs:w.heap.size≤w'.heap.size):∀ k,((Im w col k∨w.heap.size≤k)∧k<w'.heap.size)→Im w' col k:=fun k hk=>by
 refine ⟨hk.2,?_⟩
 rcases hk.1 with h1 | h1
 ·exact h1.2
 ·rcases Nat.eq_zero_or_pos (col k) with h2 | h2
  ·exact h2
  ·have:=h.lt k (by omega); omega
end
def RetReqs (S:Nat→Prop) (l:List Rq) (w:World):Ending→World→Prop:=fun e w'=>∃ v,e=.returned v∧ReqsAt (fun b=>S b∨w.heap.size≤b) w' v l∧Below w.heap.size w w'
theorem stbusy_any (col:Nat→Nat) (w:World) (b bd N:Nat) (x:Sv) (s:St) (h:StAt Ts col w b bd N x s) (h2:s.v.d.l.length≤2) :
  Calls Tryz.prog 32 #[.pointer (some ⟨b,0,none⟩)] w (RetReqs (Im w col) s.v.d.l w):=by
 have c0:w.cell? ⟨b,0,none⟩=some (.pointer (some ⟨bd,0,none⟩)):=h.cell 0
 have H:=Lib.hid h
 clear h
 go_enter Tryz.func32,Tryz.ntmps32
 go_wp2_with fail
 refine (devbusy_any _ _ _ bd _ H.out.drv.dev h2).mono ?_
 rintro e w1 ⟨v1,rfl,hv1,hb1⟩
 go_wp2_with fail
 go_ret
 exact ⟨v1,rfl,hv1,hb1⟩
theorem stqueue_any (col:Nat→Nat) (w:World) (b bd N:Nat) (x:Sv) (s:St) (h:StAt Ts col w b bd N x s) (h6:s.wait.length≤6) :
  Calls Tryz.prog 31 #[.pointer (some ⟨b,0,none⟩)] w (RetReqs (Im w col) s.wait w):=by
 have c3:w.cell? ⟨b,3,none⟩=some x.wait:=h.cell 3
 obtain ⟨cs,hcs,hrd,hok⟩:=h.wait
 have hlen:cs.length≤65536:=by have:s.wait.length=cs.length:=by rw [← hcs,List.length_map]
                               omega
 have hone:∀ u ∈ cs.flatMap Rc.cells,u.oneCell'=true:=fun u hu=>by
  obtain ⟨c,hc,hu⟩:=List.mem_flatMap.1 hu
  exact rc_one _ (hok c hc) u hu
 have Hrd:=Lib.hid hrd
 have Hok:=Lib.hid hok
 have Hcs:=Lib.hid hcs
 clear h hrd hok hcs
 go_enter Tryz.func31,Tryz.ntmps31
 go_wp2_with fail
 refine (clone_any _ _ cs.length _ _ Hrd.out hone hlen).mono ?_
 rintro e w1 ⟨v1,rfl,hown,hb1⟩
 have Hown:=Lib.hid hown
 clear hown
 go_wp2_with fail
 go_ret
 exact ⟨v1,rfl,⟨cs,Hcs.out,Rd.of_own w1 (fun k hk=>.inr hk) Hown.out,fun c hc=>((Hok.out c hc).below hb1).more (fun k hk=>.inl hk)⟩,hb1⟩
theorem held_any (col:Nat→Nat) (w:World) (b bd N:Nat) (x:Sv) (s:St) (p:Int) (h:StAt Ts col w b bd N x s) (hw:∀ r ∈ s.wait,SpanOk r.lo r.many 4) (hl:∀ r ∈ s.v.d.l,SpanOk r.lo r.many 4) (h2:s.v.d.l.length≤2) (hp:0≤p∧p≤31) :
  Calls Tryz.prog 58 #[.pointer (some ⟨b,0,none⟩),.int .i64 p] w (Ret (.bool (s.heldP p)) w):=by
 have H:=Lib.hid h
 have Hw:=Lib.hid hw
 have Hl:=Lib.hid hl
 have Hp:=Lib.hid hp
 have e:s.heldP p=(s.wait.any (hasR p) || s.v.d.l.any (hasR p)):=rfl
 have He:=Lib.hid e
 rw [e]
 clear h hw hl hp e
 obtain ⟨n0,hn0⟩:∃ n,w.heap.size=n:=⟨_,rfl⟩
 have hb0:=(Below.refl w.heap.size w).alloc (Nat.le_refl _) (.cells #[.int .i64 p] 3)
 have hrow:=heap_alloc_new w (.cells #[.int .i64 p] 3)
 rw [hn0] at hrow
 have H1:=Lib.hid (H.out.below hb0)
 have c3:=H1.out.cell 3
 have c0:=H1.out.cell 0
 rw [show (x.row s bd)[3]?=some x.wait from rfl] at c3
 rw [show (x.row s bd)[0]?=some (.pointer (some ⟨bd,0,none⟩)) from rfl] at c0
 have Hb0:=Lib.hid hb0
 have Hrow:=Lib.hid hrow
 clear hb0 hrow
 cases hA:s.wait.any (hasR p) with
 |true =>
  go_enter Tryz.func58,Tryz.ntmps58
  go_wp2_with fail
  refine (contains3_any _ s.wait _ n0 3 p _ H1.out.wait Hrow.out Hw.out Hp.out).mono ?_
  rw [hA]
  rintro e w1 ⟨rfl,hb1⟩
  clear c3 c0
  go_wp2_with fail
  go_ret
  exact ⟨rfl,Hb0.out.trans (hb1.mono Hb0.out.size)⟩
 |false =>
  go_enter Tryz.func58,Tryz.ntmps58
  go_wp2_with fail
  refine (contains3_any _ s.wait _ n0 3 p _ H1.out.wait Hrow.out Hw.out Hp.out).mono ?_
  rw [hA]
  rintro e w1 ⟨rfl,hb1⟩
  have H2:=Lib.hid (H1.out.below hb1)
  have Hb1:=Lib.hid hb1
  clear c3 c0 hb1
  have c0:=H2.out.cell 0
  rw [show (x.row s bd)[0]?=some (.pointer (some ⟨bd,0,none⟩)) from rfl] at c0
  go_wp2_with fail
  refine (devbusy_any _ _ _ bd _ H2.out.drv.dev h2).mono ?_
  rintro e w2 ⟨v2,rfl,hv2,hb2⟩
  have Hv2:=Lib.hid hv2
  have Hr2:=Lib.hid ((hb2.block _ (Array.getElem?_eq_some_iff.1 ((Hb1.out.block _ (Array.getElem?_eq_some_iff.1 Hrow.out).1).trans Hrow.out)).1).trans ((Hb1.out.block _ (Array.getElem?_eq_some_iff.1 Hrow.out).1).trans Hrow.out))
  have Hb2:=Lib.hid hb2
  clear hv2 hb2 c0
  go_wp2_with fail
  refine (contains3_any _ s.v.d.l _ n0 3 p _ Hv2.out Hr2.out Hl.out Hp.out).mono ?_
  rintro e w3 ⟨rfl,hb3⟩
  have hb4:=Hb0.out.trans ((Hb1.out.trans ((Hb2.out.trans (hb3.mono Hb2.out.size)).mono Hb1.out.size)).mono Hb0.out.size)
  clear hb3
  go_wp2_with fail
  go_ret
  exact ⟨rfl,hb4⟩
theorem held_by (col:Nat→Nat) (w:World) (b bd N:Nat) (x:Sv) (s:St) (h:StAt Ts col w b bd N x s) (hi:∀ r ∈ s.wait ++ s.v.d.l,ReqOk r) (h2:s.v.d.l.length≤2):HeldBy w 58 #[.pointer (some ⟨b,0,none⟩)] #[] s.heldP :=
 ⟨enters Tryz.func58 (by kernel_rfl) rfl,fun w' p hb h0 h1=>held_any col w' b bd N x s p (h.below hb) (fun r hr=>(hi r (List.mem_append.2 (.inl hr))).span) (fun r hr=>(hi r (List.mem_append.2 (.inr hr))).span) h2 ⟨h0,h1⟩⟩
def Sv.dn (x:Sv):Nat→ByteArray
 |0=>x.d0
 |1=>x.d1
 |_=>x.d2
def Sv.er (x:Sv):Nat→Nat
 |0=>x.e0
 |1=>x.e1
 |_=>x.e2
theorem StAt.got_eq {T:Tys} {col:Nat→Nat} {w:World} {b bd N:Nat} {x:Sv} {s:St} (h:StAt T col w b bd N x s) {c:Nat} (hc:c<3):s.got c=if x.er c=0 then (x.dn c,0) else (noB,x.er c):=by
 unfold St.got
 rw [h.done,h.errs]
 match c,hc with | 0,_=>rfl | 1,_=>rfl | 2,_=>rfl
theorem got_any (col:Nat→Nat) (w:World) (b bd N:Nat) (x:Sv) (s:St) (c:Nat) (h:StAt Ts col w b bd N x s) (hc:c<3) :
  Calls Tryz.prog 50 #[.pointer (some ⟨b,0,none⟩),.int .i64 (c:Int)] w (Ret (.tuple #[.string (s.got c).1,errV (s.got c).2]) w):=by
 rw [h.got_eq hc]
 match c,hc with
 |0,_ =>
  have c1:w.cell? ⟨b,14,none⟩=some (.string (x.dn 0)):=h.cell 14
  have c2:w.cell? ⟨b,17,none⟩=some (.int .i64 (x.er 0:Int)):=h.cell 17
  clear h
  generalize x.dn 0=D at *
  generalize x.er 0=E at *
  by_cases he:E=0
  ·subst he
   go_enter Tryz.func50,Tryz.ntmps50
   go_wp2_with fail
   go_ret2
   exact ⟨rfl,Below.refl _ _⟩
  ·have hne:((E:Int) != 0)=true:=by simp; omega
   rw [if_neg he,errV_pos he]
   go_enter Tryz.func50,Tryz.ntmps50
   go_wp2_with fail
   go_quiet (fail)
   go_wp2_with fail
   go_ret2
   exact ⟨rfl,belowN (Below.refl _ _) _⟩
 |1,_ =>
  have c1:w.cell? ⟨b,15,none⟩=some (.string (x.dn 1)):=h.cell 15
  have c2:w.cell? ⟨b,18,none⟩=some (.int .i64 (x.er 1:Int)):=h.cell 18
  clear h
  generalize x.dn 1=D at *
  generalize x.er 1=E at *
  by_cases he:E=0
  ·subst he
   go_enter Tryz.func50,Tryz.ntmps50
   go_wp2_with fail
   go_ret2
   exact ⟨rfl,Below.refl _ _⟩
  ·have hne:((E:Int) != 0)=true:=by simp; omega
   rw [if_neg he,errV_pos he]
   go_enter Tryz.func50,Tryz.ntmps50
   go_wp2_with fail
   go_quiet (fail)
   go_wp2_with fail
   go_ret2
   exact ⟨rfl,belowN (Below.refl _ _) _⟩
 |2,_ =>
  have c1:w.cell? ⟨b,16,none⟩=some (.string (x.dn 2)):=h.cell 16
  have c2:w.cell? ⟨b,19,none⟩=some (.int .i64 (x.er 2:Int)):=h.cell 19
  clear h
  generalize x.dn 2=D at *
  generalize x.er 2=E at *
  by_cases he:E=0
  ·subst he
   go_enter Tryz.func50,Tryz.ntmps50
   go_wp2_with fail
   go_ret2
   exact ⟨rfl,Below.refl _ _⟩
  ·have hne:((E:Int) != 0)=true:=by simp; omega
   rw [if_neg he,errV_pos he]
   go_enter Tryz.func50,Tryz.ntmps50
   go_wp2_with fail
   go_quiet (fail)
   go_wp2_with fail
   go_ret2
   exact ⟨rfl,belowN (Below.refl _ _) _⟩
end Go.Proofs.YtaeadmlgffaegaaGreatDoor
