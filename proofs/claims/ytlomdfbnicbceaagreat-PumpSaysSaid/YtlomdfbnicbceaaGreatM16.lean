/- The small methods of a stack: answer, used, Waits, Dead, Got. victim, Pick: who was used least lately, of those that are (not) dirty, and that nobody holds; a function value tells who is held. gen_victim.py prints this text. GoodBufs, SameBufs. -/
import Derived.Test.YtlomdfbnicbceaaGreatM15
import Derived.BigRegion
import Derived.Outline
import Derived.Test.YtlomdfbnicbceaaGreatM1
import Derived.Test.YtlomdfbnicbceaaGreatM8
import Derived.BigQuiet
set_option linter.unusedSimpArgs false
set_option linter.unusedVariables false
set_option maxRecDepth 100000
set_option maxHeartbeats 8000000
namespace Go.Proofs.YtlomdfbnicbceaaGreat
open Go.RowKit
def Ret1 (T:Tys) (col:Nat→Nat) (w:World) (b bd N:Nat) (y:Sv) (t:St) (v:Value):Ending→World→Prop:=fun e w'=>e=.returned v∧Same1 b w w'∧StAt T col w' b bd N y t
def Sv.ans (x:Sv) (c:Nat) (d:ByteArray) (e:Nat):Sv:=match c with
 |0=>{ x with a0:=.pointer none,d0:=d,e0:=e }
 |1=>{ x with a1:=.pointer none,d1:=d,e1:=e }
 |_=>{ x with a2:=.pointer none,d2:=d,e2:=e }
section
variable {T:Tys} {col:Nat→Nat} {w w':World} {b bd N:Nat} {x:Sv} {s:St}
theorem askAt_answer {c j:Nat} {d:ByteArray} {e:Nat} (h3:s.asks.length=3) (hc:c<3):(s.answer c d e).askAt j=if j=c then none else s.askAt j:=by
 unfold St.askAt St.answer
 simp only [List.getD_eq_getElem?_getD,List.getElem?_set]
 by_cases h:c=j
 ·subst h; simp [h3,hc]
 ·simp [h,Ne.symm h]
theorem StAt.ans (h:StAt T col w b bd N x s) (hb:Same1 b w w') {c:Nat} (hc:c<3) {d:ByteArray} {e:Nat} (hrow:w'.heap[b]?=some (.cells ((x.ans c d e).row s bd) T.S (0,0))):StAt T col w' b bd N (x.ans c d e) (s.answer c d e):=by
 have hask:∀ j,j<3→AskAt T.A (Fa col j) w ((x.ans c d e).av j) ((s.answer c d e).askAt j):=by
  intro j hj
  rw [askAt_answer h.asks hc]
  have:=h.ask j hj
  match c,hc with
  |0,_=>match j,hj with
   |0,_=>rfl
   |1,_=>exact this
   |2,_=>exact this
  |1,_=>match j,hj with
   |0,_=>exact this
   |1,_=>rfl
   |2,_=>exact this
  |2,_=>match j,hj with
   |0,_=>exact this
   |1,_=>exact this
   |2,_=>rfl
 refine h.turn1 hb hrow ?_ ?_ ?_ rfl ?_ ?_ ?_ hask ?_ ?_
 ·match c,hc with | 0,_=>rfl | 1,_=>rfl | 2,_=>rfl
 ·match c,hc with | 0,_=>rfl | 1,_=>rfl | 2,_=>rfl
 ·match c,hc with | 0,_=>rfl | 1,_=>rfl | 2,_=>rfl
 ·have:=h.bufs; match c,hc with | 0,_=>exact this | 1,_=>exact this | 2,_=>exact this
 ·have:=h.wait; match c,hc with | 0,_=>exact this | 1,_=>exact this | 2,_=>exact this
 ·show (s.asks.set c none).length=3
  rw [List.length_set]; exact h.asks
 ·show s.done.set c d=_
  rw [h.done]
  match c,hc with | 0,_=>rfl | 1,_=>rfl | 2,_=>rfl
 ·show s.errs.set c e=_
  rw [h.errs]
  match c,hc with | 0,_=>rfl | 1,_=>rfl | 2,_=>rfl
end
theorem answer_any (col:Nat→Nat) (w:World) (b bd N:Nat) (x:Sv) (s:St) (c:Nat) (d:ByteArray) (e:Nat) (h:StAt Ts col w b bd N x s) (hc:c<3) :
  Calls Tryz.prog 96 #[.pointer (some ⟨b,0,none⟩),.int .i64 (c:Int),.string d,.int .i64 (e:Int)] w (Ret1 Ts col w b bd N (x.ans c d e) (s.answer c d e) (.tuple #[])):=by
 have H:=Lib.hid h
 have c11:w.cell? ⟨b,11,none⟩=some x.a0:=h.cell 11
 have c12:w.cell? ⟨b,12,none⟩=some x.a1:=h.cell 12
 have c13:w.cell? ⟨b,13,none⟩=some x.a2:=h.cell 13
 have c14:w.cell? ⟨b,14,none⟩=some (.string x.d0):=h.cell 14
 have c15:w.cell? ⟨b,15,none⟩=some (.string x.d1):=h.cell 15
 have c16:w.cell? ⟨b,16,none⟩=some (.string x.d2):=h.cell 16
 have c17:w.cell? ⟨b,17,none⟩=some (.int .i64 (x.e0:Int)):=h.cell 17
 have c18:w.cell? ⟨b,18,none⟩=some (.int .i64 (x.e1:Int)):=h.cell 18
 have c19:w.cell? ⟨b,19,none⟩=some (.int .i64 (x.e2:Int)):=h.cell 19
 have hfr:=fun k=>h.frozen k
 clear h
 match c,hc with
 |0,_ =>
  go_enter Tryz.func96,Tryz.ntmps96
  go_wp2_with fail
  go_region
  go_end0
  have hrow:=heap_setCell_same _ _ 17 _ _ (.int .i64 (e:Int)) (heap_setCell_same _ _ 14 _ _ (.string d) (heap_setCell_same _ _ 11 _ _ (.pointer none) H.out.row))
  have hb:=(((Same1.refl (b:=b) (w:=w)).setCell 11 (.pointer none)).setCell 14 (.string d)).setCell 17 (.int .i64 (e:Int))
  exact ⟨rfl,hb.drew,H.out.ans hb.drew (by omega) hrow⟩
 |1,_ =>
  go_enter Tryz.func96,Tryz.ntmps96
  go_wp2_with fail
  go_region
  go_end0
  have hrow:=heap_setCell_same _ _ 18 _ _ (.int .i64 (e:Int)) (heap_setCell_same _ _ 15 _ _ (.string d) (heap_setCell_same _ _ 12 _ _ (.pointer none) H.out.row))
  have hb:=(((Same1.refl (b:=b) (w:=w)).setCell 12 (.pointer none)).setCell 15 (.string d)).setCell 18 (.int .i64 (e:Int))
  exact ⟨rfl,hb.drew,H.out.ans hb.drew (by omega) hrow⟩
 |2,_ =>
  go_enter Tryz.func96,Tryz.ntmps96
  go_wp2_with fail
  go_region
  go_end0
  have hrow:=heap_setCell_same _ _ 19 _ _ (.int .i64 (e:Int)) (heap_setCell_same _ _ 16 _ _ (.string d) (heap_setCell_same _ _ 13 _ _ (.pointer none) H.out.row))
  have hb:=(((Same1.refl (b:=b) (w:=w)).setCell 13 (.pointer none)).setCell 16 (.string d)).setCell 19 (.int .i64 (e:Int))
  exact ⟨rfl,hb.drew,H.out.ans hb.drew (by omega) hrow⟩
theorem StAt.used {T:Tys} {col:Nat→Nat} {w w':World} {b bd N:Nat} {x:Sv} {s:St} (h:StAt T col w b bd N x s) (hb:Same1 b w w') {n:Int} (hrow:w'.heap[b]?=some (.cells (x.row { s with use:=n } bd) T.S (0,0))):StAt T col w' b bd N x { s with use:=n } :=
 h.turn1 hb hrow rfl rfl rfl rfl h.bufs h.wait h.asks h.ask h.done h.errs
theorem used_any (col:Nat→Nat) (w:World) (b bd N:Nat) (x:Sv) (s:St) (h:StAt Ts col w b bd N x s) (hu:0≤s.use∧s.use≤1000000000) :
  Calls Tryz.prog 63 #[.pointer (some ⟨b,0,none⟩)] w (Ret1 Ts col w b bd N x { s with use:=s.use+1 } (.int .i64 (s.use+1))):=by
 have H:=Lib.hid h
 have c9:w.cell? ⟨b,9,none⟩=some (.int .i64 s.use):=h.cell 9
 have hfr:=h.frozen 9
 have hw:IntKind.i64.wrap (s.use+1)=s.use+1:=by rw [IntKind.wrap_i64]; omega
 clear h
 go_enter Tryz.func63,Tryz.ntmps63
 go_wp2_with fail
 go_ret
 exact ⟨rfl,Same1.refl.setCell 9 _,H.out.used (Same1.refl.setCell 9 _) (heap_setCell_same _ _ 9 _ _ _ H.out.row)⟩
theorem waits_any (col:Nat→Nat) (w:World) (b bd N:Nat) (x:Sv) (s:St) (c:Nat) (h:StAt Ts col w b bd N x s) (hc:c<3) :
  Calls Tryz.prog 33 #[.pointer (some ⟨b,0,none⟩),.int .i64 (c:Int)] w (RetSame (.bool (s.askAt c).isSome) w):=by
 have c11:w.cell? ⟨b,11,none⟩=some x.a0:=h.cell 11
 have c12:w.cell? ⟨b,12,none⟩=some x.a1:=h.cell 12
 have c13:w.cell? ⟨b,13,none⟩=some x.a2:=h.cell 13
 have ha:=h.ask c hc
 match c,hc with
 |0,_ =>
  cases ho:s.askAt 0 with
  |none =>
   rw [ho] at ha
   rw [show x.a0=.pointer none from ha] at c11
   clear h ha ho
   go_enter Tryz.func33,Tryz.ntmps33
   go_wp2_with fail
   go_ret
   exact ⟨rfl,rfl⟩
  |some a =>
   rw [ho] at ha
   obtain ⟨ba,lv,h1,_⟩:=ha
   rw [show x.a0=_ from h1] at c11
   clear h ho h1
   go_enter Tryz.func33,Tryz.ntmps33
   go_wp2_with fail
   go_ret
   exact ⟨rfl,rfl⟩
 |1,_ =>
  cases ho:s.askAt 1 with
  |none =>
   rw [ho] at ha
   rw [show x.a1=.pointer none from ha] at c12
   clear h ha ho
   go_enter Tryz.func33,Tryz.ntmps33
   go_wp2_with fail
   go_ret
   exact ⟨rfl,rfl⟩
  |some a =>
   rw [ho] at ha
   obtain ⟨ba,lv,h1,_⟩:=ha
   rw [show x.a1=_ from h1] at c12
   clear h ho h1
   go_enter Tryz.func33,Tryz.ntmps33
   go_wp2_with fail
   go_ret
   exact ⟨rfl,rfl⟩
 |2,_ =>
  cases ho:s.askAt 2 with
  |none =>
   rw [ho] at ha
   rw [show x.a2=.pointer none from ha] at c13
   clear h ha ho
   go_enter Tryz.func33,Tryz.ntmps33
   go_wp2_with fail
   go_ret
   exact ⟨rfl,rfl⟩
  |some a =>
   rw [ho] at ha
   obtain ⟨ba,lv,h1,_⟩:=ha
   rw [show x.a2=_ from h1] at c13
   clear h ho h1
   go_enter Tryz.func33,Tryz.ntmps33
   go_wp2_with fail
   go_ret
   exact ⟨rfl,rfl⟩
theorem dead_any (col:Nat→Nat) (w:World) (b bd N:Nat) (x:Sv) (s:St) (h:StAt Ts col w b bd N x s) :
  Calls Tryz.prog 36 #[.pointer (some ⟨b,0,none⟩)] w (RetSame (.bool s.dead) w):=by
 have c20:w.cell? ⟨b,20,none⟩=some (.bool s.dead):=h.cell 20
 clear h
 go_enter Tryz.func36,Tryz.ntmps36
 go_wp2_with fail
 go_ret
 exact ⟨rfl,rfl⟩
theorem stdirty_any (col:Nat→Nat) (w:World) (b bd N:Nat) (x:Sv) (s:St) (h:StAt Ts col w b bd N x s) (h8:s.bufs.length≤8) :
  Calls Tryz.prog 18 #[.pointer (some ⟨b,0,none⟩)] w (Ret (.int .i64 (dirtyB s.bufs:Nat)) w):=by
 have c2:w.cell? ⟨b,2,none⟩=some x.bufs:=h.cell 2
 have H:=Lib.hid h.bufs
 clear h
 go_enter Tryz.func18,Tryz.ntmps18
 go_wp2_with fail
 refine (dirty_any _ _ _ _ H.out (by omega)).mono ?_
 rintro e w1 ⟨rfl,hb1⟩
 go_wp2_with fail
 go_ret
 exact ⟨rfl,hb1⟩
end Go.Proofs.YtlomdfbnicbceaaGreat
namespace Go.Proofs.YtlomdfbnicbceaaGreat
open Go.RowKit Go.Sort
theorem enters {f:FuncId} {fn:Func} {c:Code} (hf:Tryz.prog.funcs[f]?=some fn) (hname:(fn.name == "runtime.NumGoroutine")=false) (hb:fn.body=some c) (args:Array Value) (w:World):(callFunc f args).run Tryz.prog w=.ok (.enter f args) w:=by
 have h1:fn.name ≠ "runtime.NumGoroutine" := by simpa using hname
 simp [callFunc,hf,h1,hb]
structure HeldBy (w:World) (f:FuncId) (first caps:Array Value) (held:Int→Bool):Prop where
 enter:∀ args w',(callFunc f args).run Tryz.prog w'=.ok (.enter f args) w'
 calls:∀ (w':World) (p:Int),Below w.heap.size w w'→0≤p→p≤31→Calls Tryz.prog f (first.push (.int .i64 p) ++ caps) w' (Ret (.bool (held p)) w')
theorem HeldBy.step {w w1:World} {f:FuncId} {first caps:Array Value} {held:Int→Bool} (h:HeldBy w f first caps held) (hb:Below w.heap.size w w1):HeldBy w1 f first caps held :=
 ⟨h.enter,fun w' p h1=>h.calls w' p (hb.trans (h1.mono hb.size))⟩
theorem HeldBy.at_ {w w':World} {f:FuncId} {first caps:Array Value} {held:Int→Bool} {p:Int} {v:Bool} (h:HeldBy w f first caps held) (hv:held p=v) (h0:0≤p) (h31:p≤31) (hb:Below w.heap.size w w') :
  Calls Tryz.prog f (first.push (.int .i64 p) ++ caps) w' (Ret (.bool v) w'):=by rw [← hv]; exact h.calls w' p hb h0 h31
def InB (l:List Bf):Prop:=∀ b ∈ l,0≤b.pos∧b.pos≤31
def okB (dirty:Bool) (held:Int→Bool) (b:Bf):Bool:=(b.dirty == dirty) && !held b.pos
theorem leastB_eq (l:List Bf) (dirty:Bool) (held:Int→Bool):leastB l dirty held=bestB (okB dirty held) l l.length:=rfl
theorem victim_any (S:Nat→Prop) (l:List Bf) (v:Value) (f:FuncId) (first caps:Array Value) (held:Int→Bool) (w:World) (h:BufsAt S w v l) (hin:InB l) (hh:HeldBy w f first caps held) (hn:l.length≤65536) :
  Calls Tryz.prog 98 #[v,.func (.func f) first caps] w (Ret (.int .i64 (leastB l false held)) w):=by
 obtain ⟨A,cap,rfl,h1,h2⟩:=h.form
 unfold maxLen at h2
 have H:=Lib.hid h
 have HH:=Lib.hid hh
 have HI:=Lib.hid hin
 have hen:=hh.enter
 clear h hh hin
 obtain ⟨ok,hok⟩:∃ ok,okB false held=ok:=⟨_,rfl⟩
 have HO:=Lib.hid hok
 have Hone:Hid (∀ x,ok x=okB false held x):=fun x=>by rw [hok]
 clear hok
 go_enter Tryz.func98,Tryz.ntmps98
 go_wp2_with fail
 go_loopw [5,10] (fun b i wr=>∃ k:Nat,k≤l.length∧i=.int .i64 k∧b=.int .i64 (bestB ok l k)∧Below w.heap.size w wr) (fun _ i _=>l.length - (intOf i).toNat)
 case atStart=>exact ⟨0,by omega,rfl,rfl,Below.refl _ _⟩
 case round =>
  obtain ⟨k,hk,rfl,rfl,hb⟩:=hrel
  have hrange:=bestB_range ok l k
  by_cases hlt:k<l.length
  ·have hkl:(k:Int)<(l.length:Int):=by omega
   have Hm:=Lib.hid (H.out.below hb)
   obtain ⟨b,off,rfl,_,hbl,hc⟩:=Hm.out.at_ (by omega)
   have hx:l[k]?=some l[k]:=List.getElem?_eq_getElem hlt
   obtain ⟨_,k0,k1,k2,k3⟩:=hc k _ hx
   have Hp:=Lib.hid (HI.out _ (List.mem_of_getElem? hx))
   have Hx:=Lib.hid hx
   have Hc:=Lib.hid hc
   clear hx hc
   generalize l[k]=x at *
   have Hok:=Lib.hid (Hone.out x)
   cases hd:x.dirty with
   |true =>
    rw [hd] at k2
    have Hd:=Lib.hid hd
    go_wp2_with fail
    have L:=(Lay.refl wr).alloc' wr.heap.size #[.int .i64 x.pos,.string x.data,.bool true,.int .i64 x.used] 92 rfl
    generalize World.alloc _ _=W at L ⊢
    have hbW:=hb.trans (L.below.mono hb.size)
    obtain ⟨c0,c1,c2,c3⟩:=L.c4 0 rfl
    have g0:∀ d os,(grow (redrawn W d) os).cell? ⟨wr.heap.size,0,none⟩=some (.int .i64 x.pos):=fun _ _=>cell_regrown c0 _ _
    have g2:∀ d os,(grow (redrawn W d) os).cell? ⟨wr.heap.size,2,none⟩=some (.bool true):=fun _ _=>cell_regrown c2 _ _
    have g3:∀ d os,(grow (redrawn W d) os).cell? ⟨wr.heap.size,3,none⟩=some (.int .i64 x.used):=fun _ _=>cell_regrown c3 _ _
    have HbW:=Lib.hid hbW
    have HL:=Lib.hid L
    clear c0 c1 c2 c3 k0 k1 k2 k3 hbW L hb
    clear hrange hd
    refine wp_region_quiet_below mixed (by kernel_rfl) ?_
    repeat (first | go_big_quiet_step ((fail)) | quiet_step ((fail)))
    refine wpQuiet_nil ?_
    intro _ hw'
    obtain ⟨⟨dq,osq⟩,hw''⟩:=hw'
    subst hw''
    have hb4:=HbW.out.trans (Below.mono (below_regrown W dq osq) HbW.out.size)
    clear g0 g2 g3
    generalize grow (redrawn W dq) osq=w4 at hb4 ⊢
    go_wp2
    go_roundw
    case rel=>exact ⟨k+1,by omega,by go_num,by rw [bestB_no Hx.out (by rw [Hok.out]; unfold okB; rw [Hd.out]; rfl)],hb4⟩
    case measure=>simp [intOf]; omega
   |false =>
    rw [hd] at k2
    have Hd:=Lib.hid hd
    cases hhx:held x.pos with
    |true =>
     have Hhx:=Lib.hid hhx
     go_wp2_with fail
     have L:=(Lay.refl wr).alloc' wr.heap.size #[.int .i64 x.pos,.string x.data,.bool false,.int .i64 x.used] 92 rfl
     generalize World.alloc _ _=W at L ⊢
     have hbW:=hb.trans (L.below.mono hb.size)
     obtain ⟨c0,c1,c2,c3⟩:=L.c4 0 rfl
     have g0:∀ d os,(grow (redrawn W d) os).cell? ⟨wr.heap.size,0,none⟩=some (.int .i64 x.pos):=fun _ _=>cell_regrown c0 _ _
     have g2:∀ d os,(grow (redrawn W d) os).cell? ⟨wr.heap.size,2,none⟩=some (.bool false):=fun _ _=>cell_regrown c2 _ _
     have g3:∀ d os,(grow (redrawn W d) os).cell? ⟨wr.heap.size,3,none⟩=some (.int .i64 x.used):=fun _ _=>cell_regrown c3 _ _
     have HbW:=Lib.hid hbW
     have HL:=Lib.hid L
     clear c0 c1 c2 c3 k0 k1 k2 k3 hbW L hb
     clear hrange hd
     refine wp_region_quiet_below mixed (by kernel_rfl) ?_
     repeat (first | go_big_quiet_step ((exact Calls.rg (HH.out.at_ Hhx.out Hp.out.1 Hp.out.2 (HbW.out.trans (Below.mono (below_regrown W _ _) HbW.out.size))))) | quiet_step ((exact Calls.rg (HH.out.at_ Hhx.out Hp.out.1 Hp.out.2 (HbW.out.trans (Below.mono (below_regrown W _ _) HbW.out.size))))))
     refine wpQuiet_nil ?_
     intro _ hw'
     obtain ⟨⟨dq,osq⟩,hw''⟩:=hw'
     subst hw''
     have hb4:=HbW.out.trans (Below.mono (below_regrown W dq osq) HbW.out.size)
     clear g0 g2 g3
     generalize grow (redrawn W dq) osq=w4 at hb4 ⊢
     go_wp2
     go_roundw
     case rel=>exact ⟨k+1,by omega,by go_num,by rw [bestB_no Hx.out (by rw [Hok.out]; unfold okB; rw [Hd.out,Hhx.out]; rfl)],hb4⟩
     case measure=>simp [intOf]; omega
    |false =>
     have Hhx:=Lib.hid hhx
     by_cases hneg:bestB ok l k<0
     ·have hm1:bestB ok l k = -1:=by omega
      have Hm1:=Lib.hid hm1
      rw [hm1]
      clear hm1 hneg
      go_wp2_with fail
      have L:=(Lay.refl wr).alloc' wr.heap.size #[.int .i64 x.pos,.string x.data,.bool false,.int .i64 x.used] 92 rfl
      generalize World.alloc _ _=W at L ⊢
      have hbW:=hb.trans (L.below.mono hb.size)
      obtain ⟨c0,c1,c2,c3⟩:=L.c4 0 rfl
      have g0:∀ d os,(grow (redrawn W d) os).cell? ⟨wr.heap.size,0,none⟩=some (.int .i64 x.pos):=fun _ _=>cell_regrown c0 _ _
      have g2:∀ d os,(grow (redrawn W d) os).cell? ⟨wr.heap.size,2,none⟩=some (.bool false):=fun _ _=>cell_regrown c2 _ _
      have g3:∀ d os,(grow (redrawn W d) os).cell? ⟨wr.heap.size,3,none⟩=some (.int .i64 x.used):=fun _ _=>cell_regrown c3 _ _
      have HbW:=Lib.hid hbW
      have HL:=Lib.hid L
      clear c0 c1 c2 c3 k0 k1 k2 k3 hbW L hb
      clear hrange hd
      refine wp_region_quiet_below mixed (by kernel_rfl) ?_
      repeat (first | go_big_quiet_step ((exact Calls.rg (HH.out.at_ Hhx.out Hp.out.1 Hp.out.2 (HbW.out.trans (Below.mono (below_regrown W _ _) HbW.out.size))))) | quiet_step ((exact Calls.rg (HH.out.at_ Hhx.out Hp.out.1 Hp.out.2 (HbW.out.trans (Below.mono (below_regrown W _ _) HbW.out.size))))))
      refine wpQuiet_nil ?_
      intro _ hw'
      obtain ⟨⟨dq,osq⟩,hw''⟩:=hw'
      subst hw''
      have hb4:=HbW.out.trans (Below.mono (below_regrown W dq osq) HbW.out.size)
      clear g0 g2 g3
      generalize grow (redrawn W dq) osq=w4 at hb4 ⊢
      go_wp2
      go_roundw
      case rel=>exact ⟨k+1,by omega,by go_num,by rw [bestB_first Hx.out (by rw [Hok.out]; unfold okB; rw [Hd.out,Hhx.out]; rfl) (by rw [Hm1.out]; omega)],hb4⟩
      case measure=>simp [intOf]; omega
     ·obtain ⟨j,hj⟩:∃ j:Nat,bestB ok l k=j:=⟨(bestB ok l k).toNat,by omega⟩
      have Hj:=Lib.hid hj
      rw [hj]
      have hjk:j<k:=by omega
      have hjl:(j:Int)<(l.length:Int):=by omega
      have hj0:¬ (j:Int)<0:=by omega
      clear hj hneg
      have hxj:l[j]?=some l[j]:=List.getElem?_eq_getElem (by omega)
      have Hxj:=Lib.hid hxj
      clear hxj
      generalize l[j]=y at *
      by_cases hless:x.used<y.used
      ·have Hless:=Lib.hid hless
       go_wp2_with fail
       have L:=(Lay.refl wr).alloc' wr.heap.size #[.int .i64 x.pos,.string x.data,.bool false,.int .i64 x.used] 92 rfl
       generalize World.alloc _ _=W at L ⊢
       have hbW:=hb.trans (L.below.mono hb.size)
       obtain ⟨c0,c1,c2,c3⟩:=L.c4 0 rfl
       have g0:∀ d os,(grow (redrawn W d) os).cell? ⟨wr.heap.size,0,none⟩=some (.int .i64 x.pos):=fun _ _=>cell_regrown c0 _ _
       have g2:∀ d os,(grow (redrawn W d) os).cell? ⟨wr.heap.size,2,none⟩=some (.bool false):=fun _ _=>cell_regrown c2 _ _
       have g3:∀ d os,(grow (redrawn W d) os).cell? ⟨wr.heap.size,3,none⟩=some (.int .i64 x.used):=fun _ _=>cell_regrown c3 _ _
       obtain ⟨_,j0,j1,j2,j3⟩:=Hc.out j _ Hxj.out
       have g4:∀ d os,(grow (redrawn W d) os).cell? ⟨b,off+j * 4+3,none⟩=some (.int .i64 y.used):=fun _ _=>cell_regrown (cell_b L.below j3) _ _
       clear j0 j1 j2 j3
       have HbW:=Lib.hid hbW
       have HL:=Lib.hid L
       clear c0 c1 c2 c3 k0 k1 k2 k3 hbW L hb
       clear hrange hd
       refine wp_region_quiet_below mixed (by kernel_rfl) ?_
       repeat (first | go_big_quiet_step ((exact Calls.rg (HH.out.at_ Hhx.out Hp.out.1 Hp.out.2 (HbW.out.trans (Below.mono (below_regrown W _ _) HbW.out.size))))) | quiet_step ((exact Calls.rg (HH.out.at_ Hhx.out Hp.out.1 Hp.out.2 (HbW.out.trans (Below.mono (below_regrown W _ _) HbW.out.size))))))
       refine wpQuiet_nil ?_
       intro _ hw'
       obtain ⟨⟨dq,osq⟩,hw''⟩:=hw'
       subst hw''
       have hb4:=HbW.out.trans (Below.mono (below_regrown W dq osq) HbW.out.size)
       clear g0 g2 g3
       generalize grow (redrawn W dq) osq=w4 at hb4 ⊢
       go_wp2
       go_roundw
       case rel=>exact ⟨k+1,by omega,by go_num,by rw [bestB_less Hx.out (by rw [Hok.out]; unfold okB; rw [Hd.out,Hhx.out]; rfl) Hj.out Hxj.out Hless.out],hb4⟩
       case measure=>simp [intOf]; omega
      ·have Hless:=Lib.hid hless
       have hless2:decide (x.used<y.used)=false:=decide_eq_false hless
       go_wp2_with fail
       have L:=(Lay.refl wr).alloc' wr.heap.size #[.int .i64 x.pos,.string x.data,.bool false,.int .i64 x.used] 92 rfl
       generalize World.alloc _ _=W at L ⊢
       have hbW:=hb.trans (L.below.mono hb.size)
       obtain ⟨c0,c1,c2,c3⟩:=L.c4 0 rfl
       have g0:∀ d os,(grow (redrawn W d) os).cell? ⟨wr.heap.size,0,none⟩=some (.int .i64 x.pos):=fun _ _=>cell_regrown c0 _ _
       have g2:∀ d os,(grow (redrawn W d) os).cell? ⟨wr.heap.size,2,none⟩=some (.bool false):=fun _ _=>cell_regrown c2 _ _
       have g3:∀ d os,(grow (redrawn W d) os).cell? ⟨wr.heap.size,3,none⟩=some (.int .i64 x.used):=fun _ _=>cell_regrown c3 _ _
       obtain ⟨_,j0,j1,j2,j3⟩:=Hc.out j _ Hxj.out
       have g4:∀ d os,(grow (redrawn W d) os).cell? ⟨b,off+j * 4+3,none⟩=some (.int .i64 y.used):=fun _ _=>cell_regrown (cell_b L.below j3) _ _
       clear j0 j1 j2 j3
       have HbW:=Lib.hid hbW
       have HL:=Lib.hid L
       clear c0 c1 c2 c3 k0 k1 k2 k3 hbW L hb
       clear hrange hd
       refine wp_region_quiet_below mixed (by kernel_rfl) ?_
       repeat (first | go_big_quiet_step ((exact Calls.rg (HH.out.at_ Hhx.out Hp.out.1 Hp.out.2 (HbW.out.trans (Below.mono (below_regrown W _ _) HbW.out.size))))) | quiet_step ((exact Calls.rg (HH.out.at_ Hhx.out Hp.out.1 Hp.out.2 (HbW.out.trans (Below.mono (below_regrown W _ _) HbW.out.size))))))
       refine wpQuiet_nil ?_
       intro _ hw'
       obtain ⟨⟨dq,osq⟩,hw''⟩:=hw'
       subst hw''
       have hb4:=HbW.out.trans (Below.mono (below_regrown W dq osq) HbW.out.size)
       clear g0 g2 g3
       generalize grow (redrawn W dq) osq=w4 at hb4 ⊢
       go_wp2
       go_roundw
       case rel=>exact ⟨k+1,by omega,by go_num,by rw [bestB_more Hx.out Hj.out Hxj.out (by have:=Hless.out; omega)],hb4⟩
       case measure=>simp [intOf]; omega
  ·obtain rfl:k=l.length:=by omega
   clear hrange
   go_wp2
   go_ret
   refine ⟨?_,hb⟩
   rw [leastB_eq,HO.out]; rfl
theorem pick_any (S:Nat→Prop) (l:List Bf) (v:Value) (f:FuncId) (first caps:Array Value) (held:Int→Bool) (w:World) (h:BufsAt S w v l) (hin:InB l) (hh:HeldBy w f first caps held) (hn:l.length≤65536) :
  Calls Tryz.prog 44 #[v,.func (.func f) first caps] w (Ret (.int .i64 (pickB l held)) w):=by
 obtain ⟨A,cap,rfl,h1,h2⟩:=h.form
 unfold maxLen at h2
 have H:=Lib.hid h
 have HH:=Lib.hid hh
 have HI:=Lib.hid hin
 have hen:=hh.enter
 clear h hh hin
 obtain ⟨ok,hok⟩:∃ ok,okB true held=ok:=⟨_,rfl⟩
 have HO:=Lib.hid hok
 have Hone:Hid (∀ x,ok x=okB true held x):=fun x=>by rw [hok]
 clear hok
 go_enter Tryz.func44,Tryz.ntmps44
 go_wp2_with fail
 go_loopw [5,10] (fun b i wr=>∃ k:Nat,k≤l.length∧i=.int .i64 k∧b=.int .i64 (bestB ok l k)∧Below w.heap.size w wr) (fun _ i _=>l.length - (intOf i).toNat)
 case atStart=>exact ⟨0,by omega,rfl,rfl,Below.refl _ _⟩
 case round =>
  obtain ⟨k,hk,rfl,rfl,hb⟩:=hrel
  have hrange:=bestB_range ok l k
  by_cases hlt:k<l.length
  ·have hkl:(k:Int)<(l.length:Int):=by omega
   have Hm:=Lib.hid (H.out.below hb)
   obtain ⟨b,off,rfl,_,hbl,hc⟩:=Hm.out.at_ (by omega)
   have hx:l[k]?=some l[k]:=List.getElem?_eq_getElem hlt
   obtain ⟨_,k0,k1,k2,k3⟩:=hc k _ hx
   have Hp:=Lib.hid (HI.out _ (List.mem_of_getElem? hx))
   have Hx:=Lib.hid hx
   have Hc:=Lib.hid hc
   clear hx hc
   generalize l[k]=x at *
   have Hok:=Lib.hid (Hone.out x)
   cases hd:x.dirty with
   |false =>
    rw [hd] at k2
    have Hd:=Lib.hid hd
    go_wp2_with fail
    have L:=(Lay.refl wr).alloc' wr.heap.size #[.int .i64 x.pos,.string x.data,.bool false,.int .i64 x.used] 92 rfl
    generalize World.alloc _ _=W at L ⊢
    have hbW:=hb.trans (L.below.mono hb.size)
    obtain ⟨c0,c1,c2,c3⟩:=L.c4 0 rfl
    have g0:∀ d os,(grow (redrawn W d) os).cell? ⟨wr.heap.size,0,none⟩=some (.int .i64 x.pos):=fun _ _=>cell_regrown c0 _ _
    have g2:∀ d os,(grow (redrawn W d) os).cell? ⟨wr.heap.size,2,none⟩=some (.bool false):=fun _ _=>cell_regrown c2 _ _
    have g3:∀ d os,(grow (redrawn W d) os).cell? ⟨wr.heap.size,3,none⟩=some (.int .i64 x.used):=fun _ _=>cell_regrown c3 _ _
    have HbW:=Lib.hid hbW
    have HL:=Lib.hid L
    clear c0 c1 c2 c3 k0 k1 k2 k3 hbW L hb
    clear hrange hd
    refine wp_region_quiet_below mixed (by kernel_rfl) ?_
    repeat (first | go_big_quiet_step ((fail)) | quiet_step ((fail)))
    refine wpQuiet_nil ?_
    intro _ hw'
    obtain ⟨⟨dq,osq⟩,hw''⟩:=hw'
    subst hw''
    have hb4:=HbW.out.trans (Below.mono (below_regrown W dq osq) HbW.out.size)
    clear g0 g2 g3
    generalize grow (redrawn W dq) osq=w4 at hb4 ⊢
    go_wp2
    go_roundw
    case rel=>exact ⟨k+1,by omega,by go_num,by rw [bestB_no Hx.out (by rw [Hok.out]; unfold okB; rw [Hd.out]; rfl)],hb4⟩
    case measure=>simp [intOf]; omega
   |true =>
    rw [hd] at k2
    have Hd:=Lib.hid hd
    cases hhx:held x.pos with
    |true =>
     have Hhx:=Lib.hid hhx
     go_wp2_with fail
     have L:=(Lay.refl wr).alloc' wr.heap.size #[.int .i64 x.pos,.string x.data,.bool true,.int .i64 x.used] 92 rfl
     generalize World.alloc _ _=W at L ⊢
     have hbW:=hb.trans (L.below.mono hb.size)
     obtain ⟨c0,c1,c2,c3⟩:=L.c4 0 rfl
     have g0:∀ d os,(grow (redrawn W d) os).cell? ⟨wr.heap.size,0,none⟩=some (.int .i64 x.pos):=fun _ _=>cell_regrown c0 _ _
     have g2:∀ d os,(grow (redrawn W d) os).cell? ⟨wr.heap.size,2,none⟩=some (.bool true):=fun _ _=>cell_regrown c2 _ _
     have g3:∀ d os,(grow (redrawn W d) os).cell? ⟨wr.heap.size,3,none⟩=some (.int .i64 x.used):=fun _ _=>cell_regrown c3 _ _
     have HbW:=Lib.hid hbW
     have HL:=Lib.hid L
     clear c0 c1 c2 c3 k0 k1 k2 k3 hbW L hb
     clear hrange hd
     refine wp_region_quiet_below mixed (by kernel_rfl) ?_
     repeat (first | go_big_quiet_step ((exact Calls.rg (HH.out.at_ Hhx.out Hp.out.1 Hp.out.2 (HbW.out.trans (Below.mono (below_regrown W _ _) HbW.out.size))))) | quiet_step ((exact Calls.rg (HH.out.at_ Hhx.out Hp.out.1 Hp.out.2 (HbW.out.trans (Below.mono (below_regrown W _ _) HbW.out.size))))))
     refine wpQuiet_nil ?_
     intro _ hw'
     obtain ⟨⟨dq,osq⟩,hw''⟩:=hw'
     subst hw''
     have hb4:=HbW.out.trans (Below.mono (below_regrown W dq osq) HbW.out.size)
     clear g0 g2 g3
     generalize grow (redrawn W dq) osq=w4 at hb4 ⊢
     go_wp2
     go_roundw
     case rel=>exact ⟨k+1,by omega,by go_num,by rw [bestB_no Hx.out (by rw [Hok.out]; unfold okB; rw [Hd.out,Hhx.out]; rfl)],hb4⟩
     case measure=>simp [intOf]; omega
    |false =>
     have Hhx:=Lib.hid hhx
     by_cases hneg:bestB ok l k<0
     ·have hm1:bestB ok l k = -1:=by omega
      have Hm1:=Lib.hid hm1
      rw [hm1]
      clear hm1 hneg
      go_wp2_with fail
      have L:=(Lay.refl wr).alloc' wr.heap.size #[.int .i64 x.pos,.string x.data,.bool true,.int .i64 x.used] 92 rfl
      generalize World.alloc _ _=W at L ⊢
      have hbW:=hb.trans (L.below.mono hb.size)
      obtain ⟨c0,c1,c2,c3⟩:=L.c4 0 rfl
      have g0:∀ d os,(grow (redrawn W d) os).cell? ⟨wr.heap.size,0,none⟩=some (.int .i64 x.pos):=fun _ _=>cell_regrown c0 _ _
      have g2:∀ d os,(grow (redrawn W d) os).cell? ⟨wr.heap.size,2,none⟩=some (.bool true):=fun _ _=>cell_regrown c2 _ _
      have g3:∀ d os,(grow (redrawn W d) os).cell? ⟨wr.heap.size,3,none⟩=some (.int .i64 x.used):=fun _ _=>cell_regrown c3 _ _
      have HbW:=Lib.hid hbW
      have HL:=Lib.hid L
      clear c0 c1 c2 c3 k0 k1 k2 k3 hbW L hb
      clear hrange hd
      refine wp_region_quiet_below mixed (by kernel_rfl) ?_
      repeat (first | go_big_quiet_step ((exact Calls.rg (HH.out.at_ Hhx.out Hp.out.1 Hp.out.2 (HbW.out.trans (Below.mono (below_regrown W _ _) HbW.out.size))))) | quiet_step ((exact Calls.rg (HH.out.at_ Hhx.out Hp.out.1 Hp.out.2 (HbW.out.trans (Below.mono (below_regrown W _ _) HbW.out.size))))))
      refine wpQuiet_nil ?_
      intro _ hw'
      obtain ⟨⟨dq,osq⟩,hw''⟩:=hw'
      subst hw''
      have hb4:=HbW.out.trans (Below.mono (below_regrown W dq osq) HbW.out.size)
      clear g0 g2 g3
      generalize grow (redrawn W dq) osq=w4 at hb4 ⊢
      go_wp2
      go_roundw
      case rel=>exact ⟨k+1,by omega,by go_num,by rw [bestB_first Hx.out (by rw [Hok.out]; unfold okB; rw [Hd.out,Hhx.out]; rfl) (by rw [Hm1.out]; omega)],hb4⟩
      case measure=>simp [intOf]; omega
     ·obtain ⟨j,hj⟩:∃ j:Nat,bestB ok l k=j:=⟨(bestB ok l k).toNat,by omega⟩
      have Hj:=Lib.hid hj
      rw [hj]
      have hjk:j<k:=by omega
      have hjl:(j:Int)<(l.length:Int):=by omega
      have hj0:¬ (j:Int)<0:=by omega
      clear hj hneg
      have hxj:l[j]?=some l[j]:=List.getElem?_eq_getElem (by omega)
      have Hxj:=Lib.hid hxj
      clear hxj
      generalize l[j]=y at *
      by_cases hless:x.used<y.used
      ·have Hless:=Lib.hid hless
       go_wp2_with fail
       have L:=(Lay.refl wr).alloc' wr.heap.size #[.int .i64 x.pos,.string x.data,.bool true,.int .i64 x.used] 92 rfl
       generalize World.alloc _ _=W at L ⊢
       have hbW:=hb.trans (L.below.mono hb.size)
       obtain ⟨c0,c1,c2,c3⟩:=L.c4 0 rfl
       have g0:∀ d os,(grow (redrawn W d) os).cell? ⟨wr.heap.size,0,none⟩=some (.int .i64 x.pos):=fun _ _=>cell_regrown c0 _ _
       have g2:∀ d os,(grow (redrawn W d) os).cell? ⟨wr.heap.size,2,none⟩=some (.bool true):=fun _ _=>cell_regrown c2 _ _
       have g3:∀ d os,(grow (redrawn W d) os).cell? ⟨wr.heap.size,3,none⟩=some (.int .i64 x.used):=fun _ _=>cell_regrown c3 _ _
       obtain ⟨_,j0,j1,j2,j3⟩:=Hc.out j _ Hxj.out
       have g4:∀ d os,(grow (redrawn W d) os).cell? ⟨b,off+j * 4+3,none⟩=some (.int .i64 y.used):=fun _ _=>cell_regrown (cell_b L.below j3) _ _
       clear j0 j1 j2 j3
       have HbW:=Lib.hid hbW
       have HL:=Lib.hid L
       clear c0 c1 c2 c3 k0 k1 k2 k3 hbW L hb
       clear hrange hd
       refine wp_region_quiet_below mixed (by kernel_rfl) ?_
       repeat (first | go_big_quiet_step ((exact Calls.rg (HH.out.at_ Hhx.out Hp.out.1 Hp.out.2 (HbW.out.trans (Below.mono (below_regrown W _ _) HbW.out.size))))) | quiet_step ((exact Calls.rg (HH.out.at_ Hhx.out Hp.out.1 Hp.out.2 (HbW.out.trans (Below.mono (below_regrown W _ _) HbW.out.size))))))
       refine wpQuiet_nil ?_
       intro _ hw'
       obtain ⟨⟨dq,osq⟩,hw''⟩:=hw'
       subst hw''
       have hb4:=HbW.out.trans (Below.mono (below_regrown W dq osq) HbW.out.size)
       clear g0 g2 g3
       generalize grow (redrawn W dq) osq=w4 at hb4 ⊢
       go_wp2
       go_roundw
       case rel=>exact ⟨k+1,by omega,by go_num,by rw [bestB_less Hx.out (by rw [Hok.out]; unfold okB; rw [Hd.out,Hhx.out]; rfl) Hj.out Hxj.out Hless.out],hb4⟩
       case measure=>simp [intOf]; omega
      ·have Hless:=Lib.hid hless
       have hless2:decide (x.used<y.used)=false:=decide_eq_false hless
       go_wp2_with fail
       have L:=(Lay.refl wr).alloc' wr.heap.size #[.int .i64 x.pos,.string x.data,.bool true,.int .i64 x.used] 92 rfl
       generalize World.alloc _ _=W at L ⊢
       have hbW:=hb.trans (L.below.mono hb.size)
       obtain ⟨c0,c1,c2,c3⟩:=L.c4 0 rfl
       have g0:∀ d os,(grow (redrawn W d) os).cell? ⟨wr.heap.size,0,none⟩=some (.int .i64 x.pos):=fun _ _=>cell_regrown c0 _ _
       have g2:∀ d os,(grow (redrawn W d) os).cell? ⟨wr.heap.size,2,none⟩=some (.bool true):=fun _ _=>cell_regrown c2 _ _
       have g3:∀ d os,(grow (redrawn W d) os).cell? ⟨wr.heap.size,3,none⟩=some (.int .i64 x.used):=fun _ _=>cell_regrown c3 _ _
       obtain ⟨_,j0,j1,j2,j3⟩:=Hc.out j _ Hxj.out
       have g4:∀ d os,(grow (redrawn W d) os).cell? ⟨b,off+j * 4+3,none⟩=some (.int .i64 y.used):=fun _ _=>cell_regrown (cell_b L.below j3) _ _
       clear j0 j1 j2 j3
       have HbW:=Lib.hid hbW
       have HL:=Lib.hid L
       clear c0 c1 c2 c3 k0 k1 k2 k3 hbW L hb
       clear hrange hd
       refine wp_region_quiet_below mixed (by kernel_rfl) ?_
       repeat (first | go_big_quiet_step ((exact Calls.rg (HH.out.at_ Hhx.out Hp.out.1 Hp.out.2 (HbW.out.trans (Below.mono (below_regrown W _ _) HbW.out.size))))) | quiet_step ((exact Calls.rg (HH.out.at_ Hhx.out Hp.out.1 Hp.out.2 (HbW.out.trans (Below.mono (below_regrown W _ _) HbW.out.size))))))
       refine wpQuiet_nil ?_
       intro _ hw'
       obtain ⟨⟨dq,osq⟩,hw''⟩:=hw'
       subst hw''
       have hb4:=HbW.out.trans (Below.mono (below_regrown W dq osq) HbW.out.size)
       clear g0 g2 g3
       generalize grow (redrawn W dq) osq=w4 at hb4 ⊢
       go_wp2
       go_roundw
       case rel=>exact ⟨k+1,by omega,by go_num,by rw [bestB_more Hx.out Hj.out Hxj.out (by have:=Hless.out; omega)],hb4⟩
       case measure=>simp [intOf]; omega
  ·obtain rfl:k=l.length:=by omega
   have hpk:pickB l held=if bestB ok l l.length<0 then -1 else (l.getD (bestB ok l l.length).toNat default).pos:=by unfold pickB; rw [leastB_eq,HO.out]
   by_cases hneg:bestB ok l l.length<0
   ·rw [if_pos hneg] at hpk
    have Hpk:=Lib.hid hpk
    have hm1:bestB ok l l.length = -1:=by omega
    rw [hm1]
    clear hrange hneg hpk hm1
    go_wp2
    go_ret
    refine ⟨?_,hb⟩
    rw [Hpk.out]; rfl
   ·rw [if_neg hneg] at hpk
    obtain ⟨j,hj⟩:∃ j:Nat,bestB ok l l.length=j:=⟨(bestB ok l l.length).toNat,by omega⟩
    rw [hj] at hpk ⊢
    have hjk:j<l.length:=by omega
    have hxj:l[j]?=some l[j]:=List.getElem?_eq_getElem (by omega)
    rw [Int.toNat_natCast,List.getD_eq_getElem?_getD,hxj,Option.getD_some] at hpk
    have Hpk:=Lib.hid hpk
    obtain ⟨b,off,rfl,_,hbl,hc⟩:=(H.out.below hb).at_ (by omega)
    obtain ⟨_,k0,k1,k2,k3⟩:=hc j _ hxj
    generalize l[j]=y at *
    have hjl:(j:Int)<(l.length:Int):=by omega
    have hj0:¬ (j:Int)<0:=by omega
    clear hxj hpk hrange hneg hc hj
    go_wp2
    go_ret
    refine ⟨?_,hb⟩
    rw [Hpk.out]; rfl
end Go.Proofs.YtlomdfbnicbceaaGreat
namespace Go.Proofs.YtlomdfbnicbceaaGreat
open Go.RowKit
theorem belowN {B:Nat} {a w:World} (h:Below B a w) (n:Nat):Below B a (w.drewN n):=h.trans ⟨rfl,rfl,rfl,Nat.le_refl _,fun _ _=>rfl⟩
theorem bytes_ne {s t:ByteArray} (h:¬ s=t):¬ s.toList=t.toList:=fun e=>h (by
 rw [ByteArray.toList_eq,ByteArray.toList_eq] at e
 exact ByteArray.ext (Array.toList_inj.1 e))
theorem run_buf (a b:Bf) (w:World):(Op.equalIn 10000 92 (bfV a) (bfV b)).run Tryz.prog w=.ok (decide (a=b)) w:=by
 have u1:=Tryz.underlying3
 have u2:=Tryz.underlying9
 have u3:=Tryz.underlying4
 have hS:Tryz.prog.underlying 92=some (.struct (Tryz.prog.fieldsOf 92)):=by kernel_rfl
 have hp:Tryz.prog.stoodInHeld 92=false:=by kernel_rfl
 rw [show (10000:Nat)=9999+1 from rfl,run_equalIn_agg w 9999 92 _ _ hS hp]
 simp only [Program.fieldsOf,Tryz.underlying92]
 obtain ⟨p,d,y,u⟩:=a
 obtain ⟨p',d',y',u'⟩:=b
 go_simp
 by_cases h2:d=d'
 ·subst h2
  by_cases h1:p=p' <;> by_cases h3:y=y' <;> by_cases h4:u=u' <;> simp [h1,h3,h4]
 ·have h5:=bytes_ne h2
  by_cases h1:p=p' <;> by_cases h3:y=y' <;> by_cases h4:u=u' <;> simp [h1,h2,h3,h4,h5]
@[go_sem high] theorem buf_eq (a b:Bf) (w:World):(binOp .eql 92 (bfV a) (bfV b)).run Tryz.prog w=.ok (.bool (decide (a=b))) w:=by
 rw [run_eql_struct,run_buf]; rfl
@[go_sem high] theorem buf_ne (a b:Bf) (w:World):(binOp .neq 92 (bfV a) (bfV b)).run Tryz.prog w=.ok (.bool (!decide (a=b))) w:=by
 rw [run_neq_struct,run_buf]; rfl
instance (l:List Bf):Decidable (goodB l):=by unfold goodB Rises; infer_instance
end Go.Proofs.YtlomdfbnicbceaaGreat
