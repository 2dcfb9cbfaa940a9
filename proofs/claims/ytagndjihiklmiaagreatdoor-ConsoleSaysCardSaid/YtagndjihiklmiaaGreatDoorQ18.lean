/- The stack's invariant: it holds of a new one, and every step keeps it. -/
import Derived.Test.YtagndjihiklmiaaGreatDoorQ17
set_option linter.unusedSimpArgs false
set_option linter.unusedVariables false
set_option maxRecDepth 100000
set_option maxHeartbeats 8000000
namespace Go.Proofs.YtagndjihiklmiaaGreatDoor
structure AkOk (a:Ak):Prop where
 kind:a.kind=1∨a.kind=2∨a.kind=3
 lo:0≤a.pos
 hi:a.pos≤31
 size:a.data.size≤4
 len:a.left.length≤8
 left:∀ p ∈ a.left,0≤p∧p≤31
structure Inv (s:St):Prop where
 dv:DvOk s.v.d
 tries:∀ j,0≤s.v.tries j∧s.v.tries j≤2
 rises:Rises s.bufs
 inb:∀ b ∈ s.bufs,0≤b.pos∧b.pos≤31
 len8:s.bufs.length≤8
 size:∀ b ∈ s.bufs,b.data.size≤16
 used:∀ b ∈ s.bufs,0≤b.used∧b.used≤s.use
 dirty:dirtyB s.bufs≤6
 good:goodReqs (s.wait ++ s.v.d.l)=true
 wait6:s.wait.length≤6
 turn:0≤s.turn.starved∧s.turn.starved≤2∧0≤s.turn.gone∧s.turn.gone≤3∧0≤s.turn.wh∧s.turn.wh≤32
 now:0≤s.now∧s.now≤1000000000
 use0:0≤s.use
 tag0:0≤s.tag
 asks:s.asks.length=3
 ask:∀ c a,s.askAt c=some a→AkOk a
 done:s.done.length=3∧∀ d ∈ s.done,d.size≤16
 errs:s.errs.length=3∧∀ e ∈ s.errs,e≤9
 hand:∀ p e,InW (s.wait ++ s.v.d.l) p e→∃ d,atB s.bufs p=some (d,true)
theorem noB16:noB.size≤16:=by decide
theorem apart_iff {a b:Rq} (ha:ReqOk a) (hb:ReqOk b):Apart a b↔∀ k,¬ (hasB a.lo a.many k=true∧hasB b.lo b.many k=true):=by
 unfold Apart;constructor
 ·intro h k hk
  exact meet_no hb ha h k ⟨hk.2,hk.1⟩
 ·intro h
  rw [meetB_iff];rintro ⟨h1,h2⟩;obtain ⟨_,_,a3,_,_⟩:=ha.span;obtain ⟨_,_,b3,_,_⟩:=hb.span;by_cases hc:a.lo≤b.lo
  ·exact h b.lo ⟨by rw [hasB_iff]; omega,by rw [hasB_iff]; omega⟩
  ·exact h a.lo ⟨by rw [hasB_iff]; omega,by rw [hasB_iff]; omega⟩
theorem good_app {a b:List Rq}:goodReqs (a ++ b)=true↔goodReqs a=true∧goodReqs b=true∧∀ x ∈ a,∀ y ∈ b,Apart x y:=by
 simp only [good_iff,List.pairwise_append,List.mem_append];constructor
 ·rintro ⟨h1,h2,h3,h4⟩
  exact ⟨⟨fun r hr=>h1 r (.inl hr),h2⟩,⟨fun r hr=>h1 r (.inr hr),h3⟩,h4⟩
 ·rintro ⟨⟨h1,h2⟩,⟨h3,h4⟩,h5⟩
  exact ⟨fun r hr=>hr.elim (h1 r) (h3 r),h2,h4,h5⟩
theorem good_oks {l:List Rq} (h:goodReqs l=true):∀ r ∈ l,ReqOk r:=fun r hr=>reqF_zero (((good_iff l).1 h).1 r hr)
theorem heldP_eq (s:St) (p:Int):s.heldP p=heldL' (s.wait ++ s.v.d.l) p:=by unfold St.heldP heldL'; rw [List.any_append]
theorem askAt_set {l:List (Option Ak)} {c j:Nat} {o:Option Ak} {a:Ak} (h:(l.set c o).getD j none=some a):(j=c∧o=some a)∨(j≠c∧l.getD j none=some a):=by
 simp only [List.getD_eq_getElem?_getD,List.getElem?_set] at *;by_cases hc:c=j
 ·subst hc
  left;rw [if_pos rfl] at h
  split at h
  ·exact ⟨rfl,by simpa using h⟩
  ·simp at h
 ·right
  rw [if_neg hc] at h;exact ⟨Ne.symm hc,h⟩
namespace Inv
variable {s:St}
theorem oks (h:Inv s):∀ r ∈ s.wait ++ s.v.d.l,ReqOk r:=good_oks h.good
theorem new {d:Dv} (hd:DvOk d) (hl:d.l=[]):Inv (St.new d):=by
 refine ⟨hd,fun _=>by simp [St.new],?_,?_,?_,?_,?_,?_,?_,?_,by simp [St.new],by simp [St.new],by simp [St.new],by simp [St.new],rfl,?_,⟨rfl,?_⟩,⟨rfl,?_⟩,?_⟩
 ·simp [St.new,Rises]
 ·simp [St.new]
 ·simp [St.new]
 ·simp [St.new]
 ·simp [St.new]
 ·simp [St.new,dirtyB]
 ·simp [St.new,hl,goodReqs]
 ·simp [St.new]
 ·intro c a h
  unfold St.askAt St.new at h
  match c,h with
  |0,h=>cases h
  |1,h=>cases h
  |2,h=>cases h
  |n+3,h=>cases h
 ·intro d hd; simp [St.new] at hd; subst hd; exact noB16
 ·intro e he; simp [St.new] at he; omega
 ·rintro p e ⟨r,hr,_⟩
  simp [St.new,hl] at hr
theorem answer (h:Inv s) (c:Nat) {d:ByteArray} {e:Nat} (hd:d.size≤16) (he:e≤9):Inv (s.answer c d e) :=
 { h with
  asks:=by show (s.asks.set c none).length=3; rw [List.length_set]; exact h.asks
  ask:=fun j a ha=>by
   rcases askAt_set (show (s.asks.set c none).getD j none=some a from ha) with ⟨_,h1⟩ | ⟨_,h1⟩
   ·cases h1
   ·exact h.ask j a h1
  done:=⟨by show (s.done.set c d).length=3; rw [List.length_set]; exact h.done.1,fun x hx=>by
   rcases List.mem_or_eq_of_mem_set hx with hx | rfl
   ·exact h.done.2 x hx
   ·exact hd⟩
  errs:=⟨by show (s.errs.set c e).length=3; rw [List.length_set]; exact h.errs.1,fun x hx=>by
   rcases List.mem_or_eq_of_mem_set hx with hx | rfl
   ·exact h.errs.2 x hx
   ·exact he⟩ }
structure Queued (s t:St) (w:Bool) (p:Int) (d:ByteArray):Prop where
 v:t.v=s.v
 bufs:t.bufs=s.bufs
 asks:t.asks=s.asks
 dead:t.dead=s.dead
 use:t.use=s.use
 inr:∀ q,InR (t.wait ++ t.v.d.l) q↔InR (s.wait ++ s.v.d.l) q∨(w=false∧q=p)
 inw:∀ q e,InW (t.wait ++ t.v.d.l) q e↔InW (s.wait ++ s.v.d.l) q e∨(w=true∧q=p∧e=d)
 held:∀ q,t.heldP q=(s.heldP q || decide (q=p))
 len:t.wait.length≤s.wait.length+1∧1≤t.wait.length
theorem one_r (s:St) (w:Bool) (p:Int) (d:ByteArray) (q:Int):InR [s.reqOf w p d] q↔w=false∧q=p:=by
 unfold InR;simp only [List.mem_singleton,exists_eq_left,St.reqOf,hasB_iff];constructor
 ·rintro ⟨h1,h2,h3⟩; exact ⟨h1,by omega⟩
 ·rintro ⟨h1,rfl⟩; exact ⟨h1,by omega,by omega⟩
theorem one_w (s:St) (w:Bool) (p:Int) (d:ByteArray) (q:Int) (e:ByteArray):InW [s.reqOf w p d] q e↔w=true∧q=p∧e=d:=by
 unfold InW;simp only [List.mem_singleton,exists_eq_left,St.reqOf,hasB_iff];constructor
 ·rintro ⟨h1,⟨h2,h3⟩,h4⟩
  obtain rfl:q=p:=by omega
  subst h1;simp at h4;exact ⟨rfl,rfl,h4.symm⟩
 ·rintro ⟨rfl,rfl,rfl⟩
  exact ⟨rfl,⟨by omega,by omega⟩,by simp⟩
theorem queued (h:Inv s) {w:Bool} {p:Int} {d:ByteArray} (hq:(s.queue w p d).2=true):Queued s (s.queue w p d).1 w p d∧(s.queue w p d).1.now=s.now∧(s.queue w p d).1.tag=s.tag+1:=by
 unfold St.queue at hq ⊢
 split at hq
 ·rename_i h0
  rw [if_pos h0];have hf:=add_fl (q:=(addM s.wait (s.reqOf w p d)).1) (fun x hx=>h.oks x (List.mem_append.2 (.inl hx))) (Prod.ext rfl h0);refine ⟨⟨rfl,rfl,rfl,rfl,rfl,fun q=>?_,fun q e=>?_,fun q=>?_,hf.len.1,hf.len.2.2⟩,rfl,rfl⟩
  ·show InR ((addM s.wait (s.reqOf w p d)).1 ++ s.v.d.l) q↔_
   rw [InR.app,InR.app,hf.rd,one_r];constructor <;> rintro h <;> (rcases h with (h | h) | h) <;> simp [h]
  ·show InW ((addM s.wait (s.reqOf w p d)).1 ++ s.v.d.l) q e↔_
   rw [InW.app,InW.app,hf.wr,one_w];constructor <;> rintro h <;> (rcases h with (h | h) | h) <;> simp [h]
  ·rw [heldP_eq,heldP_eq]
   show heldL' ((addM s.wait (s.reqOf w p d)).1 ++ s.v.d.l) q=_;have e1:=hf.held q;unfold heldL' at e1 ⊢;rw [List.any_append,List.any_append,e1]
   have e2:hasB (s.reqOf w p d).lo (s.reqOf w p d).many q=decide (q=p):=by
    rw [Bool.eq_iff_iff,hasB_iff,decide_eq_true_eq]; simp only [St.reqOf]; omega
   rw [e2]
   cases decide (q=p) <;> simp
 ·cases hq
theorem queue_no {w:Bool} {p:Int} {d:ByteArray} (hq:(s.queue w p d).2=false):(s.queue w p d).1=s:=by
 unfold St.queue at hq ⊢
 split at hq
 ·cases hq
 ·rename_i h0; rw [if_neg h0]
theorem queue (h:Inv s) {w:Bool} {p:Int} {d:ByteArray} (hh:s.heldP p=false) (hw:w=true→∃ e,atB s.bufs p=some (e,true)):Inv (s.queue w p d).1:=by
 cases hq:(s.queue w p d).2 with
 |false=>rw [queue_no hq]; exact h
 |true =>
  obtain ⟨Q,hnow,htag⟩:=h.queued hq
  have h0:(addM s.wait (s.reqOf w p d)).2=0:=by
   unfold St.queue at hq
   split at hq
   ·assumption
   ·cases hq
  have e:(s.queue w p d).1={ s with wait:=(addM s.wait (s.reqOf w p d)).1,tag:=s.tag+1 }:=by unfold St.queue; rw [if_pos h0]
  obtain ⟨g1,g2,g3⟩:=good_app.1 h.good;have ha:=add_facts (q:=(addM s.wait (s.reqOf w p d)).1) g1 (Prod.ext rfl h0);have hf:=add_fl (q:=(addM s.wait (s.reqOf w p d)).1) (good_oks g1) (Prod.ext rfl h0);have hhand:=Q.inw;rw [e] at hhand ⊢
  exact { h with
   good:=good_app.2 ⟨ha.good,g2,fun y hy z hz=>by
    have hyo:=hf.ok y hy;have hzo:=good_oks g2 z hz;rw [apart_iff hyo hzo];rintro k ⟨h1,h2⟩;have h3:=hf.held k;have h4:heldL' (addM s.wait (s.reqOf w p d)).1 k=true:=held_iff.2 ⟨y,hy,h1⟩;rw [h4] at h3
    cases h5:heldL' s.wait k with
    |true =>
     obtain ⟨x,hx,h6⟩:=held_iff.1 h5;exact (apart_iff (good_oks g1 x hx) hzo).1 (g3 x hx z hz) k ⟨h6,h2⟩
    |false =>
     rw [h5] at h3;have h6:hasB (s.reqOf w p d).lo (s.reqOf w p d).many k=true:=by simpa using h3.symm
     rw [hasB_iff] at h6;simp only [St.reqOf] at h6;obtain rfl:k=p:=by omega
     rw [heldP_eq] at hh;have:heldL' (s.wait ++ s.v.d.l) k=true:=held_iff.2 ⟨z,List.mem_append.2 (.inr hz),h2⟩
     rw [this] at hh; cases hh⟩
   wait6:=by have:=hf.len.2.1; have:=h.wait6; show (addM s.wait (s.reqOf w p d)).1.length≤6; omega
   tag0:=by show 0≤s.tag+1; have:=h.tag0; omega
   hand:=fun q e' hi=>by
    rcases (hhand q e').1 hi with h1 | ⟨h1,rfl,_⟩
    ·exact h.hand q e' h1
    ·exact hw h1 }
theorem useB (h:Inv s) (p:Int) (n:Int) (hn:s.use≤n):Inv { s with use:=n,bufs:=useB s.bufs p n } :=
 { h with
  rises:=useB_rises h.rises p n
  inb:=fun b hb=>by
   obtain ⟨x,hx,rfl⟩:=List.mem_map.1 hb;have:=h.inb x hx
   split <;> exact this
  len8:=by show (Go.Proofs.YtagndjihiklmiaaGreatDoor.useB s.bufs p n).length≤8; simpa [Go.Proofs.YtagndjihiklmiaaGreatDoor.useB] using h.len8
  size:=fun b hb=>by
   obtain ⟨x,hx,rfl⟩:=List.mem_map.1 hb;have:=h.size x hx
   split <;> exact this
  used:=fun b hb=>by
   obtain ⟨x,hx,rfl⟩:=List.mem_map.1 hb;have h1:=h.used x hx;have h2:=h.use0;show 0≤(if x.pos=p then { x with used:=n } else x).used∧(if x.pos=p then { x with used:=n } else x).used≤n
   split
   ·simp only; omega
   ·omega
  dirty:=by show dirtyB (Go.Proofs.YtagndjihiklmiaaGreatDoor.useB s.bufs p n)≤6; rw [dirty_cnt,cnt_use]; exact h.dirty
  use0:=by show 0≤n; have:=h.use0; omega
  hand:=fun q e hi=>by
   show ∃ d,atB (Go.Proofs.YtagndjihiklmiaaGreatDoor.useB s.bufs p n) q=some (d,true)
   rw [atB_use h.rises]; exact h.hand q e hi }
theorem put_len {l m:List Bf} {b:Bf} {held:Int→Bool} (hr:Rises l) (h8:l.length≤8) (hp:putB l b held=some m):m.length≤8:=by
 obtain ⟨J,hJ⟩:=put_spec hr h8 hp;exact hJ.len
theorem putB (h:Inv s) {m:List Bf} {b:Bf} {n:Int} (hp:Go.Proofs.YtagndjihiklmiaaGreatDoor.putB s.bufs b s.heldP=some m) (hb:0≤b.pos∧b.pos≤31) (hs:b.data.size≤16) (hn:s.use≤n) (hu:0≤b.used∧b.used≤n) (hd:b.dirty=true→(∃ e,atB s.bufs b.pos=some (e,true))∨dirtyB s.bufs<6)
  (hh:b.dirty=true∨atB s.bufs b.pos=none):Inv { s with use:=n,bufs:=m } :=
 { h with
  rises:=putB_rises h.rises hp
  inb:=fun y hy=>by
   rcases (put_mem h.rises hp).2 y hy with rfl | ⟨h1,_⟩
   ·exact hb
   ·exact h.inb y h1
  len8:=put_len h.rises h.len8 hp
  size:=fun y hy=>by
   rcases (put_mem h.rises hp).2 y hy with rfl | ⟨h1,_⟩
   ·exact hs
   ·exact h.size y h1
  used:=fun y hy=>by
   show 0≤y.used∧y.used≤n
   rcases (put_mem h.rises hp).2 y hy with rfl | ⟨h1,_⟩
   ·exact hu
   ·have:=h.used y h1; omega
  dirty:=by
   show dirtyB m≤6;obtain ⟨c1,c2⟩:=cnt_put (fun _ _ y=>y) (fun _ _=>rfl) h.rises hp;have h6:=h.dirty;rw [dirty_cnt] at h6 ⊢
   cases hbd:b.dirty with
   |false=>rw [hbd] at c1; simp at c1; omega
   |true =>
    rcases hd hbd with ⟨e,he⟩ | h5
    ·obtain ⟨x,hx,hxp,_,hxd,_⟩:=atB_some h.rises he
     have:=c2 x hx hxp;rw [hbd,hxd] at this;simp at this; omega
    ·rw [hbd] at c1
     rw [dirty_cnt] at h5;simp at c1; omega
  use0:=by show 0≤n; have:=h.use0; omega
  hand:=fun q e hi=>by
   show ∃ d,atB m q=some (d,true);obtain ⟨d,hd'⟩:=h.hand q e hi;by_cases hq:q=b.pos
   ·subst hq
    rw [atB_put h.rises h.len8 hp];rcases hh with hh | hh
    ·exact ⟨_,by rw [hh]⟩
    ·rw [hh] at hd'; cases hd'
   ·rcases atB_put_ne h.rises h.len8 hp hq with h1 | ⟨_,h2,_⟩
    ·exact ⟨d,by rw [h1]; exact hd'⟩
    ·exfalso
     rw [heldP_eq] at h2;have:heldL' (s.wait ++ s.v.d.l) q=true:=by rw [held_or h.oks]; exact .inr ⟨e,hi⟩
     rw [this] at h2; cases h2 }
theorem use1 (h:Inv s) {n:Int} (hn:s.use≤n):Inv { s with use:=n } :=
 { h with
  used:=fun y hy=>by show 0≤y.used∧y.used≤n; have:=h.used y hy; omega
  use0:=by show 0≤n; have:=h.use0; omega }
theorem getB_atB {l:List Bf} (hr:Rises l) {p:Int} (h:(getB l p).2=true):∃ x ∈ l,x.pos=p∧getB l p=(x,true)∧atB l p=some (x.data,x.dirty):=by
 rw [getB_is] at h;obtain ⟨x,hx,rfl⟩:=isB_iff.1 h;exact ⟨x,hx,rfl,getB_mem hr hx,atB_mem hr hx⟩
theorem read (h:Inv s) {c:Nat} {a:Ak} (ha:AkOk a):Inv (s.read c a):=by
 unfold St.read
 split
 ·rename_i hi
  obtain ⟨x,hx,_,hg,_⟩:=getB_atB h.rises hi;rw [hg];exact (h.useB a.pos (s.use+1) (by omega)).answer c (h.size x hx) (by omega)
 ·split
  ·exact h
  ·rename_i hh
   exact h.queue (by simpa using hh) (fun h=>by cases h)
theorem still_at (h:Inv s) {p:Int}:St.still s.bufs p=true↔∃ d,atB s.bufs p=some (d,true):=still_iff
theorem write (h:Inv s) {c:Nat} {a:Ak} (ha:AkOk a):Inv (s.write c a):=by
 unfold St.write
 split
 ·exact h.answer c noB16 (by omega)
 ·split
  ·exact h
  ·rename_i h6
   split
   ·rename_i m hm
    have hu:=h.use0;refine (h.putB hm ⟨ha.lo,ha.hi⟩ (by have:=ha.size; simp only; omega) (show s.use≤s.use+1 by omega) (by simp only; omega) (fun _=>?_) (.inl rfl)).answer c noB16 (by omega)
    cases hs:St.still s.bufs a.pos with
    |true=>exact .inl (h.still_at.1 hs)
    |false=>rw [hs] at h6; right; simpa using h6
   ·exact h.use1 (by omega)
theorem sync (h:Inv s) {c:Nat} {a:Ak} (ha:AkOk a):Inv (s.sync c a):=by
 unfold St.sync
 split
 ·exact h.answer c noB16 (by omega)
 ·split
  ·refine Inv.answer (s:={ s with v:={ s.v with d:=s.v.d.flush } }) { h with dv:=?_ } c noB16 (by omega)
   exact ⟨h.dv.now,h.dv.now,h.dv.nowS,h.dv.nowS,by simp [Dv.flush],h.dv.l,h.dv.two⟩
  ·exact { h with
    asks:=by show (s.asks.set c _).length=3; rw [List.length_set]; exact h.asks
    ask:=fun j b hb=>by
     rcases askAt_set (show (s.asks.set c _).getD j none=some b from hb) with ⟨_,h1⟩ | ⟨_,h1⟩
     ·cases h1
      exact ⟨ha.kind,ha.lo,ha.hi,ha.size,Nat.le_trans (List.length_filter_le _ _) ha.len,fun p hp=>ha.left p ((List.mem_filter.1 hp).1)⟩
     ·exact h.ask j b h1 }
theorem serve1 (h:Inv s) (c:Nat):Inv (s.serve1 c):=by
 unfold St.serve1
 split
 ·exact h
 ·rename_i a ha
  have hk:=h.ask c a ha
  split
  ·exact h.read hk
  ·split
   ·exact h.write hk
   ·split
    ·exact h.sync hk
    ·exact h
theorem serve (h:Inv s):Inv s.serve:=((h.serve1 0).serve1 1).serve1 2
theorem dirtyAt_ok (h:Inv s):(St.dirtyAt s.bufs).length≤8∧∀ p ∈ St.dirtyAt s.bufs,0≤p∧p≤31:=by
 unfold St.dirtyAt;refine ⟨by rw [List.length_map]; exact Nat.le_trans (List.length_filter_le _ _) h.len8,fun p hp=>?_⟩;obtain ⟨x,hx,rfl⟩:=List.mem_map.1 hp;exact h.inb x (List.mem_filter.1 hx).1
theorem asked (h:Inv s) {c:Nat} {kind p:Int} {d:ByteArray} {l:List Int} (hk:kind=1∨kind=2∨kind=3) (hp:0≤p∧p≤31) (hd:d.size≤4) (hl:l.length≤8∧∀ x ∈ l,0≤x∧x≤31):Inv { s with asks:=s.asks.set c (some ⟨kind,p,d,l⟩) } :=
 { h with
  asks:=by show (s.asks.set c _).length=3; rw [List.length_set]; exact h.asks
  ask:=fun j b hb=>by
   rcases askAt_set (show (s.asks.set c _).getD j none=some b from hb) with ⟨_,h1⟩ | ⟨_,h1⟩
   ·cases h1; exact ⟨hk,hp.1,hp.2,hd,hl.1,hl.2⟩
   ·exact h.ask j b h1 }
theorem ask_ (h:Inv s) (client kind p:Int) (d:ByteArray):Inv (s.ask client kind p d).1:=by
 unfold St.ask
 split
 ·exact h
 ·split
  ·exact h
  ·split
   ·exact h
   ·rename_i h1 h2 _
    refine (h.asked (c:=client.toNat) (by omega) (by omega) (by omega) ?_).serve
    split
    ·exact h.dirtyAt_ok
    ·simp
theorem tick (h:Inv s):Inv s.tick:=by
 refine Inv.serve (s:={ s with now:=min (s.now+1) 1000000000 }) { h with now:=?_ };have:=h.now;simp only;omega
theorem clean (h:Inv s):Inv s.clean.1:=by
 unfold St.clean
 split
 ·exact h
 ·split
  ·exact h
  ·rename_i hp
   obtain ⟨x,hx,hpos,hg,hd,hh,_⟩:=pick_some h.rises hp;rw [hg];refine h.queue ?_ (fun _=>⟨x.data,?_⟩)
   ·rw [← hpos]; exact hh
   ·rw [← hpos,atB_mem h.rises hx,hd]
theorem getD_mem {l:List Rq} {j:Nat} {r:Rq} (h:l[j]?=some r):l.getD j default=r:=by rw [List.getD_eq_getElem?_getD,h]; rfl
theorem perm_move {a b:List Rq} {j:Nat} {r:Rq} (h:a[j]?=some r):(a.eraseIdx j ++ (b ++ [r])).Perm (a ++ b):=by
 obtain ⟨hk,rfl⟩:=List.getElem?_eq_some_iff.1 h;have e1:a.Perm (a[j] :: a.eraseIdx j):=(perm_back h).trans List.perm_append_comm
 have e2:(a.eraseIdx j ++ (b ++ [a[j]])).Perm (a[j] :: (a.eraseIdx j ++ b)):=by
  rw [← List.append_assoc];exact List.perm_append_singleton _ _
 exact e2.trans (List.Perm.append_right b e1.symm)
theorem dispatched (h:Inv s) (hw:s.wait≠[]) (hl:s.v.d.l.length<2):∃ j r t',NextIs s.wait s.turn s.now j r t'∧s.dispatch=({ s with wait:=s.wait.eraseIdx j,turn:=t',v:={ s.v with d:={ s.v.d with l:=s.v.d.l ++ [r] } } },true):=by
 obtain ⟨j,r,t',hn⟩:=next_is s.turn s.now (good_app.1 h.good).1 hw;refine ⟨j,r,t',hn,?_⟩;unfold St.dispatch;rw [if_neg (by simp only [not_or]; exact ⟨hw,by omega⟩),hn.eq];simp only [Int.toNat_natCast,getD_mem hn.get];unfold Dv.start;rw [if_neg (by omega)]
theorem dispatch_no (hn:s.wait=[]∨2≤s.v.d.l.length):s.dispatch=(s,false):=by unfold St.dispatch; rw [if_pos hn]
theorem dispatch (h:Inv s):Inv s.dispatch.1:=by
 by_cases hn:s.wait=[]∨2≤s.v.d.l.length
 ·rw [dispatch_no hn]; exact h
 ·simp only [not_or] at hn
  obtain ⟨j,r,t',hx,e⟩:=h.dispatched hn.1 (by omega);rw [e];have hp:=perm_move (b:=s.v.d.l) hx.get;have hrok:=h.oks r (List.mem_append.2 (.inl (List.mem_of_getElem? hx.get)))
  exact { h with
   dv:=⟨h.dv.kept,h.dv.now,h.dv.keptS,h.dv.nowS,h.dv.waits,fun y hy=>by
    rcases List.mem_append.1 hy with hy | hy
    ·exact h.dv.l y hy
    ·simp at hy; subst hy; exact reqF_ok hrok,by simp; omega⟩
   good:=good_perm hp.symm h.good
   wait6:=by have:=h.wait6; show (s.wait.eraseIdx j).length≤6; exact Nat.le_trans (List.length_eraseIdx_le _ _) this
   turn:=by
    obtain ⟨a1,a2,a3,a4,a5,a6⟩:=h.turn;have g1:=hx.gone;have g2:=hx.st a1 a2;have g3:=hx.wh;obtain ⟨b1,b2,b3,b4,b5⟩:=hrok.span;show 0≤t'.starved∧t'.starved≤2∧0≤t'.gone∧t'.gone≤3∧0≤t'.wh∧t'.wh≤32;omega
   hand:=fun p e hi=>h.hand p e ((InW.perm hp).1 hi) }
theorem go (h:Inv s):Inv s.go:=h.dispatch.dispatch
theorem tell1 (h:Inv s) {p:Int} {d:ByteArray} (hd:d.size≤16) (c:Nat):Inv (St.tell1 p d s c):=by
 unfold St.tell1
 split
 ·exact h
 ·split
  ·exact h.answer c hd (by omega)
  ·exact h
theorem tell (h:Inv s) {p:Int} {d:ByteArray} (hd:d.size≤16):Inv (s.tell p d):=((h.tell1 hd 0).tell1 hd 1).tell1 hd 2
theorem wrong1 (h:Inv s) (r:Rq) (c:Nat):Inv (St.wrong1 r s c):=by
 unfold St.wrong1
 split
 ·exact h
 ·split
  ·exact h.answer c noB16 (by omega)
  ·exact h
theorem wrong (h:Inv s) (r:Rq):Inv (s.wrong r):=by
 have h0:Inv { s with dead:=s.dead || r.write }:={ h with }
 exact ((h0.wrong1 r 0).wrong1 r 1).wrong1 r 2
theorem ended1 (h:Inv s) {w:Bool} {p:Int} {d:ByteArray} (hp:0≤p∧p≤31) (hd:d.size≤16) (hh:w=true→s.heldP p=false):Inv (s.ended1 w p d):=by
 unfold St.ended1
 split
 ·rename_i hw
  exact { h with
   rises:=cleanB_rises h.rises p d
   inb:=fun b hb=>by
    obtain ⟨x,hx,rfl⟩:=List.mem_map.1 hb;have:=h.inb x hx
    split <;> exact this
   len8:=by show (cleanB s.bufs p d).length≤8; simpa [cleanB] using h.len8
   size:=fun b hb=>by
    obtain ⟨x,hx,rfl⟩:=List.mem_map.1 hb;have:=h.size x hx
    split <;> exact this
   used:=fun b hb=>by
    obtain ⟨x,hx,rfl⟩:=List.mem_map.1 hb;have:=h.used x hx
    split <;> exact this
   dirty:=by
    show dirtyB (cleanB s.bufs p d)≤6;have h6:=h.dirty;rw [dirty_cnt] at h6 ⊢;exact Nat.le_trans (cnt_clean _ (fun _ _=>rfl) _ _ _) h6
   hand:=fun q e hi=>by
    show ∃ d',atB (cleanB s.bufs p d) q=some (d',true)
    have hne:q≠p:=by
     rintro rfl;have h1:=hh hw;rw [heldP_eq] at h1;have:heldL' (s.wait ++ s.v.d.l) q=true:=by rw [held_or h.oks]; exact .inr ⟨e,hi⟩
     rw [this] at h1; cases h1
    rw [atB_clean_ne h.rises d hne]; exact h.hand q e hi }
 ·split
  ·exact h
  ·rename_i hg
   have hu:=h.use0
   cases hp':Go.Proofs.YtagndjihiklmiaaGreatDoor.putB s.bufs ⟨p,d,false,s.use+1⟩ s.heldP with
   |some m =>
    refine (h.putB hp' hp hd (show s.use≤s.use+1 by omega) (by simp only; omega) (fun h=>by cases h) (.inr ?_)).tell hd;unfold atB;rw [if_neg hg]
   |none=>exact (h.use1 (show s.use≤s.use+1 by omega)).tell hd
end Inv
end Go.Proofs.YtagndjihiklmiaaGreatDoor
namespace Go.Proofs.YtagndjihiklmiaaGreatDoor
open Go.RowKit
theorem bufInfo:(Tryz.prog.info? 107).map (fun i=>(i.zero,i.size,i.bytes))=some (some (.agg #[.int .i64 0,.string ⟨#[]⟩,.bool false,.int .i64 0]),4,40):=by kernel_rfl
theorem nil_bufs (a:Option Addr) (n c:Nat) (w:World):(binOp .eql 66 (.slice a n c) (.slice none 0 0)).run Tryz.prog w=.ok (.bool a.isNone) w:=Lib.run_eql_slice_nil w _ _ a n c 0 0 Tryz.underlying66
theorem bclone_any (S:Nat→Prop) (v:Value) (n:Nat) (xs:List Value) (w:World) (h:Rd S w 4 v n xs) (h1:∀ u ∈ xs,u.oneCell'=true) (hn:n≤65536) :
  Calls Tryz.prog 133 #[v] w (RetOwn 107 4 n xs w):=by
 obtain ⟨i0,hi0,hz0,hz1,hz2⟩:=info_parts bufInfo;have H:=Lib.hid h;obtain ⟨A,c,rfl,hm,hc⟩:=h.form;clear h;have hnil:=nil_bufs A n c w
 cases A with
 |none =>
  have hn0:n=0:=by
   obtain ⟨A',c',e,_,_,_,h4⟩:=H.out
   cases e
   rcases Nat.eq_zero_or_pos n with h | h
   ·exact h
   ·obtain ⟨_,_,h,_⟩:=h4 h; cases h
  subst hn0;have hx:xs=[]:=List.eq_nil_of_length_eq_zero (by obtain ⟨_,_,_,_,_,h,_⟩:=H.out; simpa using h);subst hx;go_enter Tryz.func133,Tryz.ntmps133;go_wp2_with fail;go_ret;exact ⟨_,rfl,World.ownsRow_nil _ _ _ _,Below.refl _ _⟩
 |some ad =>
  go_enter Tryz.func133,Tryz.ntmps133;go_wp2_with (at_builtin; refine wpList_append_rd (S:=S) _ rfl (.tmp 5) (.tmp 6) _ rfl w.heap.size 107 i0 _ 4 40 Tryz.underlying66 hi0 hz0 hz1 hz2 rfl (by omega) (.slice (some ⟨w.heap.size,0,none⟩) 0 0) 0 [] rfl (World.ownsRow_lit w #[] 0 (Nat.le_refl _) (by simp [maxLen]) (by simp)) (.slice (some ad) n c) n xs rfl (H.out.below ((Below.refl _ _).alloc (Nat.le_refl _) _)) h1 (by simp only [maxLen]; omega) (by omega) (by simp) ?_; intro v1 w1 hown1 hg1 hat1);go_ret;refine ⟨v1,rfl,by simpa using hown1,((Below.refl _ _).alloc (Nat.le_refl _) _).grown hg1 (by simp) (fun k hk=>?_)⟩;simp [Value.ownBlock] at hk;omega
end Go.Proofs.YtagndjihiklmiaaGreatDoor
namespace Go.Proofs.YtagndjihiklmiaaGreatDoor
open Go.RowKit
theorem ownB_slice {w:World} {base n size:Nat} {e:TypeId} {v:Value} {xs:List Value} (h:w.ownsRow base e size v n xs):∃ A cap,v=.slice A n cap∧n≤cap∧cap≤9223372036854775807:=by
 rcases h.2 with ⟨h,h0⟩ | ⟨g,cap,cur,h,_,_,h3,h4,_⟩
 ·exact ⟨none,0,by rw [h,h0],by omega,by omega⟩
 ·unfold maxLen at h4; exact ⟨_,cap,h,h3,by omega⟩
theorem bufs_of_own {w:World} {base:Nat} {v:Value} {l:List Bf} {S:Nat→Prop} (hS:∀ b,base≤b→S b) (h:w.ownsRow base 107 4 v l.length (flatB l)) (hok:∀ b ∈ l,BfOk b):BufsAt S w v l:=⟨Rd.of_own w hS h,hok⟩
theorem own_cells4 {w:World} {base g n cap:Nat} {l:List Bf} (h:w.ownsRow base 107 4 (.slice (some ⟨g,0,none⟩) n cap) n (flatB l)) {i:Nat} {x:Bf} (hx:l[i]?=some x) :
  w.cell? ⟨g,i * 4,none⟩=some (.int .i64 x.pos)∧w.cell? ⟨g,i * 4+1,none⟩=some (.string x.data)∧w.cell? ⟨g,i * 4+2,none⟩=some (.bool x.dirty)∧w.cell? ⟨g,i * 4+3,none⟩=some (.int .i64 x.used):=by
 have hg:=fun j hj=>flatB_get l i j x hx hj
 have hc:=fun j u hu=>h.cells (g:=g) rfl j u hu
 simp only [Go.WideShapes.add_plain,Nat.zero_add] at hc;exact ⟨hc (i * 4+0) _ ((hg 0 (by omega)).trans rfl),hc (i * 4+1) _ ((hg 1 (by omega)).trans rfl),hc (i * 4+2) _ ((hg 2 (by omega)).trans rfl),hc (i * 4+3) _ ((hg 3 (by omega)).trans rfl)⟩
def RetBufs (l:List Bf) (w:World):Ending→World→Prop:=RetOwn 107 4 l.length (flatB l) w
theorem use_any (S:Nat→Prop) (l:List Bf) (v:Value) (p now:Int) (w:World) (h:BufsAt S w v l) (hr:Rises l) (hn:l.length≤65536) :
  Calls Tryz.prog 157 #[v,.int .i64 p,.int .i64 now] w (RetBufs (useB l p now) w):=by
 obtain ⟨A,cap,rfl,h1,h2⟩:=h.form;have hl:(useB l p now).length=l.length:=by simp [useB]
 unfold RetBufs;rw [hl];have H:=Lib.hid h;have HR:=Lib.hid hr;clear h hr hl;go_enter Tryz.func157,Tryz.ntmps157;go_wp2_with fail;refine (bclone_any S _ l.length (flatB l) _ H.out.1 (flatB_one l) hn).mono ?_;rintro e w1 ⟨v1,rfl,hown,hb1⟩;have Hown:=Lib.hid hown;have Hb1:=Lib.hid hb1;obtain ⟨A1,cp1,rfl,hc1,hc2⟩:=ownB_slice hown;clear hown hb1;go_wp2_with fail;refine (find_any (fun _=>True) l _ p _ (bufs_of_own (fun _ _=>trivial) Hown.out H.out.2) HR.out hn).mono ?_;rintro e w2 ⟨rfl,hb2⟩;have Ho2:=Lib.hid (own_below Hown.out hb2);have Hb2:=Lib.hid (Hb1.out.trans (hb2.mono Hb1.out.size));clear hb2
 cases hi:isB l p with
 |false =>
  go_wp2_with fail;go_ret;exact ⟨_,rfl,by rw [useB_no hi]; exact Ho2.out,Hb2.out⟩
 |true =>
  obtain ⟨x,hx,hp⟩:=isB_at HR.out hi;have hlt:=(List.getElem?_eq_some_iff.1 hx).1;have hi1:((posB l p:Nat):Int)<(l.length:Int):=by omega
  obtain ⟨g,cp,e,hbg,hgl,_,_⟩:=own_pos Ho2.out (by omega)
  cases e
  obtain ⟨k0,k1,k2,k3⟩:=own_cells4 Ho2.out hx;have hfr:=own_frozen Ho2.out (by omega);have Hx:=Lib.hid hx;have Hp:=Lib.hid hp;clear hx hp;go_wp2_with fail;go_ret;refine ⟨_,rfl,?_,Hb2.out.setCell hbg _⟩;rw [useB_at HR.out Hx.out Hp.out,← flatB_set1 (c:={ x with used:=now }) Hx.out 3 (by omega) (.int .i64 now) rfl];exact ownB_setCell Ho2.out (by omega)
theorem clean_any (S:Nat→Prop) (l:List Bf) (v:Value) (p:Int) (d:ByteArray) (w:World) (h:BufsAt S w v l) (hr:Rises l) (hn:l.length≤65536) :
  Calls Tryz.prog 91 #[v,.int .i64 p,.string d] w (RetBufs (cleanB l p d) w):=by
 obtain ⟨A,cap,rfl,h1,h2⟩:=h.form;have hl:(cleanB l p d).length=l.length:=by simp [cleanB]
 unfold RetBufs;rw [hl];have H:=Lib.hid h;have HR:=Lib.hid hr;clear h hr hl;go_enter Tryz.func91,Tryz.ntmps91;go_wp2_with fail;refine (bclone_any S _ l.length (flatB l) _ H.out.1 (flatB_one l) hn).mono ?_;rintro e w1 ⟨v1,rfl,hown,hb1⟩;have Hown:=Lib.hid hown;have Hb1:=Lib.hid hb1;obtain ⟨A1,cp1,rfl,hc1,hc2⟩:=ownB_slice hown;clear hown hb1;go_wp2_with fail;refine (find_any (fun _=>True) l _ p _ (bufs_of_own (fun _ _=>trivial) Hown.out H.out.2) HR.out hn).mono ?_;rintro e w2 ⟨rfl,hb2⟩;have Ho2:=Lib.hid (own_below Hown.out hb2);have Hb2:=Lib.hid (Hb1.out.trans (hb2.mono Hb1.out.size));clear hb2
 cases hi:isB l p with
 |false =>
  go_wp2_with fail;go_ret;exact ⟨_,rfl,by rw [cleanB_no (fun b hb hp=>absurd hp (isB_false.1 hi b hb))]; exact Ho2.out,Hb2.out⟩
 |true =>
  obtain ⟨x,hx,hp⟩:=isB_at HR.out hi;have hlt:=(List.getElem?_eq_some_iff.1 hx).1;have hi1:((posB l p:Nat):Int)<(l.length:Int):=by omega
  obtain ⟨g,cp,e,hbg,hgl,_,_⟩:=own_pos Ho2.out (by omega)
  cases e
  obtain ⟨k0,k1,k2,k3⟩:=own_cells4 Ho2.out hx;have hfr:=own_frozen Ho2.out (by omega);have Hx:=Lib.hid hx;have Hp:=Lib.hid hp;clear hx hp;by_cases hd:x.data=d
  ·have ht:(x.data.toList == d.toList)=true:=by rw [hd]; exact beq_self_eq_true _
   have Hd:=Lib.hid hd;clear hd;go_wp2_with fail;go_ret;refine ⟨_,rfl,?_,Hb2.out.setCell hbg _⟩;rw [cleanB_at HR.out Hx.out Hp.out Hd.out,← flatB_set1 (c:={ x with dirty:=false }) Hx.out 2 (by omega) (.bool false) rfl];exact ownB_setCell Ho2.out (by omega)
  ·have ht:(x.data.toList == d.toList)=false:=by simpa using bytes_ne hd
   have Hd:=Lib.hid hd;clear hd;go_wp2_with fail;go_ret;exact ⟨_,rfl,by rw [cleanB_other HR.out Hx.out Hp.out Hd.out]; exact Ho2.out,Hb2.out⟩
def upto (f:Bf→Bf) (l:List Bf) (k:Nat):List Bf:=(l.take k).map f ++ l.drop k
theorem upto_at {f:Bf→Bf} {l:List Bf} {k:Nat} {x:Bf} (hx:l[k]?=some x):(upto f l k)[k]?=some x:=by
 have hlt:=(List.getElem?_eq_some_iff.1 hx).1;unfold upto;rw [List.getElem?_append_right (by simp; exact Nat.min_le_left _ _),List.length_map,List.length_take,Nat.min_eq_left (by omega),Nat.sub_self,List.getElem?_drop,Nat.add_zero,hx]
theorem upto_succ {f:Bf→Bf} {l:List Bf} {k:Nat} {x:Bf} (hx:l[k]?=some x):upto f l (k+1)=(upto f l k).set k (f x):=by
 have hlt:=(List.getElem?_eq_some_iff.1 hx).1;have hk:((l.take k).map f).length=k:=by rw [List.length_map,List.length_take]; omega
 unfold upto;rw [List.take_add_one,hx,List.set_append,hk,if_neg (by omega),Nat.sub_self,List.map_append];obtain ⟨h,rfl⟩:=List.getElem?_eq_some_iff.1 hx;have e:=List.drop_eq_getElem_cons h;simp;rw [e,List.set_cons_zero]
theorem upto_same {f:Bf→Bf} {l:List Bf} {k:Nat} {x:Bf} (hx:l[k]?=some x) (hf:f x=x):upto f l (k+1)=upto f l k:=by
 rw [upto_succ hx,hf];have:=upto_at (f:=f) hx;obtain ⟨h,e⟩:=List.getElem?_eq_some_iff.1 this
 conv=>lhs; rw [← e]
 exact List.set_getElem_self h
theorem upto_zero (f:Bf→Bf) (l:List Bf):upto f l 0=l:=by simp [upto]
theorem upto_all (f:Bf→Bf) {l:List Bf} {k:Nat} (hk:l.length≤k):upto f l k=l.map f:=by unfold upto; rw [List.take_of_length_le hk,List.drop_eq_nil_of_le hk,List.append_nil]
theorem ruse_any (S:Nat→Prop) (l:List Bf) (v:Value) (p now:Int) (w:World) (h:BufsAt S w v l) (hn:l.length≤65536) :
  Calls Tryz.prog 102 #[v,.int .i64 p,.int .i64 now] w (RetBufs (useB l p now) w):=by
 obtain ⟨i0,hi0,hz0,hz1,hz2⟩:=info_parts bufInfo;have hl:(useB l p now).length=l.length:=by simp [useB]
 unfold RetBufs;rw [hl]
 obtain ⟨f,hf⟩:∃ f:Bf→Bf,(fun b=>if b.pos=p then { b with used:=now } else b)=f:=⟨_,rfl⟩
 have HF:Hid (∀ b,f b=if b.pos=p then { b with used:=now } else b):=fun b=>by rw [← hf]
 rw [show useB l p now=l.map f by rw [← hf]; rfl];have H:=Lib.hid h;clear h hl hf;obtain ⟨A,cap,rfl,h1,h2⟩:=H.out.form;go_enter Tryz.func102,Tryz.ntmps102;go_wp2_with (at_builtin; refine wpList_append_rd (S:=S) _ rfl (.const (.slice none 0 0)) (.tmp 9) _ rfl w.heap.size 107 i0 _ 4 40 Tryz.underlying66 hi0 hz0 hz1 hz2 rfl (by omega) (.slice none 0 0) 0 [] rfl (World.ownsRow_nil _ _ _ _) (.slice A l.length cap) l.length (flatB l) rfl H.out.1 (flatB_one l) (by simp only [maxLen]; omega) (by omega) (Nat.le_refl _) ?_; intro v1 w1 hown1 hg1 hat1);rw [Nat.zero_add,List.nil_append] at hown1;have Hb1:Hid (Below w.heap.size w w1):=Below.grown (Below.refl _ _) hg1 (by simp) (fun k hk=>by simp [Value.ownBlock] at hk);obtain ⟨A1,cp1,rfl,hc1,hc2⟩:=ownB_slice hown1;have Hown:=Lib.hid hown1;clear hown1 hg1 hat1;go_loopw [8] (fun i wr=>∃ k:Nat,k≤l.length∧i=.int .i64 k∧Hid (Below w.heap.size w wr)∧Hid (wr.ownsRow w.heap.size 107 4 (.slice A1 l.length cp1) l.length (flatB (upto f l k)))) (fun i _=>l.length - (intOf i).toNat)
 case atStart=>exact ⟨0,by omega,rfl,Hb1,by rw [upto_zero]; exact Hown⟩
 case round =>
  obtain ⟨k,hk,rfl,Hb,Ho⟩:=hrel;by_cases hlt:k<l.length
  ·have hx:l[k]?=some l[k]:=List.getElem?_eq_getElem hlt
   have hi1:(k:Int)<(l.length:Int):=by omega
   obtain ⟨g,cp,e,hbg,hgl,_,_⟩:=own_pos Ho.out (by omega)
   cases e
   obtain ⟨k0,k1,k2,k3⟩:=own_cells4 Ho.out (upto_at hx);have hfr:=own_frozen Ho.out (by omega);have Hx:=Lib.hid hx;clear hx;generalize l[k]=x at *;by_cases hp:x.pos=p
   ·have hfx:=Lib.hid (HF.out x)
    rw [if_pos hp] at hfx;go_wp2_with fail;go_roundw
    case rel=>exact ⟨k+1,by omega,by go_num,Hb.out.setCell hbg _,by
     rw [upto_succ Hx.out,hfx.out,← flatB_set1 (c:={ x with used:=now }) (upto_at Hx.out) 3 (by omega) (.int .i64 now) rfl]
     exact ownB_setCell Ho.out (by omega)⟩
    case measure=>simp [intOf]; omega
   ·have hfx:=Lib.hid (HF.out x)
    rw [if_neg hp] at hfx;go_wp2_with fail;go_roundw
    case rel=>exact ⟨k+1,by omega,by go_num,Hb,by rw [upto_same Hx.out hfx.out]; exact Ho⟩
    case measure=>simp [intOf]; omega
  ·have hi1:decide ((k:Int)<(l.length:Int))=false:=by simp; omega
   go_wp2;go_ret;exact ⟨_,rfl,by rw [← upto_all f (show l.length≤k by omega)]; exact Ho.out,Hb.out⟩
theorem rclean_any (S:Nat→Prop) (l:List Bf) (v:Value) (p:Int) (d:ByteArray) (w:World) (h:BufsAt S w v l) (hn:l.length≤65536) :
  Calls Tryz.prog 68 #[v,.int .i64 p,.string d] w (RetBufs (cleanB l p d) w):=by
 obtain ⟨i0,hi0,hz0,hz1,hz2⟩:=info_parts bufInfo;have hl:(cleanB l p d).length=l.length:=by simp [cleanB]
 unfold RetBufs;rw [hl]
 obtain ⟨f,hf⟩:∃ f:Bf→Bf,(fun b=>if b.pos=p∧b.data=d then { b with dirty:=false } else b)=f:=⟨_,rfl⟩
 have HF:Hid (∀ b,f b=if b.pos=p∧b.data=d then { b with dirty:=false } else b):=fun b=>by rw [← hf]
 rw [show cleanB l p d=l.map f by rw [← hf]; rfl];have H:=Lib.hid h;clear h hl hf;obtain ⟨A,cap,rfl,h1,h2⟩:=H.out.form;go_enter Tryz.func68,Tryz.ntmps68;go_wp2_with (at_builtin; refine wpList_append_rd (S:=S) _ rfl (.const (.slice none 0 0)) (.tmp 9) _ rfl w.heap.size 107 i0 _ 4 40 Tryz.underlying66 hi0 hz0 hz1 hz2 rfl (by omega) (.slice none 0 0) 0 [] rfl (World.ownsRow_nil _ _ _ _) (.slice A l.length cap) l.length (flatB l) rfl H.out.1 (flatB_one l) (by simp only [maxLen]; omega) (by omega) (Nat.le_refl _) ?_; intro v1 w1 hown1 hg1 hat1);rw [Nat.zero_add,List.nil_append] at hown1;have Hb1:Hid (Below w.heap.size w w1):=Below.grown (Below.refl _ _) hg1 (by simp) (fun k hk=>by simp [Value.ownBlock] at hk);obtain ⟨A1,cp1,rfl,hc1,hc2⟩:=ownB_slice hown1;have Hown:=Lib.hid hown1;clear hown1 hg1 hat1;go_loopw [8] (fun i wr=>∃ k:Nat,k≤l.length∧i=.int .i64 k∧Hid (Below w.heap.size w wr)∧Hid (wr.ownsRow w.heap.size 107 4 (.slice A1 l.length cp1) l.length (flatB (upto f l k)))) (fun i _=>l.length - (intOf i).toNat)
 case atStart=>exact ⟨0,by omega,rfl,Hb1,by rw [upto_zero]; exact Hown⟩
 case round =>
  obtain ⟨k,hk,rfl,Hb,Ho⟩:=hrel;by_cases hlt:k<l.length
  ·have hx:l[k]?=some l[k]:=List.getElem?_eq_getElem hlt
   have hi1:(k:Int)<(l.length:Int):=by omega
   obtain ⟨g,cp,e,hbg,hgl,_,_⟩:=own_pos Ho.out (by omega)
   cases e
   obtain ⟨k0,k1,k2,k3⟩:=own_cells4 Ho.out (upto_at hx);have hfr:=own_frozen Ho.out (by omega);have Hx:=Lib.hid hx;clear hx;generalize l[k]=x at *;by_cases hp:x.pos=p
   ·by_cases hd:x.data=d
    ·have ht:(x.data.toList == d.toList)=true:=by rw [hd]; exact beq_self_eq_true _
     have hfx:=Lib.hid (HF.out x);rw [if_pos ⟨hp,hd⟩] at hfx;clear hd;go_wp2_with fail;go_roundw
     case rel=>exact ⟨k+1,by omega,by go_num,Hb.out.setCell hbg _,by
      rw [upto_succ Hx.out,hfx.out,← flatB_set1 (c:={ x with dirty:=false }) (upto_at Hx.out) 2 (by omega) (.bool false) rfl]
      exact ownB_setCell Ho.out (by omega)⟩
     case measure=>simp [intOf]; omega
    ·have ht:(x.data.toList == d.toList)=false:=by simpa using bytes_ne hd
     have hfx:=Lib.hid (HF.out x);rw [if_neg (fun e=>hd e.2)] at hfx;clear hd;go_wp2_with fail;go_roundw
     case rel=>exact ⟨k+1,by omega,by go_num,Hb,by rw [upto_same Hx.out hfx.out]; exact Ho⟩
     case measure=>simp [intOf]; omega
   ·have hfx:=Lib.hid (HF.out x)
    rw [if_neg (fun e=>hp e.1)] at hfx;have hp2:decide (x.pos=p)=false:=decide_eq_false hp;go_wp2_with fail;go_roundw
    case rel=>exact ⟨k+1,by omega,by go_num,Hb,by rw [upto_same Hx.out hfx.out]; exact Ho⟩
    case measure=>simp [intOf]; omega
  ·have hi1:decide ((k:Int)<(l.length:Int))=false:=by simp; omega
   go_wp2;go_ret;exact ⟨_,rfl,by rw [← upto_all f (show l.length≤k by omega)]; exact Ho.out,Hb.out⟩
end Go.Proofs.YtagndjihiklmiaaGreatDoor
