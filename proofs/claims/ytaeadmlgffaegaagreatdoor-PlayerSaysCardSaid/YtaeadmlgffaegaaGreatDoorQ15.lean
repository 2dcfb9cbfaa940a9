/- How lists of sectors lie in memory. -/
import Derived.Test.YtaeadmlgffaegaaGreatDoorQ11
import Derived.Test.YtaeadmlgffaegaaGreatDoorQ14
import Derived.Deep.LoopGhost
set_option linter.unusedSimpArgs false
set_option linter.unusedVariables false
set_option maxRecDepth 100000
set_option maxHeartbeats 8000000
namespace Go.Proofs.YtaeadmlgffaegaaGreatDoor
open Go.RowKit
def Bf.cells (b:Bf):List Value:=[.int .i64 b.pos,.string b.data,.bool b.dirty,.int .i64 b.used]
abbrev bfV (b:Bf):Value:=.agg #[.int .i64 b.pos,.string b.data,.bool b.dirty,.int .i64 b.used]
structure BfOk (b:Bf):Prop where
 pos:i64 b.pos
 used:i64 b.used
 data:b.data.size≤maxLen
def flatB (l:List Bf):List Value:=l.flatMap Bf.cells
def BufsAt (S:Nat→Prop) (w:World) (v:Value) (l:List Bf):Prop:=Rd S w 4 v l.length (flatB l)∧∀ b ∈ l,BfOk b
theorem flatB_len (l:List Bf):(flatB l).length=l.length * 4:=by
 induction l with
 |nil=>rfl
 |cons b l ih=>rw [flatB,List.flatMap_cons,List.length_append]; rw [flatB] at ih; rw [ih]; simp [Bf.cells]; omega
theorem flatB_app (a b:List Bf):flatB (a ++ b)=flatB a ++ flatB b:=by simp [flatB]
theorem flatB_cons (b:Bf) (l:List Bf):flatB (b :: l)=b.cells ++ flatB l:=rfl
theorem flatB_get:∀ (l:List Bf) (i j:Nat) (b:Bf),l[i]?=some b→j<4→(flatB l)[i * 4+j]?=b.cells[j]?:=by
 intro l
 induction l with
 |nil=>intro i j c h _; simp at h
 |cons a cs ih =>
  intro i j c h hj
  rw [flatB_cons]
  cases i with
  |zero =>
   simp at h; subst h
   rw [List.getElem?_append_left (by simp [Bf.cells]; omega)]
   simp
  |succ i =>
   rw [List.getElem?_append_right (by simp [Bf.cells]; omega)]
   simp at h
   rw [← ih i j c h hj]
   congr 1
   simp [Bf.cells]; omega
theorem flatB_take:∀ (l:List Bf) (i:Nat),(flatB l).take (i * 4)=flatB (l.take i):=by
 intro l
 induction l with
 |nil=>intro i; simp [flatB]
 |cons a l ih =>
  intro i
  cases i with
  |zero=>simp [flatB]
  |succ i =>
   rw [flatB_cons,List.take_succ_cons,flatB_cons,← ih,List.take_append]
   have:(i+1) * 4 - a.cells.length=i * 4:=by simp [Bf.cells]; omega
   rw [this,List.take_of_length_le (by simp [Bf.cells]; omega)]
theorem flatB_drop:∀ (l:List Bf) (i:Nat),(flatB l).drop (i * 4)=flatB (l.drop i):=by
 intro l
 induction l with
 |nil=>intro i; simp [flatB]
 |cons a l ih =>
  intro i
  cases i with
  |zero=>simp [flatB]
  |succ i =>
   rw [flatB_cons,List.drop_succ_cons,← ih,List.drop_append]
   have:(i+1) * 4 - a.cells.length=i * 4:=by simp [Bf.cells]; omega
   rw [this,List.drop_eq_nil_of_le (by simp [Bf.cells]; omega)]; rfl
theorem flatB_one (l:List Bf):∀ u ∈ flatB l,u.oneCell'=true:=by
 intro u hu
 obtain ⟨b,hb,hu⟩:=List.mem_flatMap.1 hu
 simp only [Bf.cells,List.mem_cons,List.not_mem_nil,or_false] at hu
 rcases hu with rfl | rfl | rfl | rfl <;> rfl
theorem flatB_set1 {l:List Bf} {i:Nat} {b c:Bf} (hb:l[i]?=some b) (k:Nat) (hk:k<4) (v:Value) (hc:c.cells=b.cells.set k v):(flatB l).set (i * 4+k) v=flatB (l.set i c):=by
 have hlt:=(List.getElem?_eq_some_iff.1 hb).1
 have e0:=List.set_eq_take_append_cons_drop (l:=l) (i:=i) (a:=c)
 rw [if_pos hlt] at e0
 rw [e0,flatB_app,flatB_cons,← flatB_take,← flatB_drop,hc]
 apply List.ext_getElem?
 intro j
 have hl:=flatB_len l
 rw [List.getElem?_set]
 have htl:((flatB l).take (i * 4)).length=i * 4:=by rw [List.length_take,hl]; omega
 have hbl:(b.cells.set k v).length=4:=by simp [Bf.cells]
 have hbl':b.cells.length=4:=by simp [Bf.cells]
 by_cases h1:j<i * 4
 ·rw [if_neg (by omega),List.getElem?_append_left (by rw [htl]; exact h1),List.getElem?_take,if_pos h1]
 ·by_cases h2:j<i * 4+4
  ·have hj:(flatB l)[j]?=b.cells[j - i * 4]?:=by
    have:=flatB_get l i (j - i * 4) b hb (by omega)
    rw [show i * 4+(j - i * 4)=j by omega] at this; exact this
   rw [List.getElem?_append_right (by omega),htl,List.getElem?_append_left (by omega),List.getElem?_set,hj,hl,hbl']
   by_cases e:i * 4+k=j
   ·rw [if_pos e,if_pos (by omega),if_pos (by omega),if_pos (by omega)]
   ·rw [if_neg e,if_neg (by omega)]
  ·rw [if_neg (by omega),List.getElem?_append_right (by omega),htl,List.getElem?_append_right (by omega),hbl,List.getElem?_drop]
   congr 1; omega
section
variable {S S':Nat→Prop} {w w':World} {v:Value} {l:List Bf}
theorem BufsAt.keep (h:BufsAt S w v l) (hk:∀ b,S b→b<w.heap.size→w'.heap[b]?=w.heap[b]?):BufsAt S w' v l:=⟨h.1.keep hk,h.2⟩
theorem BufsAt.below (h:BufsAt S w v l) (hb:Below w.heap.size w w'):BufsAt S w' v l:=⟨h.1.below hb,h.2⟩
theorem BufsAt.more (h:BufsAt S w v l) (hS:∀ b,S b→S' b):BufsAt S' w v l:=⟨h.1.more hS,h.2⟩
theorem BufsAt.lt (h:BufsAt S w v l):BufsAt (fun b=>S b∧b<w.heap.size) w v l:=⟨h.1.lt (by omega),h.2⟩
theorem BufsAt.form (h:BufsAt S w v l):∃ A cap,v=.slice A l.length cap∧l.length≤cap∧cap≤maxLen:=h.1.form
theorem BufsAt.at_ {A:Option Addr} {n cap:Nat} (h:BufsAt S w (.slice A n cap) l) (hn:0<l.length) :
  ∃ b off,A=some ⟨b,off,none⟩∧S b∧b<w.heap.size∧∀ i x,l[i]?=some x→BfOk x ∧
   w.cell? ⟨b,off+i * 4,none⟩=some (.int .i64 x.pos)∧w.cell? ⟨b,off+i * 4+1,none⟩=some (.string x.data)∧w.cell? ⟨b,off+i * 4+2,none⟩=some (.bool x.dirty) ∧
   w.cell? ⟨b,off+i * 4+3,none⟩=some (.int .i64 x.used):=by
 have he:n=l.length:=by obtain ⟨_,_,e,_⟩:=h.1.form; injection e
 subst he
 obtain ⟨b,off,e,hS,hlt,hc⟩:=h.1.at_ hn (by omega)
 refine ⟨b,off,e,hS,hlt,fun i x hi=>?_⟩
 have hg:=fun j hj=>flatB_get l i j x hi hj
 refine ⟨h.2 x (List.mem_of_getElem? hi),?_,?_,?_,?_⟩
 ·exact hc (i * 4+0) _ ((hg 0 (by omega)).trans rfl)
 ·have:=hc (i * 4+1) _ ((hg 1 (by omega)).trans rfl); rwa [← Nat.add_assoc] at this
 ·have:=hc (i * 4+2) _ ((hg 2 (by omega)).trans rfl); rwa [← Nat.add_assoc] at this
 ·have:=hc (i * 4+3) _ ((hg 3 (by omega)).trans rfl); rwa [← Nat.add_assoc] at this
theorem BufsAt.nil:BufsAt S w (.slice none 0 0) []:=⟨Rd.nil,by simp⟩
end
theorem ownB_setCell {w:World} {base g n cap size j:Nat} {e:TypeId} {xs:List Value} {v:Value} (h:w.ownsRow base e size (.slice (some ⟨g,0,none⟩) n cap) n xs) (hj:j<n * size) :
  (w.setCell ⟨g,j,none⟩ v).ownsRow base e size (.slice (some ⟨g,0,none⟩) n cap) n (xs.set j v):=by
 obtain ⟨h1,h2⟩:=h
 rcases h2 with ⟨h2,h3⟩ | ⟨g',cap',cur,hv,hb,hh,hnc,hcm,hcs,htake⟩
 ·cases h2
 ·cases hv
  refine ⟨by rw [List.length_set]; exact h1,.inr ⟨g,cap,cur.setIfInBounds j v,rfl,hb,?_,hnc,hcm,by simpa using hcs,?_⟩⟩
  ·exact heap_setCell_same _ _ _ _ _ _ hh
  ·rw [← htake,Array.toList_setIfInBounds,List.take_set]
theorem own_frozen {w:World} {base g n cap size:Nat} {e:TypeId} {xs:List Value} (h:w.ownsRow base e size (.slice (some ⟨g,0,none⟩) n cap) n xs) (hn:0<n) (j:Nat):w.frozen? ⟨g,j,none⟩=false:=by
 obtain ⟨h1,h2⟩:=h
 rcases h2 with ⟨h2,h3⟩ | ⟨g',cap',cur,hv,hb,hh,hnc,hcm,hcs,htake⟩
 ·omega
 ·cases hv; exact frozen_of_row _ _ _ _ _ hh
theorem ownB_row {w:World} {base g n cap size:Nat} {e:TypeId} {xs:List Value} (h:w.ownsRow base e size (.slice (some ⟨g,0,none⟩) n cap) n xs) (hn:0<n) :
  ∃ cur,w.heap[g]?=some (.cells cur e (0,0))∧base≤g∧n≤cap∧cap≤maxLen∧cur.size=cap * size∧cur.toList.take (n * size)=xs:=by
 obtain ⟨h1,h2⟩:=h
 rcases h2 with ⟨h2,h3⟩ | ⟨g',cap',cur,hv,hb,hh,hnc,hcm,hcs,htake⟩
 ·omega
 ·cases hv; exact ⟨cur,hh,hb,hnc,hcm,hcs,htake⟩
theorem own_pos {w:World} {base n size:Nat} {e:TypeId} {v:Value} {xs:List Value} (h:w.ownsRow base e size v n xs) (hn:0<n) :
  ∃ g cap,v=.slice (some ⟨g,0,none⟩) n cap∧base≤g∧g<w.heap.size∧n≤cap∧cap≤9223372036854775807:=by
 rcases h.2 with ⟨_,h0⟩ | ⟨g,cap,cur,hv,hb,hh,h3,h4,_⟩
 ·omega
 ·subst hv
  unfold maxLen at h4
  exact ⟨g,cap,rfl,hb,(h.lt g rfl).2,h3,by omega⟩
theorem own_stays {w w':World} {base n size:Nat} {e:TypeId} {v:Value} {xs:List Value} (h:w.ownsRow base e size v n xs) (hk:∀ g,v.ownBlock=some g→w'.heap[g]?=w.heap[g]?):w'.ownsRow base e size v n xs:=by
 refine ⟨h.1,?_⟩
 rcases h.2 with h2 | ⟨g',cap',cur,hv,hb,hh,h3⟩
 ·exact .inl h2
 ·subst hv
  exact .inr ⟨g',cap',cur,rfl,hb,(hk g' rfl).trans hh,h3⟩
theorem own_below {w w':World} {base n size:Nat} {e:TypeId} {v:Value} {xs:List Value} (h:w.ownsRow base e size v n xs) (hb:Below w.heap.size w w'):w'.ownsRow base e size v n xs :=
 own_stays h fun g hg=>hb.block g (h.lt g hg).2
theorem flatB_set {l:List Bf} {i:Nat} (hi:i<l.length) (c:Bf):((((flatB l).set (i * 4) (.int .i64 c.pos)).set (i * 4+1) (.string c.data)).set (i * 4+2) (.bool c.dirty)).set (i * 4+3) (.int .i64 c.used)=flatB (l.set i c):=by
 have hx:l[i]?=some l[i]:=List.getElem?_eq_getElem hi
 generalize l[i]=b at hx
 obtain ⟨p,d,y,u⟩:=b
 have s1:=flatB_set1 (c:=⟨c.pos,d,y,u⟩) hx 0 (by omega) (.int .i64 c.pos) rfl
 have e1:(l.set i ⟨c.pos,d,y,u⟩)[i]?=some ⟨c.pos,d,y,u⟩:=by rw [List.getElem?_set,if_pos rfl,if_pos hi]
 have s2:=flatB_set1 (c:=⟨c.pos,c.data,y,u⟩) e1 1 (by omega) (.string c.data) rfl
 rw [List.set_set] at s2
 have e2:(l.set i ⟨c.pos,c.data,y,u⟩)[i]?=some ⟨c.pos,c.data,y,u⟩:=by rw [List.getElem?_set,if_pos rfl,if_pos hi]
 have s3:=flatB_set1 (c:=⟨c.pos,c.data,c.dirty,u⟩) e2 2 (by omega) (.bool c.dirty) rfl
 rw [List.set_set] at s3
 have e3:(l.set i ⟨c.pos,c.data,c.dirty,u⟩)[i]?=some ⟨c.pos,c.data,c.dirty,u⟩:=by rw [List.getElem?_set,if_pos rfl,if_pos hi]
 have s4:=flatB_set1 (c:=c) e3 3 (by omega) (.int .i64 c.used) rfl
 rw [List.set_set] at s4
 rw [Nat.add_zero] at s1
 rw [s1,s2,s3,s4]
end Go.Proofs.YtaeadmlgffaegaaGreatDoor
namespace Go.Proofs.YtaeadmlgffaegaaGreatDoor
open Go.RowKit
structure Tys where
 S:TypeId
 A:TypeId
 D:TypeId
 P:TypeId
 V:TypeId
def Im (w:World) (col:Nat→Nat):Nat→Prop:=fun k=>k<w.heap.size∧col k=0
def Fl (col:Nat→Nat):Nat→Prop:=fun k=>col k≠0∧col k≠9
def Fd (col:Nat→Nat):Nat→Prop:=fun k=>col k=4
def Fa (col:Nat→Nat) (c:Nat):Nat→Prop:=fun k=>col k=5+c
structure Sv where
 bv:Nat
 bt:Nat
 n:Nat
 bufs:Value
 wait:Value
 a0:Value
 a1:Value
 a2:Value
 d0:ByteArray
 d1:ByteArray
 d2:ByteArray
 e0:Nat
 e1:Nat
 e2:Nat
def Sv.av (x:Sv):Nat→Value
 |0=>x.a0
 |1=>x.a1
 |_=>x.a2
def Sv.row (x:Sv) (s:St) (bd:Nat):Array Value :=
 #[.pointer (some ⟨bd,0,none⟩),.pointer (some ⟨x.bv,0,none⟩),x.bufs,x.wait,.bool s.turn.write,.int .i64 s.turn.gone,.int .i64 s.turn.starved,.int .i64 s.turn.wh,.int .i64 s.now,.int .i64 s.use,.int .i64 s.tag,
  x.a0,x.a1,x.a2,.string x.d0,.string x.d1,.string x.d2,.int .i64 (x.e0:Int),.int .i64 (x.e1:Int),.int .i64 (x.e2:Int),.bool s.dead]
def AskAt (TA:TypeId) (F:Nat→Prop) (w:World) (v:Value):Option Ak→Prop
 |none=>v=.pointer none
 |some a=>∃ (ba:Nat) (lv:Value),v=.pointer (some ⟨ba,0,none⟩)∧F ba∧w.heap[ba]?=some (.cells #[.int .i64 a.kind,.int .i64 a.pos,.string a.data,lv] TA (0,0))∧Ow F w 3 1 lv a.left.length (a.left.map (.int .i64))
structure StAt (T:Tys) (col:Nat→Nat) (w:World) (b bd N:Nat) (x:Sv) (s:St):Prop where
 row:w.heap[b]?=some (.cells (x.row s bd) T.S (0,0))
 drv:DrvAt T.D T.P T.V (Im w col) (Fd col) w x.bv bd x.bt x.n s.v
 n:x.n≤N
 bufs:BufsAt (Im w col) w x.bufs s.bufs
 wait:ReqsAt (Im w col) w x.wait s.wait
 asks:s.asks.length=3
 ask:∀ c,c<3→AskAt T.A (Fa col c) w (x.av c) (s.askAt c)
 done:s.done=[x.d0,x.d1,x.d2]
 errs:s.errs=[x.e0,x.e1,x.e2]
 cb:col b=1
 cv:col x.bv=2
 ct:col x.bt=3
 lt:∀ k,col k≠0→k<w.heap.size
section
variable {T:Tys} {col col':Nat→Nat} {w w':World} {b bd N:Nat} {x:Sv} {s:St}
theorem DrvAt.more {TD TP TV:TypeId} {S S' F:Nat→Prop} {bv bt n:Nat} {v:Drv} (h:DrvAt TD TP TV S F w bv bd bt n v) (hs:∀ k,S k→S' k) (hn:∀ k,S' k→k≠bv∧k≠bt):DrvAt TD TP TV S' F w bv bd bt n v :=
 ⟨h.row,h.map,h.dev.more hs,h.nv,h.nt,hn⟩
theorem Im.step (hs:w.heap.size≤w'.heap.size):∀ k,Im w col k→Im w' col k:=fun k h=>⟨Nat.lt_of_lt_of_le h.1 hs,h.2⟩
theorem StAt.nv (h:StAt T col w b bd N x s):∀ k,Im w' col k→k≠x.bv∧k≠x.bt:=fun k hk=>⟨fun e=>(by have:=hk.2; rw [e,h.cv] at this; cases this),fun e=>(by have:=hk.2; rw [e,h.ct] at this; cases this)⟩
theorem AskAt.keep {TA:TypeId} {F:Nat→Prop} {v:Value} {o:Option Ak} (h:AskAt TA F w v o) (hk:∀ k,F k→k<w.heap.size→w'.heap[k]?=w.heap[k]?):AskAt TA F w' v o:=by
 cases o with
 |none=>exact h
 |some a =>
  obtain ⟨ba,lv,h1,h2,h3,h4⟩:=h
  exact ⟨ba,lv,h1,h2,(hk ba h2 (Array.getElem?_eq_some_iff.1 h3).1).trans h3,h4.keep hk⟩
theorem StAt.below (h:StAt T col w b bd N x s) (hb:Below w.heap.size w w'):StAt T col w' b bd N x s :=
 ⟨(hb.block _ (Array.getElem?_eq_some_iff.1 h.row).1).trans h.row,(h.drv.below hb).more (Im.step hb.size) h.nv,h.n,(h.bufs.below hb).more (Im.step hb.size),(h.wait.below hb).more (Im.step hb.size),h.asks,
  fun c hc=>(h.ask c hc).keep (fun k _ hk=>hb.block k hk),h.done,h.errs,h.cb,h.cv,h.ct,fun k hk=>Nat.lt_of_lt_of_le (h.lt k hk) hb.size⟩
theorem StAt.bl (h:StAt T col w b bd N x s):b<w.heap.size:=h.lt b (by rw [h.cb]; decide)
structure Same1 (b:Nat) (w w':World):Prop where
 os:w'.os=w.os
 tape:w'.tape=w.tape
 output:w'.output=w.output
 size:w'.heap.size=w.heap.size
 block:∀ k,k≠b→w'.heap[k]?=w.heap[k]?
theorem Same1.refl:Same1 b w w:=⟨rfl,rfl,rfl,rfl,fun _ _=>rfl⟩
theorem Same1.setCell {w0:World} (h:Same1 b w0 w) (k:Nat) (v:Value):Same1 b w0 (w.setCell ⟨b,k,none⟩ v) :=
 ⟨h.os,h.tape,h.output,by rw [← h.size]; simp [World.setCell],fun j hj=>(Below.heap_setCell _ _ _ _ (by simpa using hj)).trans (h.block j hj)⟩
theorem Same1.drew {w0:World} (h:Same1 b w0 w):Same1 b w0 w.drew:=⟨h.os,h.tape,h.output,h.size,h.block⟩
theorem Same1.chg {F:Nat→Prop} (h:Same1 b w w') (hb:F b):Chg F w w':=⟨h.os,h.tape,h.output,by rw [h.size]; exact Nat.le_refl _,fun k _ hn=>h.block k (fun e=>hn (e▸hb))⟩
theorem StAt.drv1 (h:StAt T col w b bd N x s) (hb:Same1 b w w'):DrvAt T.D T.P T.V (Im w' col) (Fd col) w' x.bv bd x.bt x.n s.v:=by
 obtain ⟨f,hf,hv⟩:=h.drv.map
 have hk:∀ k,col k≠1→w'.heap[k]?=w.heap[k]?:=fun k hk=>hb.block k (fun e=>hk (e▸h.cb))
 refine ⟨(hk _ (by rw [h.cv]; decide)).trans h.drv.row,⟨f,hf.keep (hk _ (by rw [h.ct]; decide)),hv⟩,?_,h.drv.nv,h.drv.nt,h.nv⟩
 exact (h.drv.dev.keep (fun k hf _=>hk k (by rw [show col k=4 from hf]; decide)) (fun k hs _=>hk k (by rw [hs.2]; decide))).more (Im.step (by rw [hb.size]; exact Nat.le_refl _))
theorem StAt.bufs1 {v:Value} {l:List Bf} (h:StAt T col w b bd N x s) (hb:Same1 b w w') (hv:BufsAt (Im w col) w v l):BufsAt (Im w' col) w' v l :=
 (hv.keep (fun k hs _=>hb.block k (fun e=>by have:=hs.2; rw [e,h.cb] at this; cases this))).more (Im.step (by rw [hb.size]; exact Nat.le_refl _))
theorem StAt.wait1 {v:Value} {l:List Rq} (h:StAt T col w b bd N x s) (hb:Same1 b w w') (hv:ReqsAt (Im w col) w v l):ReqsAt (Im w' col) w' v l :=
 (hv.keep (fun k hs _=>hb.block k (fun e=>by have:=hs.2; rw [e,h.cb] at this; cases this))).more (Im.step (by rw [hb.size]; exact Nat.le_refl _))
theorem StAt.ask1 {c:Nat} {v:Value} {o:Option Ak} (h:StAt T col w b bd N x s) (hb:Same1 b w w') (hv:AskAt T.A (Fa col c) w v o):AskAt T.A (Fa col c) w' v o :=
 hv.keep (fun k hs _=>hb.block k (fun e=>by have:col k=5+c:=hs; rw [e,h.cb] at this; omega))
theorem StAt.lt1 (h:StAt T col w b bd N x s) (hb:Same1 b w w'):∀ k,col k≠0→k<w'.heap.size:=fun k hk=>by rw [hb.size]; exact h.lt k hk
theorem StAt.turn1 {y:Sv} {t:St} (h:StAt T col w b bd N x s) (hb:Same1 b w w') (hrow:w'.heap[b]?=some (.cells (y.row t bd) T.S (0,0))) (hv:y.bv=x.bv) (ht:y.bt=x.bt) (hn:y.n=x.n) (hd:t.v=s.v)
  (hbufs:BufsAt (Im w col) w y.bufs t.bufs) (hwait:ReqsAt (Im w col) w y.wait t.wait) (ha3:t.asks.length=3) (hask:∀ c,c<3→AskAt T.A (Fa col c) w (y.av c) (t.askAt c)) (hdone:t.done=[y.d0,y.d1,y.d2]) (herrs:t.errs=[y.e0,y.e1,y.e2]) :
  StAt T col w' b bd N y t :=
 ⟨hrow,by rw [hv,ht,hn,hd]; exact h.drv1 hb,by rw [hn]; exact h.n,h.bufs1 hb hbufs,h.wait1 hb hwait,ha3,fun c hc=>h.ask1 hb (hask c hc),hdone,herrs,h.cb,by rw [hv]; exact h.cv,by rw [ht]; exact h.ct,h.lt1 hb⟩
theorem StAt.cell (h:StAt T col w b bd N x s) (k:Nat):w.cell? ⟨b,k,none⟩=(x.row s bd)[k]?:=cell_of_row _ _ k _ _ _ h.row
theorem StAt.frozen (h:StAt T col w b bd N x s) (k:Nat):w.frozen? ⟨b,k,none⟩=false:=frozen_of_row _ _ k _ _ h.row
end
abbrev Ts:Tys:=⟨102,109,TDp,TPp,TVp⟩
end Go.Proofs.YtaeadmlgffaegaaGreatDoor
namespace Go.Proofs.YtaeadmlgffaegaaGreatDoor
open Go.RowKit
theorem isnan_any (x:Int) (w:World):Calls Tryz.prog 153 #[.int .i64 x] w (RetSame (.bool false) w):=by
 go_enter Tryz.func153,Tryz.ntmps153
 go_wp2
 go_ret
 exact ⟨by simp,rfl⟩
def cmpI (a b:Int):Int:=if a<b then -1 else if b<a then 1 else 0
theorem compare_any (a b:Int) (w:World):Calls Tryz.prog 137 #[.int .i64 a,.int .i64 b] w (RetSame (.int .i64 (cmpI a b)) w):=by
 by_cases h1:a<b
 ·have e:cmpI a b = -1:=if_pos h1
  rw [e]
  clear e
  go_enter Tryz.func137,Tryz.ntmps137
  go_wp2_with (go_at_call 153; refine (isnan_any _ _).mono ?_; rintro e w1 ⟨rfl,rfl⟩)
  go_ret
  exact ⟨rfl,rfl⟩
 ·by_cases h2:b<a
  ·have e:cmpI a b=1:=by unfold cmpI; rw [if_neg h1,if_pos h2]
   rw [e]
   clear e
   go_enter Tryz.func137,Tryz.ntmps137
   go_wp2_with (go_at_call 153; refine (isnan_any _ _).mono ?_; rintro e w1 ⟨rfl,rfl⟩)
   go_ret
   exact ⟨rfl,rfl⟩
  ·have e:cmpI a b=0:=by unfold cmpI; rw [if_neg h1,if_neg h2]
   rw [e]
   clear e
   go_enter Tryz.func137,Tryz.ntmps137
   go_wp2_with (go_at_call 153; refine (isnan_any _ _).mono ?_; rintro e w1 ⟨rfl,rfl⟩)
   go_ret
   exact ⟨rfl,rfl⟩
theorem find1_any (b:Bf) (p:Int) (w:World):Calls Tryz.prog 136 #[bfV b,.int .i64 p] w (Ret (.int .i64 (cmpI b.pos p)) w):=by
 go_enter Tryz.func136,Tryz.ntmps136
 go_wp2_with (go_at_call 137; refine (compare_any _ _ _).mono ?_; rintro e w1 ⟨rfl,rfl⟩)
 go_ret
 exact ⟨rfl,(Below.refl _ _).alloc (Nat.le_refl _) _⟩
theorem bsearch_any (S:Nat→Prop) (l:List Bf) (v:Value) (p:Int) (w:World) (h:BufsAt S w v l) (hr:Rises l) (hn:l.length≤65536) :
  Calls Tryz.prog 135 #[v,.int .i64 p,.func (.func 136) #[] #[]] w (Ret (.tuple #[.int .i64 (posB l p:Nat),.bool (isB l p)]) w):=by
 obtain ⟨A,cap,rfl,h1,h2⟩:=h.form
 unfold maxLen at h2
 have H:=Lib.hid h
 have HR:=Lib.hid hr
 clear h hr
 obtain ⟨P,hP⟩:∃ x,posB l p=x:=⟨_,rfl⟩
 obtain ⟨B,hB⟩:∃ x,isB l p=x:=⟨_,rfl⟩
 rw [hP,hB]
 have HP:=Lib.hid hP
 have HB:=Lib.hid hB
 clear hP hB
 go_enter Tryz.func135,Tryz.ntmps135
 go_wp2
 go_loopw [9,10] (fun s9 s10 wr=>∃ lo hi:Nat,s9=.int .i64 lo∧s10=.int .i64 hi∧lo≤hi∧hi≤l.length∧Below w.heap.size w wr∧Hid ((∀ i b,i<lo→l[i]?=some b→b.pos<p)∧(∀ i b,hi≤i→l[i]?=some b→p≤b.pos))) (fun s9 s10 _=>(intOf s10).toNat - (intOf s9).toNat)
 case atStart=>exact ⟨0,l.length,rfl,rfl,by omega,by omega,Below.refl _ _,⟨fun i b hi=>by omega,fun i b hi hb=>by rw [List.getElem?_eq_none hi] at hb; cases hb⟩⟩
 case round =>
  obtain ⟨lo,hi,rfl,rfl,hlh,hhn,hb,hI⟩:=hrel
  by_cases hlt:lo<hi
  ·obtain ⟨b,off,rfl,_,hbl,hc⟩:=(H.out.below hb).at_ (by omega)
   have hx:l[(lo+hi) / 2]?=some l[(lo+hi) / 2]:=List.getElem?_eq_getElem (by omega)
   obtain ⟨hok,k0,k1,k2,k3⟩:=hc _ _ hx
   have Hx:=Lib.hid hx
   clear hx hc
   generalize l[(lo+hi) / 2]=x at *
   have hi1:((lo:Int)+(hi:Int)) / 2<(l.length:Int):=by omega
   by_cases hcx:x.pos<p
   ·have hc1:cmpI x.pos p = -1:=if_pos hcx
    go_wp2_with (go_at_call 136; refine (find1_any x p _).mono ?_; rintro e w1 ⟨rfl,hb1⟩; have hb2:=hb.trans (hb1.mono hb.size))
    go_roundw
    case rel=>exact ⟨(lo+hi) / 2+1,hi,by go_num,rfl,by omega,hhn,hb2,⟨fun i c hi2 hc2=>by
     rcases Nat.eq_or_lt_of_le (Nat.le_of_lt_succ hi2) with e | e
     ·subst e; rw [Hx.out] at hc2; cases hc2; exact hcx
     ·have:=HR.out.lt e hc2 Hx.out; omega,hI.out.2⟩⟩
    case measure=>simp [intOf]; omega
   ·have hc1:0≤cmpI x.pos p:=by unfold cmpI; rw [if_neg hcx]; split <;> omega
    go_wp2_with (go_at_call 136; refine (find1_any x p _).mono ?_; rintro e w1 ⟨rfl,hb1⟩; have hb2:=hb.trans (hb1.mono hb.size))
    go_roundw
    case rel=>exact ⟨lo,(lo+hi) / 2,rfl,by go_num,by omega,by omega,hb2,⟨hI.out.1,fun i c hi2 hc2=>by
     rcases Nat.eq_or_lt_of_le hi2 with e | e
     ·subst e; rw [Hx.out] at hc2; cases hc2; omega
     ·have:=HR.out.lt e Hx.out hc2; omega⟩⟩
    case measure=>simp [intOf]; omega
  ·obtain rfl:lo=hi:=by omega
   have e:P=lo:=HP.out.symm.trans (posB_eq HR.out hhn hI.out.1 hI.out.2)
   have e2:=HB.out.symm.trans (isB_pos (p:=p) HR.out)
   rw [HP.out] at e2
   subst e
   by_cases hln:P<l.length
   ·obtain ⟨b,off,rfl,_,hbl,hc⟩:=(H.out.below hb).at_ (by omega)
    have hx:l[P]?=some l[P]:=List.getElem?_eq_getElem hln
    obtain ⟨hok,k0,k1,k2,k3⟩:=hc _ _ hx
    rw [List.getD_eq_getElem?_getD,hx] at e2
    clear hx hc
    simp only [Option.getD_some] at e2
    generalize l[P]=x at *
    have E2:=Lib.hid e2
    clear e2
    have hi1:(P:Int)<(l.length:Int):=by omega
    go_wp2_with (go_at_call 136; refine (find1_any x p _).mono ?_; rintro e w1 ⟨rfl,hb1⟩; have hb2:=hb.trans (hb1.mono hb.size))
    go_ret2
    refine ⟨?_,hb2⟩
    rw [E2.out]
    simp [hln]
    unfold cmpI
    split
    ·simp; omega
    ·split
     ·simp; omega
     ·simp; omega
   ·have E2:=Lib.hid e2
    clear e2
    have hi1:decide ((P:Int)<(l.length:Int))=false:=by simp; omega
    go_wp2
    go_ret2
    exact ⟨by rw [E2.out]; simp [hln],hb⟩
theorem find_any (S:Nat→Prop) (l:List Bf) (v:Value) (p:Int) (w:World) (h:BufsAt S w v l) (hr:Rises l) (hn:l.length≤65536) :
  Calls Tryz.prog 102 #[v,.int .i64 p] w (Ret (.tuple #[.int .i64 (posB l p:Nat),.bool (isB l p)]) w):=by
 obtain ⟨A,cap,rfl,h1,h2⟩:=h.form
 have H:=Lib.hid h
 have HR:=Lib.hid hr
 clear h hr
 go_enter Tryz.func102,Tryz.ntmps102
 go_wp2_with (go_at_call 135; refine (bsearch_any S l _ p _ H.out HR.out hn).mono ?_; rintro e w1 ⟨rfl,hb1⟩)
 go_ret2
 exact ⟨rfl,hb1⟩
end Go.Proofs.YtaeadmlgffaegaaGreatDoor
namespace Go.Proofs.YtaeadmlgffaegaaGreatDoor
open Go.RowKit
theorem zero_buf:∀ w,(zeroValue 111).run Tryz.prog w=.ok (.agg #[.int .i64 0,.string ⟨#[]⟩,.bool false,.int .i64 0]) w:=fun _=>by kernel_rfl
theorem Lay.c4 {w wr:World} {l:List (Nat × TypeId × Array Value)} (h:Lay w wr l) (i:Nat) {b:Nat} {T:TypeId} {c0 c1 c2 c3:Value} (hi:l[i]?=some (b,T,#[c0,c1,c2,c3])) :
  wr.cell? ⟨b,0,none⟩=some c0∧wr.cell? ⟨b,1,none⟩=some c1∧wr.cell? ⟨b,2,none⟩=some c2∧wr.cell? ⟨b,3,none⟩=some c3:=⟨h.cell i hi 0,h.cell i hi 1,h.cell i hi 2,h.cell i hi 3⟩
theorem Lay.put4 {w wr:World} {l:List (Nat × TypeId × Array Value)} (h:Lay w wr l) (i:Nat) {b:Nat} {T:TypeId} {c0 c1 c2 c3:Value} (hi:l[i]?=some (b,T,#[c0,c1,c2,c3])) (v0 v1 v2 v3:Value) :
  Lay w ((((wr.setCell ⟨b,0,none⟩ v0).setCell ⟨b,1,none⟩ v1).setCell ⟨b,2,none⟩ v2).setCell ⟨b,3,none⟩ v3) (l.set i (b,T,#[v0,v1,v2,v3])):=by
 have hlt:i<l.length:=(List.getElem?_eq_some_iff.1 hi).1
 have g0:=h.set i hi 0 v0
 have g1:=g0.set i (by rw [List.getElem?_set,if_pos rfl,if_pos hlt]) 1 v1
 have g2:=g1.set i (by rw [List.getElem?_set,if_pos rfl,if_pos (by simpa using hlt)]) 2 v2
 have g3:=g2.set i (by rw [List.getElem?_set,if_pos rfl,if_pos (by simpa using hlt)]) 3 v3
 simpa [List.set_set] using g3
theorem get_any (S:Nat→Prop) (l:List Bf) (v:Value) (p:Int) (w:World) (h:BufsAt S w v l) (hr:Rises l) (hn:l.length≤65536) :
  Calls Tryz.prog 59 #[v,.int .i64 p] w (Ret (.tuple #[bfV (getB l p).1,.bool (getB l p).2]) w):=by
 obtain ⟨A,cap,rfl,h1,h2⟩:=h.form
 unfold maxLen at h2
 have hz:=zero_buf
 have H:=Lib.hid h
 have HR:=Lib.hid hr
 clear h hr
 cases hi:isB l p with
 |false =>
  rw [getB_no hi]
  go_enter Tryz.func59,Tryz.ntmps59
  go_wp2_with fail
  have L:=(Lay.refl w).alloc' w.heap.size #[.int .i64 0,.string ⟨#[]⟩,.bool false,.int .i64 0] 111 rfl
  generalize World.alloc _ _=W at L ⊢
  refine (find_any S l _ p _ (H.out.below L.below) HR.out hn).mono ?_
  rintro e w1 ⟨rfl,hb1⟩
  have L1:=L.step hb1
  rw [hi]
  obtain ⟨q0,q1,q2,q3⟩:=L1.c4 0 rfl
  have hfr:=L1.frozen 0 rfl
  clear hb1 L
  go_wp2_with fail
  have L2:=L1.put4 0 rfl (.int .i64 0) (.string ⟨#[]⟩) (.bool false) (.int .i64 0)
  generalize World.setCell _ _ _=W2 at L2 ⊢
  obtain ⟨q0,q1,q2,q3⟩:=L2.c4 0 rfl
  refine bodyPost_ret (v:=.tuple #[bfV zeroBf,.bool false]) (by simp [results,Tryz.results59,go_sem,q0,q1,q2,q3,zeroBf]) rfl ?_
  exact ⟨rfl,L2.below⟩
 |true =>
  obtain ⟨x,hx,hp⟩:=isB_at HR.out hi
  rw [getB_of HR.out hx hp]
  have hlt:=(List.getElem?_eq_some_iff.1 hx).1
  have hi1:((posB l p:Nat):Int)<(l.length:Int):=by omega
  have Hx:=Lib.hid hx
  clear hx hp
  go_enter Tryz.func59,Tryz.ntmps59
  go_wp2_with fail
  have L:=(Lay.refl w).alloc' w.heap.size #[.int .i64 0,.string ⟨#[]⟩,.bool false,.int .i64 0] 111 rfl
  generalize World.alloc _ _=W at L ⊢
  refine (find_any S l _ p _ (H.out.below L.below) HR.out hn).mono ?_
  rintro e w1 ⟨rfl,hb1⟩
  have L1:=L.step hb1
  rw [hi]
  obtain ⟨q0,q1,q2,q3⟩:=L1.c4 0 rfl
  have hfr:=L1.frozen 0 rfl
  obtain ⟨b,off,rfl,_,hbl,hc⟩:=(H.out.below L1.below).at_ (by omega)
  obtain ⟨hok,k0,k1,k2,k3⟩:=hc _ _ Hx.out
  clear hb1 L hc
  go_wp2_with fail
  have L2:=L1.put4 0 rfl (.int .i64 x.pos) (.string x.data) (.bool x.dirty) (.int .i64 x.used)
  generalize World.setCell _ _ _=W2 at L2 ⊢
  obtain ⟨q0,q1,q2,q3⟩:=L2.c4 0 rfl
  refine bodyPost_ret (v:=.tuple #[bfV x,.bool true]) (by simp [results,Tryz.results59,go_sem,q0,q1,q2,q3]) rfl ?_
  exact ⟨rfl,L2.below⟩
end Go.Proofs.YtaeadmlgffaegaaGreatDoor
namespace Go.Proofs.YtaeadmlgffaegaaGreatDoor
open Go.RowKit
theorem rget_any (S:Nat→Prop) (l:List Bf) (v:Value) (p:Int) (w:World) (h:BufsAt S w v l) (hr:Rises l) (hn:l.length≤65536) :
  Calls Tryz.prog 81 #[v,.int .i64 p] w (Ret (.tuple #[bfV (getB l p).1,.bool (getB l p).2]) w):=by
 obtain ⟨A,cap,rfl,h1,h2⟩:=h.form
 unfold maxLen at h2
 have hz:=zero_buf
 have H:=Lib.hid h
 have HR:=Lib.hid hr
 clear h hr
 obtain ⟨⟨g,G⟩,hG⟩:∃ x,getB l p=x:=⟨_,rfl⟩
 rw [hG]
 have HG:=Lib.hid hG
 clear hG
 go_enter Tryz.func81,Tryz.ntmps81
 go_wp2_with fail
 have L:=Lib.hid ((Lay.refl w).alloc' w.heap.size #[.int .i64 0,.string ⟨#[]⟩,.bool false,.int .i64 0] 111 rfl)
 generalize World.alloc _ _=W at L ⊢
 go_loopw [6] (fun i wr=>∃ k:Nat,k≤l.length∧i=.int .i64 k∧Hid (Lay w wr [(w.heap.size,111,#[.int .i64 0,.string ⟨#[]⟩,.bool false,.int .i64 0])])∧Hid (∀ j b,j<k→l[j]?=some b→b.pos≠p)) (fun i _=>l.length - (intOf i).toNat)
 case atStart=>exact ⟨0,by omega,rfl,L,(fun j b hj=>by omega:∀ j b,j<0→l[j]?=some b→b.pos≠p)⟩
 case round =>
  obtain ⟨k,hk,rfl,HL,hno⟩:=hrel
  obtain ⟨q0,q1,q2,q3⟩:=HL.out.c4 0 rfl
  have hfr:=HL.out.frozen 0 rfl
  by_cases hlt:k<l.length
  ·have hx:l[k]?=some l[k]:=List.getElem?_eq_getElem hlt
   have hi1:(k:Int)<(l.length:Int):=by omega
   obtain ⟨b,off,rfl,_,hbl,hc⟩:=(H.out.below HL.out.below).at_ (by omega)
   obtain ⟨hok,k0,k1,k2,k3⟩:=hc _ _ hx
   have Hx:=Lib.hid hx
   clear hx hc
   generalize l[k]=x at *
   by_cases hp:x.pos=p
   ·have hG:=HG.out
    rw [getB_of HR.out Hx.out hp] at hG
    obtain ⟨e1,e2⟩:=Prod.mk.inj hG
    subst e1 e2
    clear hG
    subst hp
    go_wp2_with fail
    have L2:=HL.out.put4 0 rfl (.int .i64 x.pos) (.string x.data) (.bool x.dirty) (.int .i64 x.used)
    generalize World.setCell _ _ _=W2 at L2 ⊢
    obtain ⟨q0,q1,q2,q3⟩:=L2.c4 0 rfl
    refine bodyPost_ret (v:=.tuple #[bfV x,.bool true]) (by simp [results,Tryz.results81,go_sem,q0,q1,q2,q3]) rfl ?_
    exact ⟨rfl,L2.below⟩
   ·go_wp2_with fail
    go_roundw
    case rel=>exact ⟨k+1,by omega,by go_num,HL,(fun j b hj hb=>by
     rcases Nat.eq_or_lt_of_le (Nat.le_of_lt_succ hj) with e | e
     ·subst e; rw [Hx.out] at hb; cases hb; exact hp
     ·exact hno.out j b e hb:∀ j b,j<k+1→l[j]?=some b→b.pos≠p)⟩
    case measure=>simp [intOf]; omega
  ·have hG:=HG.out
   rw [getB_no (isB_false.2 (fun b hb=>by
    obtain ⟨j,hj⟩:=List.mem_iff_getElem?.1 hb
    exact hno.out j b (by have:=(List.getElem?_eq_some_iff.1 hj).1; omega) hj))] at hG
   cases hG
   have hi1:decide ((k:Int)<(l.length:Int))=false:=by simp; omega
   go_wp2_with fail
   have L2:=HL.out.put4 0 rfl (.int .i64 0) (.string ⟨#[]⟩) (.bool false) (.int .i64 0)
   generalize World.setCell _ _ _=W2 at L2 ⊢
   obtain ⟨q0,q1,q2,q3⟩:=L2.c4 0 rfl
   refine bodyPost_ret (v:=.tuple #[bfV zeroBf,.bool false]) (by simp [results,Tryz.results81,go_sem,q0,q1,q2,q3,zeroBf]) rfl ?_
   exact ⟨rfl,L2.below⟩
theorem dirtyB_succ {l:List Bf} {k:Nat} {x:Bf} (h:l[k]?=some x):dirtyB (l.take (k+1))=dirtyB (l.take k)+if x.dirty then 1 else 0:=by
 unfold dirtyB
 rw [List.take_add_one,h,List.countP_append]
 simp [List.countP_cons]
theorem dirty_any (S:Nat→Prop) (l:List Bf) (v:Value) (w:World) (h:BufsAt S w v l) (hn:l.length≤65536) :
  Calls Tryz.prog 77 #[v] w (Ret (.int .i64 (dirtyB l:Nat)) w):=by
 obtain ⟨A,cap,rfl,h1,h2⟩:=h.form
 unfold maxLen at h2
 have hz:=zero_buf
 have H:=Lib.hid h
 clear h
 go_enter Tryz.func77,Tryz.ntmps77
 go_wp2_with fail
 go_loopw [3,8] (fun s i wr=>∃ k:Nat,k≤l.length∧i=.int .i64 k∧s=.int .i64 (dirtyB (l.take k):Nat)∧Below w.heap.size w wr) (fun _ i _=>l.length - (intOf i).toNat)
 case atStart=>exact ⟨0,by omega,rfl,rfl,Below.refl _ _⟩
 case round =>
  obtain ⟨k,hk,rfl,rfl,hb⟩:=hrel
  by_cases hlt:k<l.length
  ·have hx:l[k]?=some l[k]:=List.getElem?_eq_getElem hlt
   have hi1:(k:Int)<(l.length:Int):=by omega
   have hd:dirtyB (l.take k)≤k:=by unfold dirtyB; exact Nat.le_trans List.countP_le_length (by simp; omega)
   obtain ⟨b,off,rfl,_,hbl,hc⟩:=(H.out.below hb).at_ (by omega)
   obtain ⟨hok,k0,k1,k2,k3⟩:=hc _ _ hx
   have Hx:=Lib.hid hx
   clear hx hc
   generalize l[k]=x at *
   have HS:=Lib.hid (dirtyB_succ Hx.out)
   generalize dirtyB (l.take k)=D at *
   cases hxd:x.dirty with
   |true =>
    have hS:=HS.out
    rw [hxd,if_pos rfl] at hS
    rw [hxd] at k2
    go_wp2_with fail
    go_roundw
    case rel=>exact ⟨k+1,by omega,by go_num,by rw [hS]; go_num,hb.alloc hb.size _⟩
    case measure=>simp [intOf]; omega
   |false =>
    have hS:=HS.out
    rw [hxd,if_neg (by simp)] at hS
    rw [hxd] at k2
    go_wp2_with fail
    go_roundw
    case rel=>exact ⟨k+1,by omega,by go_num,by rw [hS]; go_num,hb.alloc hb.size _⟩
    case measure=>simp [intOf]; omega
  ·have e:l.take k=l:=List.take_of_length_le (by omega)
   rw [e]
   have hi1:decide ((k:Int)<(l.length:Int))=false:=by simp; omega
   go_wp2
   go_ret
   exact ⟨rfl,hb⟩
theorem rdirty_any (S:Nat→Prop) (l:List Bf) (v:Value) (w:World) (h:BufsAt S w v l) (hn:l.length≤65536) :
  Calls Tryz.prog 47 #[v] w (Ret (.int .i64 (dirtyB l:Nat)) w):=by
 obtain ⟨A,cap,rfl,h1,h2⟩:=h.form
 unfold maxLen at h2
 have H:=Lib.hid h
 clear h
 go_enter Tryz.func47,Tryz.ntmps47
 go_wp2_with fail
 go_loopw [3,4] (fun s i wr=>∃ k:Nat,k≤l.length∧i=.int .i64 k∧s=.int .i64 (dirtyB (l.take k):Nat)∧Below w.heap.size w wr) (fun _ i _=>l.length - (intOf i).toNat)
 case atStart=>exact ⟨0,by omega,rfl,rfl,Below.refl _ _⟩
 case round =>
  obtain ⟨k,hk,rfl,rfl,hb⟩:=hrel
  by_cases hlt:k<l.length
  ·have hx:l[k]?=some l[k]:=List.getElem?_eq_getElem hlt
   have hi1:(k:Int)<(l.length:Int):=by omega
   have hd:dirtyB (l.take k)≤k:=by unfold dirtyB; exact Nat.le_trans List.countP_le_length (by simp; omega)
   obtain ⟨b,off,rfl,_,hbl,hc⟩:=(H.out.below hb).at_ (by omega)
   obtain ⟨hok,k0,k1,k2,k3⟩:=hc _ _ hx
   have Hx:=Lib.hid hx
   clear hx hc
   generalize l[k]=x at *
   have HS:=Lib.hid (dirtyB_succ Hx.out)
   generalize dirtyB (l.take k)=D at *
   cases hxd:x.dirty with
   |true =>
    have hS:=HS.out
    rw [hxd,if_pos rfl] at hS
    rw [hxd] at k2
    go_wp2_with fail
    go_roundw
    case rel=>exact ⟨k+1,by omega,by go_num,by rw [hS]; go_num,hb⟩
    case measure=>simp [intOf]; omega
   |false =>
    have hS:=HS.out
    rw [hxd,if_neg (by simp)] at hS
    rw [hxd] at k2
    go_wp2_with fail
    go_roundw
    case rel=>exact ⟨k+1,by omega,by go_num,by rw [hS]; go_num,hb⟩
    case measure=>simp [intOf]; omega
  ·have e:l.take k=l:=List.take_of_length_le (by omega)
   rw [e]
   have hi1:decide ((k:Int)<(l.length:Int))=false:=by simp; omega
   go_wp2
   go_ret
   exact ⟨rfl,hb⟩
end Go.Proofs.YtaeadmlgffaegaaGreatDoor
