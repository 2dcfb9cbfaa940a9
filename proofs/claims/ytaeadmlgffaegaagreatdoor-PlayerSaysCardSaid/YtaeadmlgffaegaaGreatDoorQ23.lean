/- The stack's invariant, the rest: a request that ends, rounds; and how far the counters go. -/
import Derived.Test.YtaeadmlgffaegaaGreatDoorQ22
set_option linter.unusedSimpArgs false
set_option linter.unusedVariables false
set_option maxRecDepth 100000
set_option maxHeartbeats 8000000
namespace Go.Proofs.YtaeadmlgffaegaaGreatDoor
namespace St
def again (s:St) (k:Nat) (r:Rq):St:={ s with v:=⟨{ s.v.d with l:=s.v.d.l.eraseIdx k ++ [r] },upd s.v.tries (tagOf r) (s.v.tries (tagOf r)+1)⟩ }
def gone (s:St) (k:Nat) (r:Rq):St:={ s with v:=⟨s.v.d.drop k,upd s.v.tries (tagOf r) 0⟩ }
def did (s:St) (k:Nat) (r:Rq):St:={ s with v:=⟨(s.v.d.ended r k false).1,upd s.v.tries (tagOf r) 0⟩ }
def outs (s:St) (r:Rq):List ByteArray:=if r.write then r.data else s.v.d.reads r.lo.toNat r.many.toNat
theorem end_none (s:St) {i:Int} (f:Bool) (h:i<0∨(s.v.d.l.length:Int)≤i):s.end_ i f=(s,5):=by
 unfold St.end_
 rw [drvEndAt_none _ _ _ h]
 rfl
theorem start_again {d:Dv} {k:Nat} {r:Rq} (h:d.l[k]?=some r) (h2:d.l.length≤2):((d.drop k).start r).1={ d with l:=d.l.eraseIdx k ++ [r] }:=by
 have hk:=(List.getElem?_eq_some_iff.1 h).1
 have:(d.drop k).l.length≤1:=by unfold Dv.drop; rw [List.length_eraseIdx]; split <;> omega
 unfold Dv.start
 rw [if_neg (by omega)]
 rfl
theorem end_again {s:St} {k:Nat} {r:Rq} (h:s.v.d.l[k]?=some r) (h2:s.v.d.l.length≤2) (h3:s.v.tries (tagOf r)+1<3):s.end_ (k:Int) true=(s.again k r,0):=by
 unfold St.end_
 rw [drvEndAt_again _ _ _ h h2 h3]
 simp only [start_again h h2,if_true]
 rfl
theorem end_gone {s:St} {k:Nat} {r:Rq} (h:s.v.d.l[k]?=some r) (h3:¬ s.v.tries (tagOf r)+1<3):s.end_ (k:Int) true=(((s.gone k r).wrong r).serve,0):=by
 unfold St.end_
 rw [drvEndAt_gone _ _ _ h h3]
 rfl
theorem ended_res (d:Dv) (r:Rq) (k:Nat):(d.ended r k false).2=⟨r,if r.write then [] else d.reads r.lo.toNat r.many.toNat,0⟩:=by
 unfold Dv.ended
 rw [if_neg (by simp)]
 split <;> rfl
theorem end_ok {s:St} {k:Nat} {r:Rq} (h:s.v.d.l[k]?=some r):s.end_ (k:Int) false=(((s.did k r).endedN r.write r.lo (s.outs r) r.many.toNat).serve,0):=by
 unfold St.end_
 rw [drvEndAt_ok _ _ _ h]
 simp only [ended_res]
 rw [if_neg (by decide),if_neg (by decide)]
 have:(if r.write=true then r.data else if r.write=true then [] else s.v.d.reads r.lo.toNat r.many.toNat)=s.outs r:=by
  unfold outs; split <;> rfl
 rw [this]
 rfl
inductive Ended (s:St) (i:Int) (f:Bool):St→Nat→Prop
 |none (h:i<0∨(s.v.d.l.length:Int)≤i):Ended s i f s 5
 |again (k:Nat) (r:Rq) (h:s.v.d.l[k]?=some r) (hi:i=(k:Int)) (hf:f=true) (h3:s.v.tries (tagOf r)+1<3):Ended s i f (s.again k r) 0
 |gone (k:Nat) (r:Rq) (h:s.v.d.l[k]?=some r) (hi:i=(k:Int)) (hf:f=true) (h3:¬ s.v.tries (tagOf r)+1<3):Ended s i f ((s.gone k r).wrong r).serve 0
 |ok (k:Nat) (r:Rq) (h:s.v.d.l[k]?=some r) (hi:i=(k:Int)) (hf:f=false):Ended s i f ((s.did k r).endedN r.write r.lo (s.outs r) r.many.toNat).serve 0
theorem ended_of (s:St) (i:Int) (f:Bool) (h2:s.v.d.l.length≤2):Ended s i f (s.end_ i f).1 (s.end_ i f).2:=by
 rcases endAt_split s.v.d i with hi | ⟨k,r,rfl,hk⟩
 ·rw [end_none s f hi]; exact .none hi
 ·cases f with
  |true =>
   by_cases h3:s.v.tries (tagOf r)+1<3
   ·rw [end_again hk h2 h3]; exact .again k r hk rfl rfl h3
   ·rw [end_gone hk h3]; exact .gone k r hk rfl rfl h3
  |false=>rw [end_ok hk]; exact .ok k r hk rfl rfl
end St
structure Keeps (s t:St):Prop where
 wait:t.wait=s.wait
 l:t.v.d.l=s.v.d.l
theorem Keeps.refl (s:St):Keeps s s:=⟨rfl,rfl⟩
theorem Keeps.trans {a b c:St} (h:Keeps a b) (k:Keeps b c):Keeps a c:=⟨k.wait.trans h.wait,k.l.trans h.l⟩
theorem Keeps.answer (s:St) (c:Nat) (d:ByteArray) (e:Nat):Keeps s (s.answer c d e):=⟨rfl,rfl⟩
theorem Keeps.tell1 (p:Int) (d:ByteArray) (s:St) (c:Nat):Keeps s (St.tell1 p d s c):=by
 unfold St.tell1; split
 ·exact .refl s
 ·split
  ·exact .answer ..
  ·exact .refl s
theorem Keeps.tell (s:St) (p:Int) (d:ByteArray):Keeps s (s.tell p d):=((Keeps.tell1 p d s 0).trans (.tell1 p d _ 1)).trans (.tell1 p d _ 2)
theorem Keeps.wrong1 (r:Rq) (s:St) (c:Nat):Keeps s (St.wrong1 r s c):=by
 unfold St.wrong1; split
 ·exact .refl s
 ·split
  ·exact .answer ..
  ·exact .refl s
theorem Keeps.ended1 (s:St) (w:Bool) (p:Int) (d:ByteArray):Keeps s (s.ended1 w p d):=by
 unfold St.ended1; split
 ·exact ⟨rfl,rfl⟩
 ·split
  ·exact .refl s
  ·exact Keeps.trans (b:={ s with use:=s.use+1,bufs:=(putB s.bufs ⟨p,d,false,s.use+1⟩ s.heldP).getD s.bufs }) ⟨rfl,rfl⟩ (.tell ..)
theorem Keeps.endedN (s:St) (w:Bool) (lo:Int) (l:List ByteArray):∀ n,Keeps s (s.endedN w lo l n)
 |0=>.refl s
 |n+1=>(Keeps.endedN s w lo l n).trans (.ended1 ..)
theorem Keeps.held {s t:St} (h:Keeps s t) (p:Int):t.heldP p=s.heldP p:=by unfold St.heldP; rw [h.wait,h.l]
theorem getD_size {l:List ByteArray} {B:Nat} (h:∀ d ∈ l,d.size≤B) (k:Nat):(l.getD k noB).size≤B:=by
 rw [List.getD_eq_getElem?_getD]
 cases hk:l[k]? with
 |none=>exact Nat.zero_le _
 |some d=>exact h d (List.mem_of_getElem? hk)
theorem reads_size {d:Dv} (h:DvOk d) (p n:Nat):∀ s ∈ d.reads p n,s.size≤16:=fun s hs=>h.nowS s (List.mem_of_mem_drop (List.mem_of_mem_take hs))
theorem wrote_l (d:Dv) (p:Nat) (l:List ByteArray):(d.wrote p l).l=d.l:=(Dv.wrote_same l d p).2.1
theorem ended_l (d:Dv) (r:Rq) (k:Nat) (f:Bool):(d.ended r k f).1.l=d.l.eraseIdx k:=by
 unfold Dv.ended
 split
 ·rfl
 ·split
  ·exact wrote_l _ _ _
  ·rfl
theorem mem_er {α:Type} {a:α} {l:List α} {k:Nat} (h:a ∈ l.eraseIdx k):a ∈ l:=List.mem_of_mem_eraseIdx h
theorem pair_er {R:Rq→Rq→Prop} {a b:List Rq} (k:Nat) (h:(a ++ b).Pairwise R):(a ++ b.eraseIdx k).Pairwise R:=h.sublist (List.Sublist.append_left (List.eraseIdx_sublist ..) _)
theorem good_er {a b:List Rq} {k:Nat} (h:goodReqs (a ++ b)=true):goodReqs (a ++ b.eraseIdx k)=true:=by
 rw [good_iff] at h ⊢
 exact ⟨fun r hr=>h.1 r ((List.mem_append.1 hr).elim (fun h=>List.mem_append.2 (.inl h)) (fun h=>List.mem_append.2 (.inr (mem_er h)))),pair_er k h.2⟩
theorem InW.er {a b:List Rq} {k:Nat} {p:Int} {e:ByteArray} (h:InW (a ++ b.eraseIdx k) p e):InW (a ++ b) p e:=by
 obtain ⟨r,hr,hx⟩:=h
 exact ⟨r,(List.mem_append.1 hr).elim (fun h=>List.mem_append.2 (.inl h)) (fun h=>List.mem_append.2 (.inr (mem_er h))),hx⟩
theorem apart_rest {a b:List Rq} {k:Nat} {r:Rq} (h:goodReqs (a ++ b)=true) (hk:b[k]?=some r):∀ y ∈ a ++ b.eraseIdx k,Apart y r:=by
 intro y hy
 have hr:=List.mem_of_getElem? hk
 rcases List.mem_append.1 hy with h1 | h1
 ·exact (good_app.1 h).2.2 y h1 r hr
 ·obtain ⟨hg1,hg2,_⟩:=good_app.1 h
  obtain ⟨j,hj⟩:=List.mem_iff_getElem?.1 h1
  rw [List.getElem?_eraseIdx] at hj
  split at hj
  ·exact good_two hg2 (by omega) hj hk
  ·exact (good_two hg2 (by omega) hk hj).symm
theorem not_held {a b:List Rq} {k:Nat} {r:Rq} (h:goodReqs (a ++ b)=true) (hk:b[k]?=some r) {p:Int} (hp:hasB r.lo r.many p=true):heldL' (a ++ b.eraseIdx k) p=false:=by
 have hg:=good_er (k:=k) h
 have hr:=good_oks h r (List.mem_append.2 (.inr (List.mem_of_getElem? hk)))
 rw [Bool.eq_false_iff]
 intro hh
 obtain ⟨y,hy,hyp⟩:=held_iff.1 hh
 exact (apart_iff (good_oks hg y hy) hr).1 (apart_rest h hk y hy) p ⟨hyp,hp⟩
namespace Inv
variable {s:St}
theorem upd_ok (h:Inv s) (j:Int) {n:Int} (hn:0≤n∧n≤2):∀ i,0≤upd s.v.tries j n i∧upd s.v.tries j n i≤2:=fun i=>by
 unfold upd
 split
 ·exact hn
 ·exact h.tries i
theorem again (h:Inv s) {k:Nat} {r:Rq} (hk:s.v.d.l[k]?=some r) (h3:s.v.tries (tagOf r)+1<3):Inv (s.again k r):=by
 have hrl:=List.mem_of_getElem? hk
 have hp:(s.v.d.l.eraseIdx k ++ [r]).Perm s.v.d.l:=(perm_back hk).symm
 have hpp:(s.wait ++ (s.v.d.l.eraseIdx k ++ [r])).Perm (s.wait ++ s.v.d.l):=List.Perm.append_left _ hp
 exact { h with
  dv:=⟨h.dv.kept,h.dv.now,h.dv.keptS,h.dv.nowS,h.dv.waits,fun y hy=>h.dv.l y (hp.mem_iff.1 hy),by
   show (s.v.d.l.eraseIdx k ++ [r]).length≤2
   rw [hp.length_eq]; exact h.dv.two⟩
  tries:=h.upd_ok _ (by have:=h.tries (tagOf r); omega)
  good:=good_perm hpp.symm h.good
  hand:=fun p e hi=>h.hand p e ((InW.perm hpp).1 hi) }
theorem gone (h:Inv s) {k:Nat} {r:Rq} (hk:s.v.d.l[k]?=some r):Inv (s.gone k r) :=
 { h with
  dv:=h.dv.drop k
  tries:=h.upd_ok _ (by omega)
  good:=good_er h.good
  hand:=fun p e hi=>h.hand p e (InW.er hi) }
theorem did (h:Inv s) {k:Nat} {r:Rq} (hk:s.v.d.l[k]?=some r):Inv (s.did k r):=by
 have hr:=reqF_zero (h.dv.l r (List.mem_of_getElem? hk))
 exact { h with
  dv:=(h.dv.ended hr k false).1
  tries:=h.upd_ok _ (by omega)
  good:=by show goodReqs (s.wait ++ (s.v.d.ended r k false).1.l)=true; rw [ended_l]; exact good_er h.good
  hand:=fun p e hi=>h.hand p e (by
   have hi':InW (s.wait ++ (s.v.d.ended r k false).1.l) p e:=hi
   rw [ended_l] at hi'; exact InW.er hi') }
theorem outs_size (h:Inv s) {k:Nat} {r:Rq} (hk:s.v.d.l[k]?=some r):∀ d ∈ s.outs r,d.size≤16:=by
 have hr:=reqF_zero (h.dv.l r (List.mem_of_getElem? hk))
 unfold St.outs
 split
 ·exact fun d hd=>Nat.le_trans (hr.size d hd) (by omega)
 ·exact reads_size h.dv _ _
theorem did_free (h:Inv s) {k:Nat} {r:Rq} (hk:s.v.d.l[k]?=some r) {p:Int} (hp:hasB r.lo r.many p=true):(s.did k r).heldP p=false:=by
 rw [heldP_eq]
 show heldL' (s.wait ++ (s.v.d.ended r k false).1.l) p=false
 rw [ended_l]; exact not_held h.good hk hp
theorem endedN (h:Inv s) {k:Nat} {r:Rq} (hk:s.v.d.l[k]?=some r):∀ n,n≤r.many.toNat→Inv ((s.did k r).endedN r.write r.lo (s.outs r) n)
 |0,_=>h.did hk
 |n+1,hn=>by
  have hr:=reqF_zero (h.dv.l r (List.mem_of_getElem? hk))
  obtain ⟨a1,a2,a3,a4,a5⟩:=hr.span
  refine (Inv.endedN h hk n (by omega)).ended1 (by omega) (getD_size (h.outs_size hk) n) (fun _=>?_)
  rw [(Keeps.endedN _ _ _ _ n).held]
  exact h.did_free hk (by rw [hasB_iff]; omega)
theorem ended (h:Inv s) {i:Int} {f:Bool} {t:St} {e:Nat} (hE:St.Ended s i f t e):Inv t:=by
 cases hE with
 |none _=>exact h
 |again k r hk _ _ h3=>exact h.again hk h3
 |gone k r hk _ _ _=>exact ((h.gone hk).wrong r).serve
 |ok k r hk _ _=>exact (h.endedN hk _ (Nat.le_refl _)).serve
theorem end_ (h:Inv s) (i:Int) (f:Bool):Inv (s.end_ i f).1:=h.ended (St.ended_of s i f h.dv.two)
theorem round (h:Inv s):Inv s.round:=h.tick.clean.go.end_ 0 false
theorem settle:∀ {n:Nat} {s:St},Inv s→Inv (St.settle n s).1
 |0,_,h=>h
 |n+1,s,h=>by
  unfold St.settle
  split
  ·exact h
  ·exact Inv.settle h.round
end Inv
structure Bd (K:Int) (s:St):Prop where
 use:s.use≤K
 tag:s.tag≤K
 waits:(s.v.d.waits.length:Int)≤K
namespace Bd
variable {K:Int} {s:St}
theorem mono {L:Int} (h:Bd K s) (hl:K≤L):Bd L s:=⟨Int.le_trans h.use hl,Int.le_trans h.tag hl,Int.le_trans h.waits hl⟩
theorem answer (h:Bd K s) (c:Nat) (d:ByteArray) (e:Nat):Bd K (s.answer c d e):=⟨h.use,h.tag,h.waits⟩
theorem queue (h:Bd K s) (w:Bool) (p:Int) (d:ByteArray):Bd (K+1) (s.queue w p d).1:=by
 unfold St.queue
 split
 ·exact ⟨by have:=h.use; show s.use≤_; omega,by have:=h.tag; show s.tag+1≤_; omega,by have:=h.waits; show (s.v.d.waits.length:Int)≤_; omega⟩
 ·exact h.mono (by omega)
theorem useN (h:Bd K s) (m:List Bf):Bd (K+1) { s with use:=s.use+1,bufs:=m }:=⟨by have:=h.use; show s.use+1≤_; omega,by have:=h.tag; show s.tag≤_; omega,by have:=h.waits; show (s.v.d.waits.length:Int)≤_; omega⟩
theorem read (h:Bd K s) (c:Nat) (a:Ak):Bd (K+1) (s.read c a):=by
 unfold St.read
 split
 ·exact (h.useN _).answer _ _ _
 ·split
  ·exact h.mono (by omega)
  ·exact h.queue _ _ _
theorem write (h:Bd K s) (c:Nat) (a:Ak):Bd (K+1) (s.write c a):=by
 unfold St.write
 split
 ·exact (h.answer _ _ _).mono (by omega)
 ·split
  ·exact h.mono (by omega)
  ·split
   ·exact (h.useN _).answer _ _ _
   ·exact h.useN s.bufs
theorem sync (h:Bd K s) (c:Nat) (a:Ak) (h0:0≤K):Bd K (s.sync c a):=by
 unfold St.sync
 split
 ·exact h.answer _ _ _
 ·split
  ·exact ⟨h.use,h.tag,by show ((0:Nat):Int)≤K; omega⟩
  ·exact ⟨h.use,h.tag,h.waits⟩
theorem serve1 (h:Bd K s) (c:Nat) (h0:0≤K):Bd (K+1) (s.serve1 c):=by
 unfold St.serve1
 split
 ·exact h.mono (by omega)
 ·split
  ·exact h.read _ _
  ·split
   ·exact h.write _ _
   ·split
    ·exact (h.sync _ _ h0).mono (by omega)
    ·exact h.mono (by omega)
theorem serve (h:Bd K s) (h0:0≤K):Bd (K+3) s.serve:=(((h.serve1 0 h0).serve1 1 (by omega)).serve1 2 (by omega)).mono (by omega)
theorem ask (h:Bd K s) (h0:0≤K) (client kind p:Int) (d:ByteArray):Bd (K+3) (s.ask client kind p d).1:=by
 unfold St.ask
 split
 ·exact h.mono (by omega)
 ·split
  ·exact h.mono (by omega)
  ·split
   ·exact h.mono (by omega)
   ·exact Bd.serve (s:={ s with asks:=s.asks.set client.toNat _ }) ⟨h.use,h.tag,h.waits⟩ h0
theorem tick (h:Bd K s) (h0:0≤K):Bd (K+3) s.tick:=Bd.serve (s:={ s with now:=min (s.now+1) 1000000000 }) ⟨h.use,h.tag,h.waits⟩ h0
theorem clean (h:Bd K s):Bd (K+1) s.clean.1:=by
 unfold St.clean
 split
 ·exact h.mono (by omega)
 ·split
  ·exact h.mono (by omega)
  ·exact h.queue _ _ _
theorem dispatch (h:Bd K s):Bd K s.dispatch.1:=by
 unfold St.dispatch
 split
 ·exact h
 ·exact ⟨h.use,h.tag,by show ((s.v.d.start _).1.waits.length:Int)≤K; rw [start_waits]; exact h.waits⟩
theorem tell1 (h:Bd K s) (p:Int) (d:ByteArray) (c:Nat):Bd K (St.tell1 p d s c):=by
 unfold St.tell1
 split
 ·exact h
 ·split
  ·exact h.answer ..
  ·exact h
theorem tell (h:Bd K s) (p:Int) (d:ByteArray):Bd K (s.tell p d):=((h.tell1 p d 0).tell1 p d 1).tell1 p d 2
theorem wrong1 (h:Bd K s) (r:Rq) (c:Nat):Bd K (St.wrong1 r s c):=by
 unfold St.wrong1
 split
 ·exact h
 ·split
  ·exact h.answer ..
  ·exact h
theorem wrong (h:Bd K s) (r:Rq):Bd K (s.wrong r):=(((Bd.mk (s:={ s with dead:=s.dead || r.write }) h.use h.tag h.waits).wrong1 r 0).wrong1 r 1).wrong1 r 2
theorem ended1 (h:Bd K s) (w:Bool) (p:Int) (d:ByteArray):Bd (K+1) (s.ended1 w p d):=by
 unfold St.ended1
 split
 ·exact ⟨by have:=h.use; show s.use≤_; omega,by have:=h.tag; show s.tag≤_; omega,by have:=h.waits; show (s.v.d.waits.length:Int)≤_; omega⟩
 ·split
  ·exact h.mono (by omega)
  ·exact (h.useN _).tell _ _
theorem endedN (h:Bd K s) (w:Bool) (lo:Int) (l:List ByteArray):∀ n:Nat,Bd (K+n) (s.endedN w lo l n)
 |0=>h.mono (by omega)
 |n+1=>((Bd.endedN h w lo l n).ended1 _ _ _).mono (by omega)
theorem ended (h:Bd K s) (h0:0≤K) (hI:Inv s) {i:Int} {f:Bool} {t:St} {e:Nat} (hE:St.Ended s i f t e):Bd (K+11) t:=by
 cases hE with
 |none _=>exact h.mono (by omega)
 |again k r hk _ _ h3=>exact (Bd.mk (s:=s.again k r) h.use h.tag h.waits).mono (by omega)
 |gone k r hk _ _ _=>exact ((Bd.wrong (s:=s.gone k r) ⟨h.use,h.tag,h.waits⟩ r).serve h0).mono (by omega)
 |ok k r hk _ _ =>
  have hr:=reqF_zero (hI.dv.l r (List.mem_of_getElem? hk))
  obtain ⟨a1,a2,a3,a4,a5⟩:=hr.span
  have h1:=(hI.dv.ended hr k false).2
  have h2:Bd (K+4) (s.did k r):=⟨by have:=h.use; show s.use≤_; omega,by have:=h.tag; show s.tag≤_; omega,by have:=h.waits; show ((s.v.d.ended r k false).1.waits.length:Int)≤_; omega⟩
  exact ((h2.endedN r.write r.lo (s.outs r) r.many.toNat).serve (by omega)).mono (by omega)
theorem end_ (h:Bd K s) (h0:0≤K) (hI:Inv s) (i:Int) (f:Bool):Bd (K+11) (s.end_ i f).1:=h.ended h0 hI (St.ended_of s i f hI.dv.two)
theorem round (h:Bd K s) (h0:0≤K) (hI:Inv s):Bd (K+15) s.round:=((((h.tick h0).clean).dispatch.dispatch).end_ (by omega) hI.tick.clean.go 0 false).mono (by omega)
theorem settle:∀ {n:Nat} {K:Int} {s:St},Bd K s→0≤K→Inv s→Bd (K+15 * n) (St.settle n s).1
 |0,K,s,h,_,_=>h.mono (by omega)
 |n+1,K,s,h,h0,hI=>by
  unfold St.settle
  split
  ·exact h.mono (by omega)
  ·exact (Bd.settle (h.round h0 hI) (by omega) hI.round).mono (by omega)
end Bd
theorem ans_ne {s:St} {c j:Nat} (h:j≠c) (d:ByteArray) (e:Nat):(s.answer c d e).askAt j=s.askAt j:=by
 unfold St.askAt St.answer
 simp only [List.getD_eq_getElem?_getD]
 rw [List.getElem?_set_ne (Ne.symm h)]
theorem read_ne (s:St) {c j:Nat} (hj:j≠c) (a:Ak):(s.read c a).askAt j=s.askAt j:=by
 unfold St.read
 split
 ·exact ans_ne hj _ _
 ·split
  ·rfl
  ·unfold St.queue; split <;> rfl
theorem write_ne (s:St) {c j:Nat} (hj:j≠c) (a:Ak):(s.write c a).askAt j=s.askAt j:=by
 unfold St.write
 split
 ·exact ans_ne hj _ _
 ·split
  ·rfl
  ·split
   ·exact ans_ne hj _ _
   ·rfl
theorem set_ne {l:List (Option Ak)} {c j:Nat} (hj:j≠c) (o:Option Ak):(l.set c o).getD j none=l.getD j none:=by
 simp only [List.getD_eq_getElem?_getD]
 rw [List.getElem?_set_ne (Ne.symm hj)]
theorem sync_ne (s:St) {c j:Nat} (hj:j≠c) (a:Ak):(s.sync c a).askAt j=s.askAt j:=by
 unfold St.sync
 split
 ·exact ans_ne hj _ _
 ·split
  ·exact ans_ne hj _ _
  ·exact set_ne hj _
theorem serve1_ne (s:St) {c j:Nat} (hj:j≠c):(s.serve1 c).askAt j=s.askAt j:=by
 unfold St.serve1
 split
 ·rfl
 ·split
  ·exact read_ne s hj _
  ·split
   ·exact write_ne s hj _
   ·split
    ·exact sync_ne s hj _
    ·rfl
theorem serve1_none {s:St} {c:Nat} (h:s.askAt c=none):s.serve1 c=s:=by unfold St.serve1; rw [h]
theorem serve1_nn (s:St) (c:Nat) {j:Nat} (h:s.askAt j=none):(s.serve1 c).askAt j=none:=by
 by_cases hj:j=c
 ·subst hj; rw [serve1_none h]; exact h
 ·rw [serve1_ne s hj]; exact h
def serveN (s:St):Nat→St
 |0=>s
 |n+1=>(serveN s n).serve1 n
theorem serveN_3 (s:St):serveN s 3=s.serve:=rfl
theorem serveN_ge (s:St):∀ (n j:Nat),n≤j→(serveN s n).askAt j=s.askAt j
 |0,_,_=>rfl
 |n+1,j,h=>by rw [serveN,serve1_ne _ (by omega),serveN_ge s n j (by omega)]
theorem serveN_nn (s:St):∀ (n j:Nat),s.askAt j=none→(serveN s n).askAt j=none
 |0,_,h=>h
 |n+1,j,h=>by rw [serveN]; exact serve1_nn _ _ (serveN_nn s n j h)
theorem Inv.serveN {s:St} (h:Inv s):∀ n,Inv (Go.Proofs.YtaeadmlgffaegaaGreatDoor.serveN s n)
 |0=>h
 |n+1=>(Inv.serveN h n).serve1 n
theorem Bd.serveN {K:Int} {s:St} (h:Bd K s) (h0:0≤K):∀ n:Nat,Bd (K+n) (Go.Proofs.YtaeadmlgffaegaaGreatDoor.serveN s n)
 |0=>h.mono (by omega)
 |n+1=>((Bd.serveN h h0 n).serve1 n (by omega)).mono (by omega)
theorem tell1_none {s:St} {c:Nat} {p:Int} {d:ByteArray} (h:s.askAt c=none):St.tell1 p d s c=s:=by unfold St.tell1; rw [h]
theorem wrong1_none {s:St} {c:Nat} {r:Rq} (h:s.askAt c=none):St.wrong1 r s c=s:=by unfold St.wrong1; rw [h]
theorem tell1_ne (s:St) {c j:Nat} (hj:j≠c) (p:Int) (d:ByteArray):(St.tell1 p d s c).askAt j=s.askAt j:=by
 unfold St.tell1; split
 ·rfl
 ·split
  ·exact ans_ne hj _ _
  ·rfl
theorem wrong1_ne (s:St) {c j:Nat} (hj:j≠c) (r:Rq):(St.wrong1 r s c).askAt j=s.askAt j:=by
 unfold St.wrong1; split
 ·rfl
 ·split
  ·exact ans_ne hj _ _
  ·rfl
end Go.Proofs.YtaeadmlgffaegaaGreatDoor
namespace Go.Proofs.YtaeadmlgffaegaaGreatDoor
open Go.RowKit Go.Sort
theorem StAt.ptr {T:Tys} {col:Nat→Nat} {w:World} {b bd N:Nat} {x:Sv} {s:St} (h:StAt T col w b bd N x s) (c:Nat) (hc:c<3):∃ p:Option Addr,x.av c=.pointer p∧(s.askAt c=none→p=none)∧(∀ a,s.askAt c=some a→∃ ba:Nat,p=some ⟨ba,0,none⟩):=by
 have ha:=h.ask c hc
 cases ho:s.askAt c with
 |none=>rw [ho] at ha; exact ⟨none,ha,fun _=>rfl,fun a h=>(by cases h)⟩
 |some a =>
  rw [ho] at ha
  obtain ⟨ba,lv,h1,_⟩:=ha
  exact ⟨_,h1,fun h=>(by cases h),fun _ _=>⟨ba,rfl⟩⟩
theorem serve1_read {s:St} {c:Nat} {a:Ak} (h:s.askAt c=some a) (hk:a.kind=1):s.serve1 c=s.read c a:=by unfold St.serve1; rw [h]; simp [hk]
theorem serve1_write {s:St} {c:Nat} {a:Ak} (h:s.askAt c=some a) (hk:a.kind=2):s.serve1 c=s.write c a:=by unfold St.serve1; rw [h]; simp [hk]
theorem serve1_sync {s:St} {c:Nat} {a:Ak} (h:s.askAt c=some a) (hk:a.kind=3):s.serve1 c=s.sync c a:=by unfold St.serve1; rw [h]; simp [hk]
theorem idx_c (P:Nat→Option Addr) {k:Nat} (h:k<3) (w:World):(Instr.index 98 (.agg #[.pointer (P 0),.pointer (P 1),.pointer (P 2)]) (.int .i64 (k:Int))).run Tryz.prog w=.ok (.pointer (P k)) w:=by
 have i:∀ (n:Int) (v:Value),(n=0∧v=.pointer (P 0))∨(n=1∧v=.pointer (P 1))∨(n=2∧v=.pointer (P 2))→(Instr.index 98 (.agg #[.pointer (P 0),.pointer (P 1),.pointer (P 2)]) (.int .i64 n)).run Tryz.prog w=.ok v w:=by
  rintro n v (⟨rfl,rfl⟩ | ⟨rfl,rfl⟩ | ⟨rfl,rfl⟩) <;> kernel_rfl
 refine i _ _ ?_
 match k,h with
 |0,_=>exact .inl ⟨rfl,rfl⟩
 |1,_=>exact .inr (.inl ⟨rfl,rfl⟩)
 |2,_=>exact .inr (.inr ⟨rfl,rfl⟩)
theorem asks_range {T:Tys} {col:Nat→Nat} {w:World} {b bd N:Nat} {x:Sv} {s:St} (h:StAt T col w b bd N x s) {v0 v1 v2:Value} (h0:x.a0=v0) (h1:x.a1=v1) (h2:x.a2=v2):w.rangeAt b 11 [v0,v1,v2]:=by
 subst h0 h1 h2
 intro j v hv
 match j,hv with
 |0,hv=>cases hv; exact h.cell 11
 |1,hv=>cases hv; exact h.cell 12
 |2,hv=>cases hv; exact h.cell 13
theorem StAt.ptrs {T:Tys} {col:Nat→Nat} {w:World} {b bd N:Nat} {x:Sv} {s:St} (h:StAt T col w b bd N x s):∃ P:Nat→Option Addr,w.rangeAt b 11 [.pointer (P 0),.pointer (P 1),.pointer (P 2)]∧∀ c,c<3→x.av c=.pointer (P c)∧(s.askAt c=none→P c=none)∧(∀ a,s.askAt c=some a→∃ ba:Nat,P c=some ⟨ba,0,none⟩):=by
 obtain ⟨p0,e0,n0,q0⟩:=h.ptr 0 (by omega)
 obtain ⟨p1,e1,n1,q1⟩:=h.ptr 1 (by omega)
 obtain ⟨p2,e2,n2,q2⟩:=h.ptr 2 (by omega)
 refine ⟨fun c=>if c=0 then p0 else if c=1 then p1 else p2,asks_range h e0 e1 e2,fun c hc=>?_⟩
 match c,hc with
 |0,_=>exact ⟨e0,n0,q0⟩
 |1,_=>exact ⟨e1,n1,q1⟩
 |2,_=>exact ⟨e2,n2,q2⟩
theorem serve_any (col:Nat→Nat) (w:World) (b bd N:Nat) (x:Sv) (s:St) (K:Int) (h:StAt Ts col w b bd N x s) (hI:Inv s) (hB:Bd K s) (h0:0≤K) (hK:K≤800000000) :
  Calls Tryz.prog 55 #[.pointer (some ⟨b,0,none⟩)] w (Ret4 Ts col w b bd N x s.serve (.tuple #[])):=by
 obtain ⟨P,hR,hP⟩:=h.ptrs
 have HR:=Lib.hid hR
 have HP:=Lib.hid hP
 have H:=Lib.hid h
 have HI:=Lib.hid hI
 have HB:=Lib.hid hB
 have Hs:Hid ((Tryz.prog.info? 98).map (·.size)=some 3):=show _=_ by kernel_rfl
 clear h hI hB hP hR
 go_enter Tryz.func55,Tryz.ntmps55
 go_wp2_with (refine wpList_load_mid rfl 98 (.tmp 6) rfl b 11 rfl [.pointer (P 0),.pointer (P 1),.pointer (P 2)] _ HR.out Tryz.underlying98 rfl Hs.out ?_)
 go_loopw [8] (fun i wr=>∃ (k:Nat) (y:Sv),k≤3∧i=.int .i64 k∧Hid (StAt Ts col wr b bd N y (serveN s k))∧Hid (Chg (Fl col) w wr)∧Hid (Avs x y (serveN s k))) (fun i _=>3 - (intOf i).toNat)
 case atStart=>exact ⟨0,x,by omega,rfl,H.out,Chg.refl,Avs.refl⟩
 case round =>
  obtain ⟨k,y,hk,rfl,HS,HC,HA⟩:=hrel
  by_cases h3:k<3
  ·obtain ⟨E,N0,Q⟩:=HP.out k h3
   have i0:=idx_c P h3
   have hk3:(k:Int)<3:=by omega
   cases ho:s.askAt k with
   |none =>
    rw [N0 ho] at i0
    have Ho:=Lib.hid ho
    clear ho N0 Q E
    go_wp2_with fail
    go_roundw
    case rel =>
     have e:serveN s (k+1)=serveN s k:=serve1_none (serveN_nn s k k Ho.out)
     exact ⟨k+1,y,by omega,by go_num,e▸HS.out,HC.out,e▸HA.out⟩
    case measure=>simp [intOf]; omega
   |some a =>
    obtain ⟨ba,hp⟩:=Q a ho
    rw [hp] at i0 E
    have Ho:Hid ((serveN s k).askAt k=some a):=show _=_ from (serveN_ge s k k (by omega)).trans ho
    have Hy:Hid (y.av k=.pointer (some ⟨ba,0,none⟩)):=show _=_ from ((HA.out k h3).elim id (fun h=>by rw [Ho.out] at h; cases h)).trans E
    obtain ⟨lv,hrow,_,_⟩:=HS.out.askc h3 Ho.out Hy.out
    have k0:wr.cell? ⟨ba,0,none⟩=some (.int .i64 a.kind):=cell_of_row _ _ 0 _ _ _ hrow
    have HIn:=Lib.hid (HI.out.serveN k)
    have HBn:=Lib.hid (HB.out.serveN h0 k)
    have Hkd:=Lib.hid ((HIn.out.ask k a Ho.out).kind)
    clear ho hrow N0 Q E hp
    rcases Hkd.out with hkd | hkd | hkd
    all_goals
     rw [hkd] at k0
     go_wp2_with fail
     clear k0
    ·have He:Hid (serveN s (k+1)=(serveN s k).read k a):=show _=_ from serve1_read Ho.out hkd
     clear hkd
     refine (read_any col wr b bd N k y _ a ba HS.out HIn.out ⟨by have:=HBn.out.use; omega,by have:=HBn.out.tag; omega⟩ h3 Ho.out Hy.out).mono ?_
     rintro e w1 ⟨y1,rfl,hst1,hc1,hav1⟩
     have Hst1:=Lib.hid hst1
     have HC1:=Lib.hid (HS.out.chg1 hc1)
     have HA1:=Lib.hid hav1
     clear hst1 hc1 hav1
     go_wp2_with fail
     go_roundw
     case rel=>exact ⟨k+1,y1,by omega,by go_num,He.out▸Hst1.out,HC.out.two HC1.out,HA.out.trans (He.out▸HA1.out) (fun j hj=>serve1_nn _ _ hj)⟩
     case measure=>simp [intOf]; omega
    ·have He:Hid (serveN s (k+1)=(serveN s k).write k a):=show _=_ from serve1_write Ho.out hkd
     clear hkd
     refine (write_any col wr b bd N k y _ a ba HS.out HIn.out ⟨by have:=HBn.out.use; omega,by have:=HBn.out.tag; omega⟩ h3 Ho.out Hy.out).mono ?_
     rintro e w1 ⟨y1,rfl,hst1,hc1,hav1⟩
     have Hst1:=Lib.hid hst1
     have HC1:=Lib.hid (HS.out.chg1 hc1)
     have HA1:=Lib.hid hav1
     clear hst1 hc1 hav1
     go_wp2_with fail
     go_roundw
     case rel=>exact ⟨k+1,y1,by omega,by go_num,He.out▸Hst1.out,HC.out.two HC1.out,HA.out.trans (He.out▸HA1.out) (fun j hj=>serve1_nn _ _ hj)⟩
     case measure=>simp [intOf]; omega
    ·have He:Hid (serveN s (k+1)=(serveN s k).sync k a):=show _=_ from serve1_sync Ho.out hkd
     clear hkd
     refine (sync_any col wr b bd N k y _ a ba HS.out HIn.out h3 Ho.out Hy.out).mono ?_
     rintro e w1 ⟨y1,rfl,hst1,hc1,hav1⟩
     have Hst1:=Lib.hid hst1
     have HC1:=Lib.hid (hc1)
     have HA1:=Lib.hid hav1
     clear hst1 hc1 hav1
     go_wp2_with fail
     go_roundw
     case rel=>exact ⟨k+1,y1,by omega,by go_num,He.out▸Hst1.out,HC.out.two HC1.out,HA.out.trans (He.out▸HA1.out) (fun j hj=>serve1_nn _ _ hj)⟩
     case measure=>simp [intOf]; omega
  ·obtain rfl:k=3:=by omega
   have hi:((3:Nat):Int)=3:=rfl
   go_wp2_with fail
   go_end0
   exact ⟨_,rfl,serveN_3 s▸HS.out,HC.out,serveN_3 s▸HA.out⟩
end Go.Proofs.YtaeadmlgffaegaaGreatDoor
namespace Go.Proofs.YtaeadmlgffaegaaGreatDoor
open Go.RowKit Go.Sort
theorem StAt.nowd {T:Tys} {col:Nat→Nat} {w w':World} {b bd N:Nat} {x:Sv} {s:St} (h:StAt T col w b bd N x s) (hb:Same1 b w w') {n:Int} (hrow:w'.heap[b]?=some (.cells (x.row { s with now:=n } bd) T.S (0,0))):StAt T col w' b bd N x { s with now:=n } :=
 h.turn1 hb hrow rfl rfl rfl rfl h.bufs h.wait h.asks h.ask h.done h.errs
theorem StAt.deadd {T:Tys} {col:Nat→Nat} {w w':World} {b bd N:Nat} {x:Sv} {s:St} (h:StAt T col w b bd N x s) (hb:Same1 b w w') {n:Bool} (hrow:w'.heap[b]?=some (.cells (x.row { s with dead:=n } bd) T.S (0,0))):StAt T col w' b bd N x { s with dead:=n } :=
 h.turn1 hb hrow rfl rfl rfl rfl h.bufs h.wait h.asks h.ask h.done h.errs
theorem tick_any (col:Nat→Nat) (w:World) (b bd N:Nat) (x:Sv) (s:St) (K:Int) (h:StAt Ts col w b bd N x s) (hI:Inv s) (hB:Bd K s) (h0:0≤K) (hK:K≤800000000) :
  Calls Tryz.prog 22 #[.pointer (some ⟨b,0,none⟩)] w (Ret4 Ts col w b bd N x s.tick (.tuple #[])):=by
 have H:=Lib.hid h
 have HI:=Lib.hid hI
 have HB:=Lib.hid hB
 have c8:w.cell? ⟨b,8,none⟩=some (.int .i64 s.now):=h.cell 8
 have f8:=h.frozen 8
 have hn:=hI.now
 have hw:IntKind.i64.wrap (s.now+1)=s.now+1:=by rw [IntKind.wrap_i64]; omega
 clear h hI hB
 go_enter Tryz.func22,Tryz.ntmps22
 have HI1:Hid (Inv { s with now:=min (s.now+1) 1000000000 }):=show Inv _ from { HI.out with now:=by have:=HI.out.now; simp only; omega }
 have HB1:Hid (Bd K { s with now:=min (s.now+1) 1000000000 }):=show Bd _ _ from ⟨HB.out.use,HB.out.tag,HB.out.waits⟩
 obtain ⟨n,hn⟩:∃ n:Int,n=min (s.now+1) 1000000000:=⟨_,rfl⟩
 rw [← hn] at HI1 HB1
 have Hn:=Lib.hid hn
 rcases (by omega:(s.now+1≤1000000000∧s.now+1=n)∨(¬ s.now+1≤1000000000∧1000000000=n)) with ⟨hlt,he⟩ | ⟨hlt,he⟩
 all_goals
  have He:=Lib.hid he
  clear hn he
  go_wp2_with fail
  rw [He.out]
  have hS:=(Same1.refl (b:=b) (w:=w)).setCell 8 (.int .i64 n)
  have H1:=Lib.hid (H.out.nowd hS (n:=n) (heap_setCell_same _ _ 8 _ _ _ H.out.row))
  have HC:=Lib.hid (H.out.chg1 (hS.chg (F:=fun k=>k=b) rfl))
  clear hS c8 f8 hw
  generalize World.setCell _ _ _=w1 at H1 HC ⊢
  refine (serve_any col w1 b bd N x _ K H1.out HI1.out HB1.out h0 hK).mono ?_
  rintro e w2 ⟨y2,rfl,hst2,hc2,hav2⟩
  have Hst2:=Lib.hid hst2
  have Hc2:=Lib.hid hc2
  have Hav2:=Lib.hid hav2
  clear hst2 hc2 hav2
  go_wp2_with fail
  go_end0
  have e:s.tick=St.serve { s with now:=n }:=by rw [Hn.out]; rfl
  rw [e]
  exact ⟨_,rfl,Hst2.out,HC.out.two Hc2.out,Hav2.out⟩
theorem tell1_hit {s:St} {c:Nat} {a:Ak} {p:Int} {d:ByteArray} (h:s.askAt c=some a) (hk:a.kind=1) (hp:a.pos=p):St.tell1 p d s c=s.answer c d 0:=by unfold St.tell1; rw [h]; simp [hk,hp]
theorem tell1_miss {s:St} {c:Nat} {a:Ak} {p:Int} {d:ByteArray} (h:s.askAt c=some a) (hn:¬ (a.kind=1∧a.pos=p)):St.tell1 p d s c=s:=by unfold St.tell1; rw [h]; exact if_neg hn
def tellN (p:Int) (d:ByteArray) (s:St):Nat→St
 |0=>s
 |n+1=>St.tell1 p d (tellN p d s n) n
theorem tellN_3 (p:Int) (d:ByteArray) (s:St):tellN p d s 3=s.tell p d:=rfl
theorem tellN_ge (p:Int) (d:ByteArray) (s:St):∀ (n j:Nat),n≤j→(tellN p d s n).askAt j=s.askAt j
 |0,_,_=>rfl
 |n+1,j,h=>by rw [tellN,tell1_ne _ (by omega),tellN_ge p d s n j (by omega)]
theorem tell1_nn (p:Int) (d:ByteArray) (s:St) (c:Nat) {j:Nat} (h:s.askAt j=none):(St.tell1 p d s c).askAt j=none:=by
 by_cases hj:j=c
 ·subst hj; rw [tell1_none h]; exact h
 ·rw [tell1_ne s hj]; exact h
theorem tellN_nn (p:Int) (d:ByteArray) (s:St):∀ (n j:Nat),s.askAt j=none→(tellN p d s n).askAt j=none
 |0,_,h=>h
 |n+1,j,h=>by rw [tellN]; exact tell1_nn _ _ _ _ (tellN_nn p d s n j h)
theorem tell_any (col:Nat→Nat) (w:World) (b bd N:Nat) (x:Sv) (s:St) (p:Int) (d:ByteArray) (h:StAt Ts col w b bd N x s) (hI:Inv s) :
  Calls Tryz.prog 70 #[.pointer (some ⟨b,0,none⟩),.int .i64 p,.string d] w (Ret2 Ts col w b bd N x (s.tell p d) (.tuple #[])):=by
 obtain ⟨P,hR,hP⟩:=h.ptrs
 have HR:=Lib.hid hR
 have HP:=Lib.hid hP
 have H:=Lib.hid h
 have HI:=Lib.hid hI
 have Hs:Hid ((Tryz.prog.info? 98).map (·.size)=some 3):=show _=_ by kernel_rfl
 clear h hI hP hR
 go_enter Tryz.func70,Tryz.ntmps70
 go_wp2_with (refine wpList_load_mid rfl 98 (.tmp 10) rfl b 11 rfl [.pointer (P 0),.pointer (P 1),.pointer (P 2)] _ HR.out Tryz.underlying98 rfl Hs.out ?_)
 go_loopw [12] (fun i wr=>∃ (k:Nat) (y:Sv),k≤3∧i=.int .i64 k∧Hid (StAt Ts col wr b bd N y (tellN p d s k))∧Hid (Chg (fun k=>k=b) w wr)∧Hid (Avs x y (tellN p d s k))) (fun i _=>3 - (intOf i).toNat)
 case atStart=>exact ⟨0,x,by omega,rfl,H.out,Chg.refl,Avs.refl⟩
 case round =>
  obtain ⟨k,y,hk,rfl,HS,HC,HA⟩:=hrel
  by_cases h3:k<3
  ·obtain ⟨E,N0,Q⟩:=HP.out k h3
   have i0:=idx_c P h3
   have hk3:(k:Int)<3:=by omega
   cases ho:s.askAt k
   ·rw [N0 ho] at i0
    have He:Hid (tellN p d s (k+1)=tellN p d s k):=show _=_ from tell1_none (tellN_nn p d s k k ho)
    clear ho N0 Q E
    go_wp2_with fail
    go_roundw
    case rel=>exact ⟨k+1,y,by omega,by go_num,He.out▸HS.out,HC.out,He.out▸HA.out⟩
    case measure=>simp [intOf]; omega
   ·rename_i a
    obtain ⟨ba,hp⟩:=Q a ho
    rw [hp] at i0 E
    have Ho:Hid ((tellN p d s k).askAt k=some a):=show _=_ from (tellN_ge p d s k k (by omega)).trans ho
    have Hy:Hid (y.av k=.pointer (some ⟨ba,0,none⟩)):=show _=_ from ((HA.out k h3).elim id (fun h=>by rw [Ho.out] at h; cases h)).trans E
    obtain ⟨lv,hrow,_,_⟩:=HS.out.askc h3 Ho.out Hy.out
    have k0:wr.cell? ⟨ba,0,none⟩=some (.int .i64 a.kind):=cell_of_row _ _ 0 _ _ _ hrow
    have k1:wr.cell? ⟨ba,1,none⟩=some (.int .i64 a.pos):=cell_of_row _ _ 1 _ _ _ hrow
    clear ho hrow N0 Q E hp
    by_cases hh:a.kind=1∧a.pos=p
    ·have He:Hid (tellN p d s (k+1)=(tellN p d s k).answer k d 0):=show _=_ from tell1_hit Ho.out hh.1 hh.2
     rw [hh.1] at k0
     rw [hh.2] at k1
     clear hh
     go_wp2_with fail
     refine (answer_any col wr b bd N y _ k d 0 HS.out h3).mono ?_
     rintro e w1 ⟨rfl,hs1,hst1⟩
     have Hst1:=Lib.hid hst1
     have HC1:=Lib.hid (hs1.chg (F:=fun k=>k=b) rfl)
     clear hst1 hs1 k0 k1
     go_wp2_with fail
     go_roundw
     case rel=>exact ⟨k+1,_,by omega,by go_num,He.out▸Hst1.out,HC.out.two HC1.out,He.out▸Avs.ans HA.out HS.out.asks h3⟩
     case measure=>simp [intOf]; omega
    ·have He:Hid (tellN p d s (k+1)=tellN p d s k):=show _=_ from tell1_miss Ho.out hh
     by_cases h1:a.kind=1
     all_goals
      first
       |(have h2:(a.pos == p)=false:=by simp only [beq_eq_false_iff_ne]; exact fun e=>hh ⟨h1,e⟩
         rw [h1] at k0)
       |have h2:(a.kind == 1)=false:=by simp only [beq_eq_false_iff_ne]; exact h1
      clear hh h1
      go_wp2_with fail
      go_roundw
      case rel=>exact ⟨k+1,y,by omega,by go_num,He.out▸HS.out,HC.out,He.out▸HA.out⟩
      case measure=>simp [intOf]; omega
  ·obtain rfl:k=3:=by omega
   have hi:((3:Nat):Int)=3:=rfl
   go_wp2_with fail
   go_end0
   exact ⟨_,rfl,tellN_3 p d s▸HS.out,HC.out,tellN_3 p d s▸HA.out⟩
end Go.Proofs.YtaeadmlgffaegaaGreatDoor
