/- The stack's pure model: who asks, what is at hand, what waits, what the disk has. -/
import Derived.Test.YtlomdfbnicbceaaGreatM8
import Derived.Test.YtlomdfbnicbceaaGreatM10
set_option linter.unusedSimpArgs false
set_option linter.unusedVariables false
set_option maxRecDepth 100000
set_option maxHeartbeats 8000000
namespace Go.Proofs.YtlomdfbnicbceaaGreat
structure Ak where
 kind:Int
 pos:Int
 data:ByteArray
 left:List Int
structure St where
 v:Drv
 bufs:List Bf
 wait:List Rq
 turn:Tn
 now:Int
 use:Int
 tag:Int
 asks:List (Option Ak)
 done:List ByteArray
 errs:List Nat
 dead:Bool
def noB:ByteArray:=⟨#[]⟩
def isKind (k:Int):Option Ak→Bool
 |some a=>decide (a.kind=k)
 |none=>false
namespace St
def new (d:Dv):St:=⟨⟨d,fun _=>0⟩,[],[],⟨false,0,0,0⟩,0,0,0,[none,none,none],[noB,noB,noB],[0,0,0],false⟩
def heldP (s:St) (p:Int):Bool:=s.wait.any (fun r=>hasB r.lo r.many p) || s.v.d.l.any (fun r=>hasB r.lo r.many p)
def askAt (s:St) (c:Nat):Option Ak:=s.asks.getD c none
def answer (s:St) (c:Nat) (d:ByteArray) (e:Nat):St:={ s with asks:=s.asks.set c none,done:=s.done.set c d,errs:=s.errs.set c e }
def got (s:St) (c:Nat):ByteArray × Nat:=if s.errs.getD c 0=0 then (s.done.getD c noB,0) else (noB,s.errs.getD c 0)
def reqOf (s:St) (write:Bool) (p:Int) (d:ByteArray):Rq:=⟨write,p,1,if write then [d] else [],[s.tag+1],s.now⟩
def queue (s:St) (write:Bool) (p:Int) (d:ByteArray):St × Bool :=
 if (addM s.wait (s.reqOf write p d)).2=0 then ({ s with wait:=(addM s.wait (s.reqOf write p d)).1,tag:=s.tag+1 },true) else (s,false)
def read (s:St) (c:Nat) (a:Ak):St :=
 if (getB s.bufs a.pos).2 then ({ s with use:=s.use+1,bufs:=useB s.bufs a.pos (s.use+1) }:St).answer c (getB s.bufs a.pos).1.data 0
 else if s.heldP a.pos then s else (s.queue false a.pos noB).1
def still (l:List Bf) (p:Int):Bool:=(getB l p).2 && (getB l p).1.dirty
def write (s:St) (c:Nat) (a:Ak):St :=
 if s.dead then s.answer c noB 9
 else if !still s.bufs a.pos && decide (6≤dirtyB s.bufs) then s
 else match putB s.bufs ⟨a.pos,a.data,true,s.use+1⟩ s.heldP with
  |some m=>({ s with use:=s.use+1,bufs:=m }:St).answer c noB 0
  |none=>{ s with use:=s.use+1 }
def sync (s:St) (c:Nat) (a:Ak):St :=
 if s.dead then s.answer c noB 9
 else if a.left.filter (still s.bufs)=[] then ({ s with v:={ s.v with d:=s.v.d.flush } }:St).answer c noB 0
 else { s with asks:=s.asks.set c (some { a with left:=a.left.filter (still s.bufs) }) }
def serve1 (s:St) (c:Nat):St:=match s.askAt c with
 |none=>s
 |some a=>if a.kind=1 then s.read c a else if a.kind=2 then s.write c a else if a.kind=3 then s.sync c a else s
def serve (s:St):St:=((s.serve1 0).serve1 1).serve1 2
def dirtyAt (l:List Bf):List Int:=(l.filter (·.dirty)).map (·.pos)
def ask (s:St) (client kind p:Int) (d:ByteArray):St × Nat :=
 if client<0∨3≤client∨kind<1∨3<kind then (s,3)
 else if p<0∨32≤p∨4<d.size∨(kind=3∧p≠0)∨(kind≠2∧d.size≠0) then (s,1)
 else if (s.askAt client.toNat).isSome then (s,6)
 else (({ s with asks:=s.asks.set client.toNat (some ⟨kind,p,d,if kind=3 then dirtyAt s.bufs else []⟩) }:St).serve,0)
def tick (s:St):St:=({ s with now:=min (s.now+1) 1000000000 }:St).serve
def pressed (s:St):Bool:=decide (3≤dirtyB s.bufs) || s.asks.any (fun o=>isKind 2 o || isKind 3 o)
def clean (s:St):St × Bool :=
 if s.dead || !s.pressed then (s,false)
 else if pickB s.bufs s.heldP<0 then (s,false)
 else s.queue true (pickB s.bufs s.heldP) (getB s.bufs (pickB s.bufs s.heldP)).1.data
def dispatch (s:St):St × Bool :=
 if s.wait=[]∨2≤s.v.d.l.length then (s,false)
 else ({ s with wait:=s.wait.eraseIdx (nextM s.wait s.turn s.now).1.toNat,turn:=(nextM s.wait s.turn s.now).2,v:={ s.v with d:=(s.v.d.start (s.wait.getD (nextM s.wait s.turn s.now).1.toNat default)).1 } },true)
def tell1 (p:Int) (d:ByteArray) (s:St) (c:Nat):St:=match s.askAt c with
 |none=>s
 |some a=>if a.kind=1∧a.pos=p then s.answer c d 0 else s
def tell (s:St) (p:Int) (d:ByteArray):St:=tell1 p d (tell1 p d (tell1 p d s 0) 1) 2
def wrong1 (r:Rq) (s:St) (c:Nat):St:=match s.askAt c with
 |none=>s
 |some a=>if r.write=false∧a.kind=1∧hasB r.lo r.many a.pos=true then s.answer c noB 8 else s
def wrong (s:St) (r:Rq):St:=wrong1 r (wrong1 r (wrong1 r { s with dead:=s.dead || r.write } 0) 1) 2
def ended1 (s:St) (write:Bool) (p:Int) (d:ByteArray):St :=
 if write then { s with bufs:=cleanB s.bufs p d }
 else if (getB s.bufs p).2 then s
 else ({ s with use:=s.use+1,bufs:=(putB s.bufs ⟨p,d,false,s.use+1⟩ s.heldP).getD s.bufs }:St).tell p d
def endedN (s:St) (write:Bool) (lo:Int) (l:List ByteArray):Nat→St
 |0=>s
 |k+1=>(endedN s write lo l k).ended1 write (lo+k) (l.getD k noB)
def end_ (s:St) (i:Int) (f:Bool):St × Nat :=
 let e:=s.v.endAt i f
 if e.2.2.1=false then ({ s with v:=e.1 },e.2.2.2)
 else if e.2.1.err≠0 then ((({ s with v:=e.1 }:St).wrong e.2.1.req).serve,0)
 else ((({ s with v:=e.1 }:St).endedN e.2.1.req.write e.2.1.req.lo (if e.2.1.req.write then e.2.1.req.data else e.2.1.data) e.2.1.req.many.toNat).serve,0)
def quiet (s:St):Bool:=s.asks.all (·.isNone) && s.wait.isEmpty && s.v.d.l.isEmpty
def go (s:St):St:=s.dispatch.1.dispatch.1
def round (s:St):St:=(s.tick.clean.1.go.end_ 0 false).1
def settle:Nat→St→St × Nat
 |0,s=>(s,0)
 |n+1,s=>if s.quiet then (s,0) else ((settle n s.round).1,(settle n s.round).2+1)
end St
end Go.Proofs.YtlomdfbnicbceaaGreat
