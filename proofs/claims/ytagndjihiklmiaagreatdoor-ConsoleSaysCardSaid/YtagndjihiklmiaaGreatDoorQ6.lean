/- request.Merge: two requests that are next to each other, put together. -/
import Derived.Test.YtagndjihiklmiaaGreatDoorQ5
set_option linter.unusedSimpArgs false
set_option linter.unusedVariables false
set_option maxRecDepth 100000
set_option maxHeartbeats 8000000
namespace Go.Proofs.YtagndjihiklmiaaGreatDoor
open Go.RowKit Go.Sort
def swapM (a b:Rq):Rq × Rq:=if b.lo+b.many=a.lo then (b,a) else (a,b)
def joinOk (a b:Rq):Prop:=a.lo+a.many=b.lo∧a.write=b.write∧a.many+b.many≤4∧a.tags.length+b.tags.length≤4
instance (a b:Rq):Decidable (joinOk a b):=by unfold joinOk; infer_instance
def joinM (a b:Rq):Rq:=⟨a.write,a.lo,a.many+b.many,a.data ++ b.data,a.tags ++ b.tags,min a.born b.born⟩
def joinedM (a b:Rq):Option Rq:=if joinOk a b then some (joinM a b) else none
def mergeM (a b:Rq):Option Rq:=joinedM (swapM a b).1 (swapM a b).2
abbrev zeroR:Rq:=⟨false,0,0,[],[],0⟩
theorem strs_own {S:Nat→Prop} {w:World} {base:Nat} {e:TypeId} {v:Value} {l:List ByteArray} (hS:∀ b,base≤b→S b) (h:w.ownsRow base e 1 v l.length (l.map .string)) (hl:∀ s ∈ l,s.size≤maxLen):StrsAt S w v l:=⟨Rd.of_own w hS h,hl⟩
theorem ints_own {S:Nat→Prop} {w:World} {base:Nat} {e:TypeId} {v:Value} {l:List Int} (hS:∀ b,base≤b→S b) (h:w.ownsRow base e 1 v l.length (l.map (.int .i64))) (hl:∀ x ∈ l,-9223372036854775808≤x∧x≤9223372036854775807):IntsAt S w v l:=⟨Rd.of_own w hS h,hl⟩
theorem strs_one (l:List ByteArray):∀ u ∈ l.map Value.string,u.oneCell'=true:=by
 intro u hu; obtain ⟨s,_,rfl⟩:=List.mem_map.1 hu; rfl
theorem ints_one (l:List Int):∀ u ∈ l.map (Value.int .i64),u.oneCell'=true:=by
 intro u hu; obtain ⟨s,_,rfl⟩:=List.mem_map.1 hu; rfl
abbrev rqC (r:Rq) (dv tv:Value):Array Value:=#[.bool r.write,.int .i64 r.lo,.int .i64 r.many,dv,tv,.int .i64 r.born]
structure MSt (B:Nat) (w wr:World) (x y:Rq) (xd xt yd yt:Value) (z:Array Value):Prop where
 below:Below B w wr
 b0:wr.heap[B]?=some (.cells (rqC x xd xt) 117 (0,0))
 b1:wr.heap[B+1]?=some (.cells (rqC y yd yt) 117 (0,0))
 b2:wr.heap[B+2]?=some (.cells z 117 (0,0))
 lt:B+2<wr.heap.size
section
variable {B:Nat} {w wr w':World} {x y:Rq} {xd xt yd yt:Value} {z:Array Value}
theorem MSt.step (h:MSt B w wr x y xd xt yd yt z) (hb:Below wr.heap.size wr w'):MSt B w w' x y xd xt yd yt z :=
 have:=h.lt
 ⟨h.below.trans (hb.mono (by omega)),(hb.block _ (by omega)).trans h.b0,(hb.block _ (by omega)).trans h.b1,(hb.block _ (by omega)).trans h.b2,by have:=hb.size; omega⟩
theorem MSt.limbs (h:MSt B w wr x y xd xt yd yt z) (hb:Below (B+2) wr w') :
  w'.cell? ⟨B,0,none⟩=some (.bool x.write)∧w'.cell? ⟨B,1,none⟩=some (.int .i64 x.lo)∧w'.cell? ⟨B,2,none⟩=some (.int .i64 x.many)∧w'.cell? ⟨B,3,none⟩=some xd∧w'.cell? ⟨B,4,none⟩=some xt∧w'.cell? ⟨B,5,none⟩=some (.int .i64 x.born) ∧
  w'.cell? ⟨B+1,0,none⟩=some (.bool y.write)∧w'.cell? ⟨B+1,1,none⟩=some (.int .i64 y.lo)∧w'.cell? ⟨B+1,2,none⟩=some (.int .i64 y.many)∧w'.cell? ⟨B+1,3,none⟩=some yd∧w'.cell? ⟨B+1,4,none⟩=some yt∧w'.cell? ⟨B+1,5,none⟩=some (.int .i64 y.born):=by
 have h0:=(hb.block B (by omega)).trans h.b0;have h1:=(hb.block (B+1) (by omega)).trans h.b1
 exact ⟨cell_of_row _ _ 0 _ _ _ h0,cell_of_row _ _ 1 _ _ _ h0,cell_of_row _ _ 2 _ _ _ h0,cell_of_row _ _ 3 _ _ _ h0,cell_of_row _ _ 4 _ _ _ h0,cell_of_row _ _ 5 _ _ _ h0,
  cell_of_row _ _ 0 _ _ _ h1,cell_of_row _ _ 1 _ _ _ h1,cell_of_row _ _ 2 _ _ _ h1,cell_of_row _ _ 3 _ _ _ h1,cell_of_row _ _ 4 _ _ _ h1,cell_of_row _ _ 5 _ _ _ h1⟩
theorem MSt.frozen (h:MSt B w wr x y xd xt yd yt z) (j:Nat):wr.frozen? ⟨B,j,none⟩=false∧wr.frozen? ⟨B+1,j,none⟩=false∧wr.frozen? ⟨B+2,j,none⟩=false :=
 ⟨frozen_of_row _ _ j _ _ h.b0,frozen_of_row _ _ j _ _ h.b1,frozen_of_row _ _ j _ _ h.b2⟩
end
theorem MSt.start (w:World) (x y:Rq) (xd xt yd yt:Value):MSt w.heap.size w (((w.alloc (Obj.cells #[Value.bool x.write,Value.int IntKind.i64 x.lo,Value.int IntKind.i64 x.many,xd,xt,Value.int IntKind.i64 x.born] 117)).alloc (Obj.cells #[Value.bool y.write,Value.int IntKind.i64 y.lo,Value.int IntKind.i64 y.many,yd,yt,Value.int IntKind.i64 y.born] 117)).alloc (Obj.cells #[Value.bool false,Value.int IntKind.i64 0,Value.int IntKind.i64 0,Value.slice none 0 0,Value.slice none 0 0,Value.int IntKind.i64 0] 117)) x y xd xt yd yt #[Value.bool false,Value.int IntKind.i64 0,Value.int IntKind.i64 0,Value.slice none 0 0,Value.slice none 0 0,Value.int IntKind.i64 0]:=by
 refine ⟨(((Below.refl _ _).alloc (Nat.le_refl _) _).alloc (by simp) _).alloc (by simp; omega) _,(Below.heap_alloc _ _ _ (by simp; omega)).trans (heap_alloc2_old _ _ _),(Below.heap_alloc _ _ _ (by simp)).trans (heap_alloc2_new _ _ _),?_,by simp⟩;have e:((w.alloc (Obj.cells #[Value.bool x.write,Value.int IntKind.i64 x.lo,Value.int IntKind.i64 x.many,xd,xt,Value.int IntKind.i64 x.born] 117)).alloc (Obj.cells #[Value.bool y.write,Value.int IntKind.i64 y.lo,Value.int IntKind.i64 y.many,yd,yt,Value.int IntKind.i64 y.born] 117)).heap.size=w.heap.size+2:=by simp
 rw [← e];exact heap_alloc_new _ _
theorem MSt.zs {B:Nat} {w wr:World} {x y:Rq} {xd xt yd yt:Value} {z0 z1 z2 z3 z4 z5:Value} (h:MSt B w wr x y xd xt yd yt #[z0,z1,z2,z3,z4,z5]) :
  (wr.cell? ⟨B+2,0,none⟩=some z0∧wr.cell? ⟨B+2,1,none⟩=some z1∧wr.cell? ⟨B+2,2,none⟩=some z2∧wr.cell? ⟨B+2,3,none⟩=some z3∧wr.cell? ⟨B+2,4,none⟩=some z4∧wr.cell? ⟨B+2,5,none⟩=some z5) ∧
  (wr.frozen? ⟨B+2,0,none⟩=false∧wr.frozen? ⟨B+2,1,none⟩=false∧wr.frozen? ⟨B+2,2,none⟩=false∧wr.frozen? ⟨B+2,3,none⟩=false∧wr.frozen? ⟨B+2,4,none⟩=false∧wr.frozen? ⟨B+2,5,none⟩=false) :=
 ⟨⟨cell_of_row _ _ 0 _ _ _ h.b2,cell_of_row _ _ 1 _ _ _ h.b2,cell_of_row _ _ 2 _ _ _ h.b2,cell_of_row _ _ 3 _ _ _ h.b2,cell_of_row _ _ 4 _ _ _ h.b2,cell_of_row _ _ 5 _ _ _ h.b2⟩,
  ⟨frozen_of_row _ _ 0 _ _ h.b2,frozen_of_row _ _ 1 _ _ h.b2,frozen_of_row _ _ 2 _ _ h.b2,frozen_of_row _ _ 3 _ _ h.b2,frozen_of_row _ _ 4 _ _ h.b2,frozen_of_row _ _ 5 _ _ h.b2⟩⟩
theorem MSt.swap {B:Nat} {w wr:World} {x y:Rq} {xd xt yd yt:Value} {z:Array Value} (h:MSt B w wr x y xd xt yd yt z) (hw:w.heap.size≤B) :
  MSt B w ((((((((((((wr.setCell ⟨B,0,none⟩ (.bool y.write)).setCell ⟨B,1,none⟩ (.int .i64 y.lo)).setCell ⟨B,2,none⟩ (.int .i64 y.many)).setCell ⟨B,3,none⟩ yd).setCell ⟨B,4,none⟩ yt).setCell ⟨B,5,none⟩ (.int .i64 y.born)).setCell
   ⟨B+1,0,none⟩ (.bool x.write)).setCell ⟨B+1,1,none⟩ (.int .i64 x.lo)).setCell ⟨B+1,2,none⟩ (.int .i64 x.many)).setCell ⟨B+1,3,none⟩ xd).setCell ⟨B+1,4,none⟩ xt).setCell ⟨B+1,5,none⟩ (.int .i64 x.born)) y x yd yt xd xt z:=by
 have k0:=heap_setCell_same _ _ 0 _ _ (.bool y.write) h.b0;have k1:=heap_setCell_same _ _ 1 _ _ (.int .i64 y.lo) k0;have k2:=heap_setCell_same _ _ 2 _ _ (.int .i64 y.many) k1;have k3:=heap_setCell_same _ _ 3 _ _ yd k2;have k4:=heap_setCell_same _ _ 4 _ _ yt k3;have k5:=heap_setCell_same _ _ 5 _ _ (.int .i64 y.born) k4
 have j:∀ k,k≠B→((((((wr.setCell ⟨B,0,none⟩ (.bool y.write)).setCell ⟨B,1,none⟩ (.int .i64 y.lo)).setCell ⟨B,2,none⟩ (.int .i64 y.many)).setCell ⟨B,3,none⟩ yd).setCell ⟨B,4,none⟩ yt).setCell ⟨B,5,none⟩ (.int .i64 y.born)).heap[k]?=wr.heap[k]?:=by
  intro k hk;repeat (rw [heap_setCell_other _ _ _ _ (by simpa using hk)])
 have l0:=heap_setCell_same _ _ 0 _ _ (.bool x.write) ((j (B+1) (by omega)).trans h.b1);have l1:=heap_setCell_same _ _ 1 _ _ (.int .i64 x.lo) l0;have l2:=heap_setCell_same _ _ 2 _ _ (.int .i64 x.many) l1;have l3:=heap_setCell_same _ _ 3 _ _ xd l2;have l4:=heap_setCell_same _ _ 4 _ _ xt l3;have l5:=heap_setCell_same _ _ 5 _ _ (.int .i64 x.born) l4;refine ⟨?_,?_,?_,?_,by simpa using h.lt⟩
 ·refine h.below.trans ?_
  repeat ((with_reducible refine Below.setCell ?_ ?hp _); case hp=>simp)
  exact Below.refl _ _
 ·iterate 6 (rw [heap_setCell_other _ _ B _ (by simp)])
  rw [k5]; rfl
 ·rw [l5]; rfl
 ·repeat (rw [heap_setCell_other _ _ (B+2) _ (by simp)])
  exact h.b2
theorem MSt.put {B:Nat} {w wr:World} {x y:Rq} {xd xt yd yt:Value} {z0 z1 z2 z3 z4 z5:Value} (h:MSt B w wr x y xd xt yd yt #[z0,z1,z2,z3,z4,z5]) (hw:w.heap.size≤B) (v0 v1 v2 v3 v4 v5:Value) :
  MSt B w ((((((wr.setCell ⟨B+2,0,none⟩ v0).setCell ⟨B+2,1,none⟩ v1).setCell ⟨B+2,2,none⟩ v2).setCell ⟨B+2,3,none⟩ v3).setCell ⟨B+2,4,none⟩ v4).setCell ⟨B+2,5,none⟩ v5) x y xd xt yd yt #[v0,v1,v2,v3,v4,v5]:=by
 have k0:=heap_setCell_same _ _ 0 _ _ v0 h.b2;have k1:=heap_setCell_same _ _ 1 _ _ v1 k0;have k2:=heap_setCell_same _ _ 2 _ _ v2 k1;have k3:=heap_setCell_same _ _ 3 _ _ v3 k2;have k4:=heap_setCell_same _ _ 4 _ _ v4 k3;have k5:=heap_setCell_same _ _ 5 _ _ v5 k4;refine ⟨?_,?_,?_,?_,by simpa using h.lt⟩
 ·refine h.below.trans ?_
  repeat ((with_reducible refine Below.setCell ?_ ?hp _); case hp=>simp)
  exact Below.refl _ _
 ·repeat (rw [heap_setCell_other _ _ B _ (by simp)])
  exact h.b0
 ·repeat (rw [heap_setCell_other _ _ (B+1) _ (by simp)])
  exact h.b1
 ·rw [k5]; rfl
theorem zero_at {S:Nat→Prop} {w:World}:ReqAt S w (.agg #[.bool false,.int .i64 0,.int .i64 0,.slice none 0 0,.slice none 0 0,.int .i64 0]) zeroR :=
 ⟨⟨zeroR,.slice none 0 0,.slice none 0 0⟩,rfl,rfl,⟨Rd.nil,by simp⟩,⟨Rd.nil,by simp⟩,by unfold i64; simp,by unfold i64; simp,by unfold i64; simp⟩
def MF2 (w3:World) (T:TypeId) (a b:Value):SlotFact:=fun v w=>∃ g,v=.slice (some ⟨g,0,none⟩) 2 2∧w3.heap.size≤g∧g<w.heap.size∧w.heap[g]?=some (.cells #[a,b] T (0,0))
def MF1 (w3:World) (T:TypeId) (n:Nat) (xs:List Value):SlotFact:=fun v w=>w.ownsRow w3.heap.size T 1 v n xs
abbrev MF65 (w3:World) (x y:Rq):SlotFact:=MF1 w3 9 (x.data.length+y.data.length) (x.data.map .string ++ y.data.map .string)
abbrev MF71 (w3:World) (x y:Rq):SlotFact:=MF1 w3 3 (x.tags.length+y.tags.length) (x.tags.map (.int .i64) ++ y.tags.map (.int .i64))
def MF7 (w3:World) (x y:Rq):SlotFact:=fun v w=>∃ p q,v=.agg #[.bool x.write,.int .i64 x.lo,.int .i64 (x.many+y.many),p,q,.int .i64 (min x.born y.born)]∧MF65 w3 x y p w∧MF71 w3 x y q w
def MEv (w w3:World) (x y:Rq) (u:World):Prop:=∃ p q,u.heap[w.heap.size+2]?=some (.cells #[.bool x.write,.int .i64 x.lo,.int .i64 (x.many+y.many),p,q,.int .i64 (min x.born y.born)] 117 (0,0))∧MF65 w3 x y p u∧MF71 w3 x y q u
structure MJ (w w3 u:World):Prop where
 below:Below (w.heap.size+2) w3 u
 row:∃ z0 z1 z2 z3 z4 z5,u.heap[w.heap.size+2]?=some (.cells #[z0,z1,z2,z3,z4,z5] 117 (0,0))
 size:w3.heap.size≤u.heap.size
structure MR (w w3:World) (x y:Rq) (u u':World):Prop where
 size:u.heap.size≤u'.heap.size
 keep:∀ b,w3.heap.size≤b→b<u.heap.size→u'.heap[b]?=u.heap[b]?
 res:u'.heap[w.heap.size+2]?=u.heap[w.heap.size+2]?∨MEv w w3 x y u'
theorem MR.refl {w w3:World} {x y:Rq} (u:World):MR w w3 x y u u:=⟨Nat.le_refl _,fun _ _ _=>rfl,.inl rfl⟩
theorem MF1.step {w w3 u u':World} {x y:Rq} {T:TypeId} {n:Nat} {xs:List Value} {v:Value} (h:MF1 w3 T n xs v u) (hr:MR w w3 x y u u'):MF1 w3 T n xs v u':=own_keepL h hr.keep
theorem MEv.step {w w3 u u':World} {x y:Rq} (h:MEv w w3 x y u) (hr:MR w w3 x y u u'):MEv w w3 x y u':=by
 rcases hr.res with h1 | h1
 ·obtain ⟨p,q,h2,h3,h4⟩:=h
  exact ⟨p,q,h1.trans h2,h3.step hr,h4.step hr⟩
 ·exact h1
def RetMerge (S:Nat→Prop) (o:Option Rq) (w:World):Ending→World→Prop:=fun E w'=>∃ v,E=.returned (.tuple #[v,.bool o.isSome])∧ReqAt S w' v (o.getD zeroR)∧Below w.heap.size w w'
theorem ret_none {S:Nat→Prop} {w w':World} (h:Below w.heap.size w w'):RetMerge S none w (.returned (.tuple #[.agg #[.bool false,.int .i64 0,.int .i64 0,.slice none 0 0,.slice none 0 0,.int .i64 0],.bool false])) w' :=
 ⟨_,rfl,zero_at,h⟩
theorem ret_some {S:Nat→Prop} {w w':World} {r:Rq} {v:Value} (hv:ReqAt S w' v r) (h:Below w.heap.size w w'):RetMerge S (some r) w (.returned (.tuple #[v,.bool true])) w' :=
 ⟨_,rfl,hv,h⟩
theorem MF2.step {w w3 u u':World} {x y:Rq} {T:TypeId} {a b:Value} {v:Value} (h:MF2 w3 T a b v u) (hr:MR w w3 x y u u'):MF2 w3 T a b v u':=by
 obtain ⟨g,h1,h2,h3,h4⟩:=h;exact ⟨g,h1,h2,Nat.lt_of_lt_of_le h3 hr.size,(hr.keep g h2 h3).trans h4⟩
theorem MF7.step {w w3 u u':World} {x y:Rq} {v:Value} (h:MF7 w3 x y v u) (hr:MR w w3 x y u u'):MF7 w3 x y v u':=by
 obtain ⟨p,q,h1,h2,h3⟩:=h;exact ⟨p,q,h1,h2.step hr,h3.step hr⟩
theorem MJ.more {w w3 u u':World} (h:MJ w w3 u) (hb:Below u.heap.size u u') (hlt:w.heap.size+2<w3.heap.size):MJ w w3 u':=by
 have h1:=h.size;obtain ⟨z0,z1,z2,z3,z4,z5,hz⟩:=h.row;exact ⟨h.below.trans (hb.mono (by omega)),⟨z0,z1,z2,z3,z4,z5,(hb.block _ (by omega)).trans hz⟩,by have:=hb.size; omega⟩
theorem MR.more {w w3 u u':World} {x y:Rq} (hb:Below u.heap.size u u') (hlt:w.heap.size+2<u.heap.size):MR w w3 x y u u':=⟨hb.size,fun b _ h=>hb.block b h,.inl (hb.block _ hlt)⟩
theorem MJ.put {w w3 u:World} {x y:Rq} {p q:Value} (h:MJ w w3 u) (hlt:w.heap.size+2<w3.heap.size) (hp:MF65 w3 x y p u) (hq:MF71 w3 x y q u) (u':World)
  (hu:u'=(((((u.setCell ⟨w.heap.size+2,0,none⟩ (.bool x.write)).setCell ⟨w.heap.size+2,1,none⟩ (.int .i64 x.lo)).setCell ⟨w.heap.size+2,2,none⟩ (.int .i64 (x.many+y.many))).setCell ⟨w.heap.size+2,3,none⟩ p).setCell ⟨w.heap.size+2,4,none⟩ q).setCell ⟨w.heap.size+2,5,none⟩ (.int .i64 (min x.born y.born))) :
  MJ w w3 u'∧MR w w3 x y u u'∧MEv w w3 x y u':=by
 obtain ⟨z0,z1,z2,z3,z4,z5,hz⟩:=h.row;have h1:=h.size;have k0:=heap_setCell_same _ _ 0 _ _ (.bool x.write) hz;have k1:=heap_setCell_same _ _ 1 _ _ (.int .i64 x.lo) k0;have k2:=heap_setCell_same _ _ 2 _ _ (.int .i64 (x.many+y.many)) k1;have k3:=heap_setCell_same _ _ 3 _ _ p k2;have k4:=heap_setCell_same _ _ 4 _ _ q k3;have k5:=heap_setCell_same _ _ 5 _ _ (.int .i64 (min x.born y.born)) k4;rw [← hu] at k5;have hsz:u'.heap.size=u.heap.size:=by rw [hu]; simp
 have hk:∀ k,k≠w.heap.size+2→u'.heap[k]?=u.heap[k]?:=by
  intro k hk;rw [hu];repeat (rw [heap_setCell_other _ _ k _ (by simpa using hk)])
 have hb:Below (w.heap.size+2) u u':=by
  rw [hu];repeat ((with_reducible refine Below.setCell ?_ ?hp _); case hp=>simp)
  exact Below.refl _ _
 have hR:MEv w w3 x y u':=⟨p,q,k5,own_keepL hp (fun g hg _=>hk g (by omega)),own_keepL hq (fun g hg _=>hk g (by omega))⟩
 exact ⟨⟨h.below.trans hb,⟨_,_,_,_,_,_,k5⟩,by omega⟩,⟨by omega,fun b hb _=>hk b (by omega),.inr hR⟩,hR⟩
theorem ret_joined {S:Nat→Prop} {w w3 u:World} {x y:Rq} (hS:∀ b,w.heap.size≤b→S b) (hw3:w.heap.size≤w3.heap.size) (hx:ReqOk x) (hy:ReqOk y) (hxs:∀ s ∈ x.data,s.size≤maxLen) (hys:∀ s ∈ y.data,s.size≤maxLen)
  (hxt:∀ t ∈ x.tags,-9223372036854775808≤t∧t≤9223372036854775807) (hyt:∀ t ∈ y.tags,-9223372036854775808≤t∧t≤9223372036854775807) {p q:Value} (hp:MF65 w3 x y p u) (hq:MF71 w3 x y q u) (hb:Below w.heap.size w u) :
  RetMerge S (some (joinM x y)) w (.returned (.tuple #[.agg #[.bool x.write,.int .i64 x.lo,.int .i64 (x.many+y.many),p,q,.int .i64 (min x.born y.born)],.bool true])) u:=by
 obtain ⟨a1,a2,a3,a4,a5⟩:=hx.span;obtain ⟨b1,b2,b3,b4,b5⟩:=hy.span;obtain ⟨n1,n2⟩:=hx.born;obtain ⟨m1,m2⟩:=hy.born;refine ret_some ⟨⟨joinM x y,p,q⟩,rfl,rfl,?_⟩ hb;refine ⟨strs_own (base:=w3.heap.size) (e:=9) (fun b hb=>hS b (by omega)) (by simpa [joinM,MF65,MF1] using hp) ?_,ints_own (base:=w3.heap.size) (e:=3) (fun b hb=>hS b (by omega)) (by simpa [joinM,MF71,MF1] using hq) ?_,?_,?_,?_⟩
 ·intro s hs
  rcases List.mem_append.1 hs with h | h
  ·exact hxs s h
  ·exact hys s h
 ·intro s hs
  rcases List.mem_append.1 hs with h | h
  ·exact hxt s h
  ·exact hyt s h
 ·show i64 x.lo; unfold i64; omega
 ·show i64 (x.many+y.many); unfold i64; omega
 ·show i64 (min x.born y.born); unfold i64; omega
theorem merge_go (S:Nat→Prop) (x y:Rq) (vx vy:Value) (args:Array Value) (w:World) (hS:∀ b,w.heap.size≤b→S b) (hx:ReqAt S w vx x) (hy:ReqAt S w vy y) (okx:ReqOk x) (oky:ReqOk y)
  (hargs:(args=#[vx,vy]∧y.lo+y.many≠x.lo)∨(args=#[vy,vx]∧x.lo+x.many=y.lo)) :
  Calls Tryz.prog 168 args w (RetMerge S (joinedM x y) w):=by
 obtain ⟨Ad,cd,At,ct,rfl,had,hat,adl,atl,_,_,_⟩:=hx.opened;obtain ⟨Bd,dd,Bt,dt,rfl,hbd,hbt,bdl,btl,_,_,_⟩:=hy.opened;have Had:=Lib.hid had;have Hat:=Lib.hid hat;have Hbd:=Lib.hid hbd;have Hbt:=Lib.hid hbt;have HS:=Lib.hid hS;have Hokx:=Lib.hid okx;have Hoky:=Lib.hid oky;obtain ⟨a1,a2,a3,a4,a5⟩:=okx.span;obtain ⟨b1,b2,b3,b4,b5⟩:=oky.span;clear hx hy had hat hbd hbt hS okx oky
 rcases hargs with ⟨rfl,hs⟩ | ⟨rfl,hs⟩
 have hs1:(y.lo+y.many == x.lo)=false:=by simpa using hs
 clear hs;go_enter Tryz.func168,Tryz.ntmps168;go_wp2_with fail;have hM:=MSt.start w x y (.slice Ad x.data.length cd) (.slice At x.tags.length ct) (.slice Bd y.data.length dd) (.slice Bt y.tags.length dt);generalize (((w.alloc (Obj.cells #[Value.bool x.write,Value.int IntKind.i64 x.lo,Value.int IntKind.i64 x.many,(Value.slice Ad x.data.length cd),(Value.slice At x.tags.length ct),Value.int IntKind.i64 x.born] 117)).alloc (Obj.cells #[Value.bool y.write,Value.int IntKind.i64 y.lo,Value.int IntKind.i64 y.many,(Value.slice Bd y.data.length dd),(Value.slice Bt y.tags.length dt),Value.int IntKind.i64 y.born] 117)).alloc (Obj.cells #[Value.bool false,Value.int IntKind.i64 0,Value.int IntKind.i64 0,Value.slice none 0 0,Value.slice none 0 0,Value.int IntKind.i64 0] 117))=W at hM ⊢;refine (next_any y.lo y.many x.lo x.many _ b1 (by omega) (by omega) (by omega)).mono ?_;rintro e w2 ⟨rfl,hb1⟩;have hM2:=hM.step hb1
 obtain ⟨⟨c0,c1,c2,c3,c4,c5,d0,d1,d2,d3,d4,d5⟩⟩:Nonempty _:=⟨hM2.limbs (Below.refl _ _)⟩
 clear hM hb1;go_wp2_with fail;rotate_left;have hs1:(x.lo+x.many == y.lo)=true:=by simpa using hs
 clear hs;go_enter Tryz.func168,Tryz.ntmps168;go_wp2_with fail;have hM:=MSt.start w y x (.slice Bd y.data.length dd) (.slice Bt y.tags.length dt) (.slice Ad x.data.length cd) (.slice At x.tags.length ct);generalize (((w.alloc (Obj.cells #[Value.bool y.write,Value.int IntKind.i64 y.lo,Value.int IntKind.i64 y.many,(Value.slice Bd y.data.length dd),(Value.slice Bt y.tags.length dt),Value.int IntKind.i64 y.born] 117)).alloc (Obj.cells #[Value.bool x.write,Value.int IntKind.i64 x.lo,Value.int IntKind.i64 x.many,(Value.slice Ad x.data.length cd),(Value.slice At x.tags.length ct),Value.int IntKind.i64 x.born] 117)).alloc (Obj.cells #[Value.bool false,Value.int IntKind.i64 0,Value.int IntKind.i64 0,Value.slice none 0 0,Value.slice none 0 0,Value.int IntKind.i64 0] 117))=W at hM ⊢;refine (next_any x.lo x.many y.lo y.many _ a1 (by omega) (by omega) (by omega)).mono ?_;rintro e w1 ⟨rfl,hb1⟩;have hM1:=hM.step hb1
 obtain ⟨⟨c0,c1,c2,c3,c4,c5,d0,d1,d2,d3,d4,d5⟩⟩:Nonempty _:=⟨hM1.limbs (Below.refl _ _)⟩
 have fr:=hM1.frozen;have hM2:=hM1.swap (Nat.le_refl _);obtain ⟨f0,g0,_⟩:=fr 0;obtain ⟨f1,g1,_⟩:=fr 1;obtain ⟨f2,g2,_⟩:=fr 2;obtain ⟨f3,g3,_⟩:=fr 3;obtain ⟨f4,g4,_⟩:=fr 4;obtain ⟨f5,g5,_⟩:=fr 5;clear hM hb1 fr;go_wp2_with fail
 generalize ((((((((((((w1.setCell ⟨w.heap.size,0,none⟩ (.bool x.write)).setCell ⟨w.heap.size,1,none⟩ (.int .i64 x.lo)).setCell ⟨w.heap.size,2,none⟩ (.int .i64 x.many)).setCell ⟨w.heap.size,3,none⟩ (.slice Ad x.data.length cd)).setCell ⟨w.heap.size,4,none⟩ (.slice At x.tags.length ct)).setCell ⟨w.heap.size,5,none⟩ (.int .i64 x.born)).setCell
  ⟨w.heap.size+1,0,none⟩ (.bool y.write)).setCell ⟨w.heap.size+1,1,none⟩ (.int .i64 y.lo)).setCell ⟨w.heap.size+1,2,none⟩ (.int .i64 y.many)).setCell ⟨w.heap.size+1,3,none⟩ (.slice Bd y.data.length dd)).setCell ⟨w.heap.size+1,4,none⟩ (.slice Bt y.tags.length dt)).setCell ⟨w.heap.size+1,5,none⟩ (.int .i64 y.born))=w2 at hM2 ⊢
 clear c0 c1 c2 c3 c4 c5 d0 d1 d2 d3 d4 d5 f0 f1 f2 f3 f4 f5 g0 g1 g2 g3 g4 g5 hM1
 obtain ⟨⟨c0,c1,c2,c3,c4,c5,d0,d1,d2,d3,d4,d5⟩⟩:Nonempty _:=⟨hM2.limbs (Below.refl _ _)⟩
 rotate_left
 all_goals
  refine (next_any x.lo x.many y.lo y.many _ a1 (by omega) (by omega) (by omega)).mono ?_;rintro e w3 ⟨rfl,hb3⟩;have hM3:=hM2.step hb3;clear c0 c1 c2 c3 c4 c5 d0 d1 d2 d3 d4 d5 hM2 hb3
  obtain ⟨⟨c0,c1,c2,c3,c4,c5,d0,d1,d2,d3,d4,d5⟩⟩:Nonempty _:=⟨hM3.limbs (Below.refl _ _)⟩
  have fr:=hM3.frozen;obtain ⟨_,_,f0⟩:=fr 0;obtain ⟨_,_,f1⟩:=fr 1;obtain ⟨_,_,f2⟩:=fr 2;obtain ⟨_,_,f3⟩:=fr 3;obtain ⟨_,_,f4⟩:=fr 4;obtain ⟨_,_,f5⟩:=fr 5;have z0:w3.cell? ⟨w.heap.size+2,0,none⟩=some (.bool false):=cell_of_row _ _ 0 _ _ _ hM3.b2;have z1:w3.cell? ⟨w.heap.size+2,1,none⟩=some (.int .i64 0):=cell_of_row _ _ 1 _ _ _ hM3.b2;have z2:w3.cell? ⟨w.heap.size+2,2,none⟩=some (.int .i64 0):=cell_of_row _ _ 2 _ _ _ hM3.b2;have z3:w3.cell? ⟨w.heap.size+2,3,none⟩=some (.slice none 0 0):=cell_of_row _ _ 3 _ _ _ hM3.b2;have z4:w3.cell? ⟨w.heap.size+2,4,none⟩=some (.slice none 0 0):=cell_of_row _ _ 4 _ _ _ hM3.b2;have z5:w3.cell? ⟨w.heap.size+2,5,none⟩=some (.int .i64 0):=cell_of_row _ _ 5 _ _ _ hM3.b2;obtain ⟨t1,t2⟩:=Hokx.out.tags;obtain ⟨t3,t4⟩:=Hoky.out.tags
  have key:(joinOk x y)∨(joinedM x y=none∧(((x.lo+x.many == y.lo)=false)∨((x.lo+x.many == y.lo)=true∧((x.write=true∧y.write=false)∨(x.write=false∧y.write=true))) ∨
    ((x.lo+x.many == y.lo)=true∧x.write=y.write∧decide (4<x.many+y.many)=true)∨((x.lo+x.many == y.lo)=true∧x.write=y.write∧decide (4<x.many+y.many)=false∧4<(x.tags.length:Int)+(y.tags.length:Int)))):=by
   by_cases hk:joinOk x y
   ·exact .inl hk
   ·right
    refine ⟨by unfold joinedM; rw [if_neg hk],?_⟩;unfold joinOk at hk;by_cases h1:x.lo+x.many=y.lo
    ·by_cases h2:x.write=y.write
     ·by_cases h3:x.many+y.many≤4
      ·right; right; right
       exact ⟨by simpa using h1,h2,by simp; omega,by have:¬ (x.tags.length+y.tags.length≤4):=fun h=>hk ⟨h1,h2,h3,h⟩; omega⟩
      ·right; right; left
       exact ⟨by simpa using h1,h2,by simp; omega⟩
     ·right; left
      refine ⟨by simpa using h1,?_⟩
      cases hx:x.write <;> cases hy:y.write <;> simp [hx,hy] at h2 ⊢
    ·left; simpa using h1
  rcases key with hk | ⟨hn,hbad⟩
  ·have hj:joinedM x y=some (joinM x y):=by unfold joinedM; rw [if_pos hk]
   have Hj:=Lib.hid hj;clear hj;obtain ⟨h1',h2,h3',h4'⟩:=hk;have h1:(x.lo+x.many == y.lo)=true:=by simpa using h1'
   have h3:decide (4<x.many+y.many)=false:=by simp; omega
   have h4:decide (4<(x.tags.length:Int)+(y.tags.length:Int))=false:=by simp; omega
   have hsum:IntKind.i64.wrap (x.many+y.many)=x.many+y.many:=IntWalk.i64_in _ (by omega);have hltz:=hM3.lt;have HM3:=Lib.hid hM3;have hl1:x.data.length≤30000:=by have:=Hokx.out.shape; unfold shapeOk at this; split at this <;> omega
   have hl2:y.data.length≤30000:=by have:=Hoky.out.shape; unfold shapeOk at this; split at this <;> omega
   rw [h2] at c0;go_wp2_with fail;refine wp_region_inv2 mixed [(47,fun v _=>v=.pointer (some ⟨w.heap.size,0,none⟩)),(48,fun v _=>v=.bool x.write),(49,fun v _=>v=.pointer (some ⟨w.heap.size,1,none⟩)),(50,fun v _=>v=.pointer (some ⟨w.heap.size,1,none⟩)),(51,fun v _=>v=.int .i64 x.lo),(52,fun v _=>v=.pointer (some ⟨w.heap.size,1,none⟩)),(53,fun v _=>v=.pointer (some ⟨w.heap.size,2,none⟩)),(54,fun v _=>v=.int .i64 x.many),(55,fun v _=>v=.pointer (some ⟨w.heap.size+1,1,none⟩)),(56,fun v _=>v=.pointer (some ⟨w.heap.size+1,2,none⟩)),(57,fun v _=>v=.int .i64 y.many),(58,fun v _=>v=.int .i64 (x.many+y.many)),(59,fun v _=>v=.agg #[.int .i64 x.lo,.int .i64 (x.many+y.many)]),(60,fun v _=>v=.pointer (some ⟨w.heap.size,3,none⟩)),(61,fun v _=>v=.slice Ad x.data.length cd),(62,fun v _=>v=.pointer (some ⟨w.heap.size+1,3,none⟩)),(63,fun v _=>v=.slice Bd y.data.length dd),(64,MF2 w3 22 (.slice Ad x.data.length cd) (.slice Bd y.data.length dd)),(65,MF1 w3 9 (x.data.length+y.data.length) (x.data.map .string ++ y.data.map .string)),(66,fun v _=>v=.pointer (some ⟨w.heap.size,4,none⟩)),(67,fun v _=>v=.slice At x.tags.length ct),(68,fun v _=>v=.pointer (some ⟨w.heap.size+1,4,none⟩)),(69,fun v _=>v=.slice Bt y.tags.length dt),(70,MF2 w3 103 (.slice At x.tags.length ct) (.slice Bt y.tags.length dt)),(71,MF1 w3 3 (x.tags.length+y.tags.length) (x.tags.map (.int .i64) ++ y.tags.map (.int .i64))),(72,fun v _=>v=.pointer (some ⟨w.heap.size,5,none⟩)),(73,fun v _=>v=.int .i64 x.born),(74,fun v _=>v=.pointer (some ⟨w.heap.size+1,5,none⟩)),(75,fun v _=>v=.int .i64 y.born),(76,fun v _=>v=.int .i64 (min x.born y.born)),(77,MF7 w3 x y),(5,fun v _=>v=.bool true)] (MJ w w3) (MR w w3 x y) (fun k w'=>k=31→MEv w w3 x y w') (by kernel_rfl) rfl (by decide) ⟨(Below.refl _ _).drew,⟨_,_,_,_,_,_,HM3.out.b2⟩,Nat.le_refl _⟩ ?st (fun k u u' h hr hk=>(h hk).step hr) ?steps ?fin;case st=>exact ⟨fun v u u' h _=>h,fun v u u' h _=>h,fun v u u' h _=>h,fun v u u' h _=>h,fun v u u' h _=>h,fun v u u' h _=>h,fun v u u' h _=>h,fun v u u' h _=>h,fun v u u' h _=>h,fun v u u' h _=>h,fun v u u' h _=>h,fun v u u' h _=>h,fun v u u' h _=>h,fun v u u' h _=>h,fun v u u' h _=>h,fun v u u' h _=>h,fun v u u' h _=>h,fun v u u' h hr=>h.step hr,fun v u u' h hr=>h.step hr,fun v u u' h _=>h,fun v u u' h _=>h,fun v u u' h _=>h,fun v u u' h _=>h,fun v u u' h hr=>h.step hr,fun v u u' h hr=>h.step hr,fun v u u' h _=>h,fun v u u' h _=>h,fun v u u' h _=>h,fun v u u' h _=>h,fun v u u' h _=>h,fun v u u' h hr=>h.step hr,fun v u u' h _=>h,trivial⟩
   case steps =>
    refine ⟨?_,?_,?_,?_,?_,?_,?_,?_,?_,?_,?_,?_,?_,?_,?_,?_,?_,?_,?_,?_,?_,?_,?_,?_,?_,?_,?_,?_,?_,?_,?_,?_,?_,trivial⟩
    all_goals
     intro ρ wq hp hJ hr
     try
      obtain ⟨c0,c1,c2,c3,c4,c5,d0,d1,d2,d3,d4,d5⟩:=HM3.out.limbs hJ.below;have r1:ρ _=_:=hr.1;try have r2:ρ _=_:=hr.2.1
      clear hr;refine gives_value (v:=_) (w':=wq) ?_ ⟨rfl,hJ,MR.refl _,fun h=>absurd h (by decide)⟩;go_simp
      all_goals (rw [Int.min_def]; split <;> split <;> omega)
      done
    ·have r1:ρ (.tmp 61)=.slice Ad x.data.length cd:=hr.1
     have r2:ρ (.tmp 63)=.slice Bd y.data.length dd:=hr.2.1;clear hr;refine gives_value (v:=.slice (some ⟨wq.heap.size,0,none⟩) 2 2) (w':=wq.alloc (.cells #[.slice Ad x.data.length cd,.slice Bd y.data.length dd] 22)) ?_ ⟨⟨_,rfl,hJ.size,by simp,heap_alloc_new _ _⟩,hJ.more ((Below.refl _ _).alloc (Nat.le_refl _) _) hltz,MR.more ((Below.refl _ _).alloc (Nat.le_refl _) _) (Nat.lt_of_lt_of_le hltz hJ.size),fun h=>absurd h (by decide)⟩;go_simp
    ·have r1:MF2 w3 22 (.slice Ad x.data.length cd) (.slice Bd y.data.length dd) (ρ (.tmp 64)) wq:=hr.1
     clear hr;obtain ⟨g,hg,hg1,hg2,hg3⟩:=r1;have hbq:Below w.heap.size w wq:=HM3.out.below.trans (hJ.below.mono (by omega));refine gives_enter (f:=196) (args:=#[.slice (some ⟨g,0,none⟩) 2 2]) (w':=wq) ?_ ((concat_string S g _ _ _ _ _ _ _ _ hg3 (Had.out.1.below hbq) (Hbd.out.1.below hbq) (strs_one _) (strs_one _) (by omega) (by omega)).mono ?_)
     ·have hpf:=hp.func 196
      go_simp
     rintro e u ⟨v,rfl,ho,hb⟩;exact ⟨v,rfl,own_mono ho hJ.size,hJ.more hb hltz,MR.more hb (Nat.lt_of_lt_of_le hltz hJ.size),fun h=>absurd h (by decide)⟩
    ·have r1:ρ (.tmp 67)=.slice At x.tags.length ct:=hr.1
     have r2:ρ (.tmp 69)=.slice Bt y.tags.length dt:=hr.2.1;clear hr;refine gives_value (v:=.slice (some ⟨wq.heap.size,0,none⟩) 2 2) (w':=wq.alloc (.cells #[.slice At x.tags.length ct,.slice Bt y.tags.length dt] 103)) ?_ ⟨⟨_,rfl,hJ.size,by simp,heap_alloc_new _ _⟩,hJ.more ((Below.refl _ _).alloc (Nat.le_refl _) _) hltz,MR.more ((Below.refl _ _).alloc (Nat.le_refl _) _) (Nat.lt_of_lt_of_le hltz hJ.size),fun h=>absurd h (by decide)⟩;go_simp
    ·have r1:MF2 w3 103 (.slice At x.tags.length ct) (.slice Bt y.tags.length dt) (ρ (.tmp 70)) wq:=hr.1
     clear hr;obtain ⟨g,hg,hg1,hg2,hg3⟩:=r1;have hbq:Below w.heap.size w wq:=HM3.out.below.trans (hJ.below.mono (by omega));refine gives_enter (f:=197) (args:=#[.slice (some ⟨g,0,none⟩) 2 2]) (w':=wq) ?_ ((concat_int S g _ _ _ _ _ _ _ _ hg3 (Hat.out.1.below hbq) (Hbt.out.1.below hbq) (ints_one _) (ints_one _) (by omega) (by omega)).mono ?_)
     ·have hpf:=hp.func 197
      go_simp
     rintro e u ⟨v,rfl,ho,hb⟩;exact ⟨v,rfl,own_mono ho hJ.size,hJ.more hb hltz,MR.more hb (Nat.lt_of_lt_of_le hltz hJ.size),fun h=>absurd h (by decide)⟩
    ·have r1:ρ (.tmp 48)=.bool x.write:=hr.1
     have r2:ρ (.tmp 59)=.agg #[.int .i64 x.lo,.int .i64 (x.many+y.many)]:=hr.2.1;have r3:MF1 w3 9 (x.data.length+y.data.length) (x.data.map .string ++ y.data.map .string) (ρ (.tmp 65)) wq:=hr.2.2.1;have r4:MF1 w3 3 (x.tags.length+y.tags.length) (x.tags.map (.int .i64) ++ y.tags.map (.int .i64)) (ρ (.tmp 71)) wq:=hr.2.2.2.1;have r5:ρ (.tmp 76)=.int .i64 (min x.born y.born):=hr.2.2.2.2.1;clear hr;obtain ⟨A1,n1,k1,e1,_⟩:=own_slice' r3;obtain ⟨A2,n2,k2,e2,_⟩:=own_slice' r4;rw [e1] at r3;rw [e2] at r4;refine gives_value (v:=.agg #[.bool x.write,.int .i64 x.lo,.int .i64 (x.many+y.many),.slice A1 n1 k1,.slice A2 n2 k2,.int .i64 (min x.born y.born)]) (w':=wq) ?_ ⟨⟨_,_,rfl,r3,r4⟩,hJ,MR.refl _,fun h=>absurd h (by decide)⟩;clear r3 r4;go_simp
    ·have r1:ρ (.tmp 4)=.pointer (some ⟨w.heap.size+2,0,none⟩):=hr.1
     have r2:MF7 w3 x y (ρ (.tmp 77)) wq:=hr.2.1;clear hr;obtain ⟨p,q,e7,hp7,hq7⟩:=r2;obtain ⟨A1,n1,k1,e1,_⟩:=own_slice' hp7;obtain ⟨A2,n2,k2,e2,_⟩:=own_slice' hq7;subst e1 e2;obtain ⟨g1,g2,g3⟩:=hJ.put (x:=x) (y:=y) hltz hp7 hq7 _ rfl;refine gives_skip (w':=_) ?_ ⟨trivial,g1,g2,fun _=>g3⟩;obtain ⟨z0,z1,z2,z3,z4,z5,hz⟩:=hJ.row;have z0:wq.cell? ⟨w.heap.size+2,0,none⟩=some _:=cell_of_row _ _ 0 _ _ _ hz;have z1:wq.cell? ⟨w.heap.size+2,1,none⟩=some _:=cell_of_row _ _ 1 _ _ _ hz;have z2:wq.cell? ⟨w.heap.size+2,2,none⟩=some _:=cell_of_row _ _ 2 _ _ _ hz;have z3:wq.cell? ⟨w.heap.size+2,3,none⟩=some _:=cell_of_row _ _ 3 _ _ _ hz;have z4:wq.cell? ⟨w.heap.size+2,4,none⟩=some _:=cell_of_row _ _ 4 _ _ _ hz;have z5:wq.cell? ⟨w.heap.size+2,5,none⟩=some _:=cell_of_row _ _ 5 _ _ _ hz;have f0:∀ j,wq.frozen? ⟨w.heap.size+2,j,none⟩=false:=fun j=>frozen_of_row _ _ j _ _ hz
     clear hp7 hq7 g1 g2 g3 hz;go_simp
    ·clear hr
     refine gives_value (v:=.bool true) (w':=wq) ?_ ⟨rfl,hJ,MR.refl _,fun h=>absurd h (by decide)⟩;go_simp;exact hp.const _
   case fin =>
    intro L u hd hsz hout hF hJ hE;obtain ⟨p,q,hz,hp,hq⟩:=hE 31 (by decide) rfl;have h5:L.eval (.tmp 5)=.bool true:=hF.2.2.2.2.2.2.2.2.2.2.2.2.2.2.2.2.2.2.2.2.2.2.2.2.2.2.2.2.2.2.2.1;have h4:L.tmps[4]?=some (.pointer (some ⟨w.heap.size+2,0,none⟩)):=hout 4 (by decide);have hd:L.defers=[]:=hd;clear hout hF hE;obtain ⟨A1,n1,k1,e1,_⟩:=own_slice' hp;obtain ⟨A2,n2,k2,e2,_⟩:=own_slice' hq;subst e1 e2;go_wp2_with fail;have z0:u.cell? ⟨w.heap.size+2,0,none⟩=some _:=cell_of_row _ _ 0 _ _ _ hz;have z1:u.cell? ⟨w.heap.size+2,1,none⟩=some _:=cell_of_row _ _ 1 _ _ _ hz;have z2:u.cell? ⟨w.heap.size+2,2,none⟩=some _:=cell_of_row _ _ 2 _ _ _ hz;have z3:u.cell? ⟨w.heap.size+2,3,none⟩=some _:=cell_of_row _ _ 3 _ _ _ hz;have z4:u.cell? ⟨w.heap.size+2,4,none⟩=some _:=cell_of_row _ _ 4 _ _ _ hz;have z5:u.cell? ⟨w.heap.size+2,5,none⟩=some _:=cell_of_row _ _ 5 _ _ _ hz;rw [Hj.out];have hbf:Below w.heap.size w u:=HM3.out.below.trans (hJ.below.mono (by omega));refine bodyPost_ret ?_ hd (ret_joined HS.out HM3.out.below.size Hokx.out Hoky.out (fun s hs=>Had.out.2 s hs) (fun s hs=>Hbd.out.2 s hs) (fun s hs=>Hat.out.2 s hs) (fun s hs=>Hbt.out.2 s hs) hp hq hbf);simp [results,Tryz.results168,go_sem,z0,z1,z2,z3,z4,z5,h4]
    simpa [Act.eval] using h5
  ·have Hn:=Lib.hid hn
   clear hn
   rcases hbad with h1 | ⟨h1,⟨h2,h3⟩ | ⟨h2,h3⟩⟩ | ⟨h1,h2,h3⟩ | ⟨h1,h2,h3,h4⟩
   all_goals first
    |exact absurd (h1.symm.trans hs1) (by decide)
    |skip
     try rw [h2] at c0
     try rw [h3] at d0
     go_wp2;have hM4:=hM3.put (Nat.le_refl _) (.bool false) (.int .i64 0) (.int .i64 0) (.slice none 0 0) (.slice none 0 0) (.int .i64 0);clear hM3 c0 c1 c2 c3 c4 c5 d0 d1 d2 d3 d4 d5 f0 f1 f2 f3 f4 f5 z0 z1 z2 z3 z4 z5;generalize (((((w3.setCell ⟨w.heap.size+2,0,none⟩ (.bool false)).setCell ⟨w.heap.size+2,1,none⟩ (.int .i64 0)).setCell ⟨w.heap.size+2,2,none⟩ (.int .i64 0)).setCell ⟨w.heap.size+2,3,none⟩ (.slice none 0 0)).setCell ⟨w.heap.size+2,4,none⟩ (.slice none 0 0)).setCell ⟨w.heap.size+2,5,none⟩ (.int .i64 0)=w4 at hM4 ⊢;obtain ⟨⟨z0,z1,z2,z3,z4,z5⟩,_⟩:=hM4.zs;refine bodyPost_ret (v:=.tuple #[.agg #[.bool false,.int .i64 0,.int .i64 0,.slice none 0 0,.slice none 0 0,.int .i64 0],.bool false]) (by simp [results,Tryz.results168,go_sem,z0,z1,z2,z3,z4,z5]) rfl ?_;rw [Hn.out];exact ret_none hM4.below
theorem merge_any (S:Nat→Prop) (a b:Rq) (va vb:Value) (w:World) (hS:∀ b,w.heap.size≤b→S b) (ha:ReqAt S w va a) (hb:ReqAt S w vb b) (oka:ReqOk a) (okb:ReqOk b) :
  Calls Tryz.prog 168 #[va,vb] w (RetMerge S (mergeM a b) w):=by
 unfold mergeM swapM;by_cases hs:b.lo+b.many=a.lo
 ·rw [if_pos hs]; exact merge_go S b a vb va _ w hS hb ha okb oka (.inr ⟨rfl,hs⟩)
 ·rw [if_neg hs]; exact merge_go S a b va vb _ w hS ha hb oka okb (.inl ⟨rfl,hs⟩)
end Go.Proofs.YtagndjihiklmiaaGreatDoor
