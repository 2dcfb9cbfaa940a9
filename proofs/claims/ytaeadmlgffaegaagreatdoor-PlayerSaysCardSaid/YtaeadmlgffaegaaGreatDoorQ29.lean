/- The reference's Merged: two requests that are next to each other, put together. -/
import Derived.Test.YtaeadmlgffaegaaGreatDoorQ28
import Derived.Test.YtaeadmlgffaegaaGreatDoorQ19
set_option linter.unusedSimpArgs false
set_option linter.unusedVariables false
set_option maxRecDepth 100000
set_option maxHeartbeats 8000000
namespace Go.Proofs.YtaeadmlgffaegaaGreatDoor
open Go.RowKit Go.Sort
theorem rmerge_go (S:Nat→Prop) (x y:Rq) (vx vy:Value) (args:Array Value) (w:World) (hx:ReqAt S w vx x) (hy:ReqAt S w vy y) (okx:ReqOk x) (oky:ReqOk y) (hk:joinOk x y)
  (hargs:(args=#[vx,vy]∧y.lo+y.many≠x.lo)∨(args=#[vy,vx]∧x.lo+x.many=y.lo)) :
  Calls Tryz.prog 151 args w (RetMergeO (joinedM x y) w):=by
 obtain ⟨Ad,cd,At,ct,rfl,had,hat,adl,atl,_,_,_⟩:=hx.opened
 obtain ⟨Bd,dd,Bt,dt,rfl,hbd,hbt,bdl,btl,_,_,_⟩:=hy.opened
 have Had:=Lib.hid had
 have Hat:=Lib.hid hat
 have Hbd:=Lib.hid hbd
 have Hbt:=Lib.hid hbt
 have Hokx:=Lib.hid okx
 have Hoky:=Lib.hid oky
 obtain ⟨a1,a2,a3,a4,a5⟩:=okx.span
 obtain ⟨b1,b2,b3,b4,b5⟩:=oky.span
 have hsx:IntKind.i64.wrap (x.lo+x.many)=x.lo+x.many:=IntWalk.i64_in _ (by omega)
 have hsy:IntKind.i64.wrap (y.lo+y.many)=y.lo+y.many:=IntWalk.i64_in _ (by omega)
 have hsum:IntKind.i64.wrap (x.many+y.many)=x.many+y.many:=IntWalk.i64_in _ (by omega)
 clear hx hy had hat hbd hbt okx oky
 obtain ⟨t1,t2⟩:=Hokx.out.tags
 obtain ⟨t3,t4⟩:=Hoky.out.tags
 have hl1:x.data.length≤30000:=by have:=Hokx.out.shape; unfold shapeOk at this; split at this <;> omega
 have hl2:y.data.length≤30000:=by have:=Hoky.out.shape; unfold shapeOk at this; split at this <;> omega
 have htg:IntKind.i64.wrap ((x.tags.length:Int)+(y.tags.length:Int))=(x.tags.length:Int)+(y.tags.length:Int):=IntWalk.i64_in _ (by omega)
 have hj:joinedM x y=some (joinM x y):=by unfold joinedM; rw [if_pos hk]
 have Hj:=Lib.hid hj
 clear hj
 obtain ⟨h1',h2',h3',h4'⟩:=hk
 have h1:(x.lo+x.many != y.lo)=false:=by simpa using h1'
 have h2:y.write=x.write:=h2'.symm
 have h3:decide (4<x.many+y.many)=false:=by simp; omega
 have h4:decide (4<(x.tags.length:Int)+(y.tags.length:Int))=false:=by simp; omega
 obtain ⟨mb,hmb⟩:∃ m,m=min x.born y.born:=⟨_,rfl⟩
 have hmin:(if y.born<x.born then y.born else x.born)=mb:=by rw [hmb,Int.min_def]; split <;> split <;> omega
 have Hmb:=Lib.hid hmb
 clear hmb
 clear h1' h2' h3' h4'
 obtain ⟨i0,hi0,hz0,hz1,hz2⟩:=info_parts stringInfo
 obtain ⟨i1,hi1,hy0,hy1,hy2⟩:=info_parts intInfo
 rcases hargs with ⟨rfl,hs⟩ | ⟨rfl,hs⟩
 have hs1:(y.lo+y.many == x.lo)=false:=by simpa using hs
 rotate_left
 have hs1:(x.lo+x.many == y.lo)=true:=by simpa using hs
 rotate_left
 all_goals
  clear hs
  go_enter Tryz.func151,Tryz.ntmps151
  go_wp2_with fail
  have L:=((((Lay.refl w).alloc' w.heap.size #[Value.bool x.write,Value.int IntKind.i64 x.lo,Value.int IntKind.i64 x.many,Value.slice Ad x.data.length cd,Value.slice At x.tags.length ct,Value.int IntKind.i64 x.born] 123 rfl).alloc' (w.heap.size+1) #[Value.bool x.write,Value.int IntKind.i64 y.lo,Value.int IntKind.i64 y.many,Value.slice Bd y.data.length dd,Value.slice Bt y.tags.length dt,Value.int IntKind.i64 y.born] 123 (by simp)).alloc' (w.heap.size+1+1) #[Value.bool false,Value.int IntKind.i64 0,Value.int IntKind.i64 0,Value.slice none 0 0,Value.slice none 0 0,Value.int IntKind.i64 0] 123 (by simp)).alloc' (w.heap.size+1+1+1) #[Value.bool x.write,Value.int IntKind.i64 x.lo,Value.int IntKind.i64 (x.many+y.many),Value.slice none 0 0,Value.slice none 0 0,Value.int IntKind.i64 mb] 123 (by simp)
  generalize World.alloc _ _=W at L ⊢
  clear hs1 h1 h3 h4 hmin hsx hsy hsum htg
  have HadW:=Lib.hid ((Had.out.below L.below).1.below (w':=W.drew) (Below.refl _ _).drew)
  have HbdW:=Lib.hid ((Hbd.out.below L.below).1.below (w':=W.drew) (Below.refl _ _).drew)
  have H1x:=Lib.hid (strs_one x.data)
  have H1y:=Lib.hid (strs_one y.data)
  have Hbd0:=Lib.hid (Hbd.out.below L.below).1
  have hLs:=L.size
  obtain ⟨_,_,_,c3,_,_⟩:=L.c6 3 rfl
  obtain ⟨_,_,_,d3,_,_⟩:=L.c6 2 rfl
  go_region_law (first
   |(refine step_append_rd (S:=S) _ rfl (.const (.slice none 0 0)) (.tmp 79) 121 rfl W.heap.size 9 i0 _ 1 16 Tryz.underlying121 hi0 hz0 hz1 hz2 rfl (by omega) (.slice none 0 0) 0 [] rfl (World.ownsRow_nil _ _ _ _) (.slice Ad x.data.length cd) x.data.length (x.data.map .string) rfl HadW.out H1x.out (by simp only [maxLen]; omega) (by omega) (by simp) ?_; intro v1 w1 hown1 hg1 hat1; clear hat1; have hb1:=(Below.refl W.heap.size W).drew.grown hg1 (by simp) (fun k hk=>by simp [Value.ownBlock] at hk); have e3:=cell_below' hb1 d3; have e4:=hb1.size)
   |(refine step_append_rd (S:=S) _ rfl (.tmp 80) (.tmp 82) 121 rfl W.heap.size 9 i0 _ 1 16 Tryz.underlying121 hi0 hz0 hz1 hz2 rfl (by omega) _ _ _ rfl hown1 (.slice Bd y.data.length dd) y.data.length (y.data.map .string) rfl (Hbd0.out.below hb1) H1y.out (by simp only [maxLen]; omega) (by omega) e4 ?_; intro v2 w2 hown2 hg2 hat2; clear hat2; have hb2:=hb1.grown hg2 e4 (fun k hk=>(hown1.lt k hk).1); simp only [Nat.zero_add,List.nil_append] at hown2; obtain ⟨A2,c2,rfl⟩:=own_slice hown2; have L2:=L.step hb2; have z2:=(L2.c6 0 rfl).2.2.2.1; have f2:=L2.frozen 0 rfl 3))
  all_goals
   have L3:=L2.set 0 rfl 3 (.slice A2 (x.data.length+y.data.length) c2)
   have hB6:w.heap.size+1+1+1<W.heap.size:=L.lt (x:=(w.heap.size+1+1+1,_,_)) (List.mem_cons_self)
   have hown3:=ownsRow_setCell_below hown2 (a:=⟨w.heap.size+1+1+1,3,none⟩) hB6 (.slice A2 (x.data.length+y.data.length) c2)
   have hW3:W.heap.size≤(w2.setCell ⟨w.heap.size+1+1+1,3,none⟩ (.slice A2 (x.data.length+y.data.length) c2)).heap.size:=by have:=hb2.size; simpa using this
   generalize World.setCell _ _ _=W3 at L3 hown3 hW3 ⊢
   clear L2 hown2 hown1 hg1 hg2 hb1 hb2 e3 e4 z2 f2 c3 d3 HadW HbdW Hbd0 H1x H1y
   have HatW:=Lib.hid ((Hat.out.below L3.below).1.below (w':=W3.drew) (Below.refl _ _).drew)
   have Hbt0:=Lib.hid (Hbt.out.below L3.below).1
   have H1s:=Lib.hid (ints_one x.tags)
   have H1t:=Lib.hid (ints_one y.tags)
   obtain ⟨_,_,_,_,c4,_⟩:=L3.c6 3 rfl
   obtain ⟨_,_,_,_,d4,_⟩:=L3.c6 2 rfl
   have Hown3:=Lib.hid hown3
   clear hown3
   go_wp2_with fail
   go_region_law (first
    |(refine step_append_rd (S:=S) _ rfl (.const (.slice none 0 0)) (.tmp 86) 107 rfl W3.heap.size 3 i1 _ 1 8 Tryz.underlying107 hi1 hy0 hy1 hy2 rfl (by omega) (.slice none 0 0) 0 [] rfl (World.ownsRow_nil _ _ _ _) (.slice At x.tags.length ct) x.tags.length (x.tags.map (.int .i64)) rfl HatW.out H1s.out (by simp only [maxLen]; omega) (by omega) (by simp) ?_; intro v3 w4 hown4 hg4 hat4; clear hat4; have hb4:=(Below.refl W3.heap.size W3).drew.grown hg4 (by simp) (fun k hk=>by simp [Value.ownBlock] at hk); have e5:=cell_below' hb4 d4; have e6:=hb4.size)
    |(refine step_append_rd (S:=S) _ rfl (.tmp 87) (.tmp 89) 107 rfl W3.heap.size 3 i1 _ 1 8 Tryz.underlying107 hi1 hy0 hy1 hy2 rfl (by omega) _ _ _ rfl hown4 (.slice Bt y.tags.length dt) y.tags.length (y.tags.map (.int .i64)) rfl (Hbt0.out.below hb4) H1t.out (by simp only [maxLen]; omega) (by omega) e6 ?_; intro v5 w5 hown5 hg5 hat5; clear hat5; have hb5:=hb4.grown hg5 e6 (fun k hk=>(hown4.lt k hk).1); simp only [Nat.zero_add,List.nil_append] at hown5; obtain ⟨A3,c3,rfl⟩:=own_slice hown5; have L5:=L3.step hb5; have z5:=(L5.c6 0 rfl).2.2.2.2.1; have f5:=L5.frozen 0 rfl 4))
   all_goals
    have L6:=L5.set 0 rfl 4 (.slice A3 (x.tags.length+y.tags.length) c3)
    have hownp:=ownsRow_setCell_below (own_keepL Hown3.out (fun g _ hg=>hb5.block g hg)) (a:=⟨w.heap.size+1+1+1,4,none⟩) hB6 (.slice A3 (x.tags.length+y.tags.length) c3)
    have hownq:=ownsRow_setCell_below (own_mono hown5 hW3) (a:=⟨w.heap.size+1+1+1,4,none⟩) hB6 (.slice A3 (x.tags.length+y.tags.length) c3)
    generalize World.setCell _ _ _=W6 at L6 hownp hownq ⊢
    clear L5 hown5 hown4 hg4 hg5 hb4 hb5 e5 e6 z5 f5 c4 d4 HatW Hbt0 H1s H1t Hown3
    obtain ⟨k0,k1,k2,k3,k4,k5⟩:=L6.c6 0 rfl
    obtain ⟨z0,z1,z2,z3,z4,z5⟩:=L6.c6 1 rfl
    have fz:=fun j=>L6.frozen 1 rfl j
    go_wp2_with fail
    clear k0 k1 k2 k3 k4 k5 z0 z1 z2 z3 z4 z5 fz
    have L7:=L6.put6 1 rfl (.bool x.write) (.int .i64 x.lo) (.int .i64 (x.many+y.many)) (.slice A2 (x.data.length+y.data.length) c2) (.slice A3 (x.tags.length+y.tags.length) c3) (.int .i64 mb)
    have hko:=put6_keep W6 (w.heap.size+1+1) (.bool x.write) (.int .i64 x.lo) (.int .i64 (x.many+y.many)) (.slice A2 (x.data.length+y.data.length) c2) (.slice A3 (x.tags.length+y.tags.length) c3) (.int .i64 mb)
    generalize World.setCell _ _ _=W7 at L7 hko ⊢
    obtain ⟨z0,z1,z2,z3,z4,z5⟩:=L7.c6 1 rfl
    have hmb:=Hmb.out
    subst hmb
    rw [Hj.out]
    refine bodyPost_ret ?_ rfl (reto_joined hLs Hokx.out Hoky.out (fun s hs=>Had.out.2 s hs) (fun s hs=>Hbd.out.2 s hs) (fun s hs=>Hat.out.2 s hs) (fun s hs=>Hbt.out.2 s hs) (own_keepL hownp (fun g hg _=>hko g (by omega))) (own_keepL hownq (fun g hg _=>hko g (by omega))) L7.below)
    simp [results,Tryz.results151,go_sem,z0,z1,z2,z3,z4,z5]
theorem rmerge_own (S:Nat→Prop) (a b:Rq) (va vb:Value) (w:World) (ha:ReqAt S w va a) (hb:ReqAt S w vb b) (oka:ReqOk a) (okb:ReqOk b) :
  Calls Tryz.prog 151 #[va,vb] w (RetMergeO (mergeM a b) w):=by
 have key:∀ (x y:Rq) (vx vy:Value),ReqAt S w vx x→ReqAt S w vy y→ReqOk x→ReqOk y→((#[va,vb]=#[vx,vy]∧y.lo+y.many≠x.lo)∨(#[va,vb]=#[vy,vx]∧x.lo+x.many=y.lo))→Calls Tryz.prog 151 #[va,vb] w (RetMergeO (joinedM x y) w):=by
  intro x y vx vy hx hy okx oky hargs
  by_cases hk:joinOk x y
  ·exact rmerge_go S x y vx vy _ w hx hy okx oky hk hargs
  ·exact rmerge_bad S x y vx vy _ w hx hy okx oky hk hargs
 unfold mergeM swapM
 by_cases hs:b.lo+b.many=a.lo
 ·rw [if_pos hs]; exact key b a vb va hb ha okb oka (.inr ⟨rfl,hs⟩)
 ·rw [if_neg hs]; exact key a b va vb ha hb oka okb (.inl ⟨rfl,hs⟩)
end Go.Proofs.YtaeadmlgffaegaaGreatDoor
namespace Go.Proofs.YtaeadmlgffaegaaGreatDoor
open Go.RowKit Go.Sort
theorem CV.mono {o:Option Rq} {base base':Nat} {v:Value} {w:World} (h:CV o base v w) (hb:base'≤base):CV o base' v w:=by
 cases o with
 |none=>exact h
 |some m=>obtain ⟨hp,p,q,e,h1,h2⟩:=h; exact ⟨hp,p,q,e,own_mono h1 hb,own_mono h2 hb⟩
theorem CV.form {o:Option Rq} {base:Nat} {v:Value} {w:World} (h:CV o base v w):∃ (b:Bool) (lo many:Int) (A:Option Addr) (n c:Nat) (A':Option Addr) (n' c':Nat) (born:Int),v=.agg #[.bool b,.int .i64 lo,.int .i64 many,.slice A n c,.slice A' n' c',.int .i64 born]:=by
 cases o with
 |none=>exact ⟨_,_,_,_,_,_,_,_,_,_,h⟩
 |some m =>
  obtain ⟨hp,p,q,rfl,h1,h2⟩:=h
  obtain ⟨A,n,c,rfl,_⟩:=own_slice' h1
  obtain ⟨A',n',c',rfl,_⟩:=own_slice' h2
  exact ⟨_,_,_,_,_,_,_,_,_,_,rfl⟩
def BoxR (k:Nat) (u:World):Prop:=∃ c0 c1 c2 c3 c4 c5,u.heap[k]?=some (.cells #[c0,c1,c2,c3,c4,c5] 123 (0,0))
def FullR (o:Option Rq) (base k:Nat) (u:World):Prop:=∃ c0 c1 c2 c3 c4 c5,u.heap[k]?=some (.cells #[c0,c1,c2,c3,c4,c5] 123 (0,0))∧CV o base (.agg #[c0,c1,c2,c3,c4,c5]) u
structure AR (o:Option Rq) (base:Nat) (u u':World):Prop where
 size:u.heap.size≤u'.heap.size
 keep:∀ k,k<u.heap.size→u'.heap[k]?=u.heap[k]?∨(base≤k∧BoxR k u∧FullR o base k u')
section
variable {o:Option Rq} {base:Nat} {u u':World} {v:Value}
theorem AR.refl (u:World):AR o base u u:=⟨Nat.le_refl _,fun _ _=>.inl rfl⟩
theorem AR.below (hb:Below u.heap.size u u'):AR o base u u':=⟨hb.size,fun k hk=>.inl (hb.block k hk)⟩
theorem own_typed {e:TypeId} {size n:Nat} {xs:List Value} (h:u.ownsRow base e size v n xs) (he:e≠123) (hr:AR o base u u'):u'.ownsRow base e size v n xs:=by
 have hl:=h.lt
 obtain ⟨h1,h2⟩:=h
 refine ⟨h1,?_⟩
 rcases h2 with h2 | ⟨g',cap',cur,hv,hb,hh,h3⟩
 ·exact .inl h2
 ·subst hv
  refine .inr ⟨g',cap',cur,rfl,hb,?_,h3⟩
  rcases hr.keep g' (hl g' rfl).2 with h | ⟨_,⟨_,_,_,_,_,_,hx⟩,_⟩
  ·exact h.trans hh
  ·rw [hh] at hx
   injection hx with hx
   injection hx with _ hx
   exact absurd hx he
theorem CV.step (h:CV o base v u) (hr:AR o base u u'):CV o base v u':=by
 cases o with
 |none=>exact h
 |some m=>obtain ⟨hp,p,q,e,h1,h2⟩:=h; exact ⟨hp,p,q,e,own_typed h1 (by decide) hr,own_typed h2 (by decide) hr⟩
theorem FullR.box {k:Nat} (h:FullR o base k u):BoxR k u:=by
 obtain ⟨_,_,_,_,_,_,h,_⟩:=h
 exact ⟨_,_,_,_,_,_,h⟩
theorem BoxR.lt {k:Nat} (h:BoxR k u):k<u.heap.size:=by
 obtain ⟨_,_,_,_,_,_,h⟩:=h
 rcases Nat.lt_or_ge k u.heap.size with h1 | h1
 ·exact h1
 ·rw [Array.getElem?_eq_none h1] at h; cases h
theorem BoxR.step {k:Nat} (h:BoxR k u) (hr:AR o base u u'):BoxR k u':=by
 rcases hr.keep k h.lt with h1 | ⟨_,_,h2⟩
 ·obtain ⟨_,_,_,_,_,_,h⟩:=h
  exact ⟨_,_,_,_,_,_,h1.trans h⟩
 ·exact h2.box
theorem FullR.step {k:Nat} (h:FullR o base k u) (hr:AR o base u u'):FullR o base k u':=by
 rcases hr.keep k h.box.lt with h1 | ⟨_,_,h2⟩
 ·obtain ⟨_,_,_,_,_,_,h,hc⟩:=h
  exact ⟨_,_,_,_,_,_,h1.trans h,hc.step hr⟩
 ·exact h2
def FMr (o:Option Rq) (base:Nat):SlotFact:=fun v u=>∃ vm,v=.tuple #[vm,.bool o.isSome]∧CV o base vm u
def FBr (base:Nat):SlotFact:=fun v u=>∃ b,v=.pointer (some ⟨b,0,none⟩)∧base≤b∧BoxR b u
def EvA (o:Option Rq) (base:Nat) (k:Nat) (vs:List Value) (u:World):Prop:=k=10→∀ b,vs.head?=some (.pointer (some ⟨b,0,none⟩))→FullR o base b u
theorem FMr.step (h:FMr o base v u) (hr:AR o base u u'):FMr o base v u':=by
 obtain ⟨vm,e,h⟩:=h
 exact ⟨vm,e,h.step hr⟩
theorem FBr.step (h:FBr base v u) (hr:AR o base u u'):FBr base v u':=by
 obtain ⟨b,e,h1,h2⟩:=h
 exact ⟨b,e,h1,h2.step hr⟩
theorem EvA.step {k:Nat} {vs:List Value} (h:EvA o base k vs u) (hr:AR o base u u'):EvA o base k vs u':=fun hk b hb=>(h hk b hb).step hr
theorem box_put {b:Nat} {wb:Bool} {lo many:Int} {A:Option Addr} {n c:Nat} {A':Option Addr} {n' c':Nat} {born:Int} (hbase:base≤b) (hx:BoxR b u) (hc:CV o base (.agg #[.bool wb,.int .i64 lo,.int .i64 many,.slice A n c,.slice A' n' c',.int .i64 born]) u) (u':World)
  (hu:u'=(((((u.setCell ⟨b,0,none⟩ (.bool wb)).setCell ⟨b,1,none⟩ (.int .i64 lo)).setCell ⟨b,2,none⟩ (.int .i64 many)).setCell ⟨b,3,none⟩ (.slice A n c)).setCell ⟨b,4,none⟩ (.slice A' n' c')).setCell ⟨b,5,none⟩ (.int .i64 born)) :
  AR o base u u'∧FullR o base b u'∧Below base u u':=by
 obtain ⟨z0,z1,z2,z3,z4,z5,hz⟩:=hx
 have k0:=heap_setCell_same _ _ 0 _ _ (.bool wb) hz
 have k1:=heap_setCell_same _ _ 1 _ _ (.int .i64 lo) k0
 have k2:=heap_setCell_same _ _ 2 _ _ (.int .i64 many) k1
 have k3:=heap_setCell_same _ _ 3 _ _ (.slice A n c) k2
 have k4:=heap_setCell_same _ _ 4 _ _ (.slice A' n' c') k3
 have k5:=heap_setCell_same _ _ 5 _ _ (.int .i64 born) k4
 rw [← hu] at k5
 have hko:=put6_keep u b (.bool wb) (.int .i64 lo) (.int .i64 many) (.slice A n c) (.slice A' n' c') (.int .i64 born)
 rw [← hu] at hko
 have hsz:u'.heap.size=u.heap.size:=by rw [hu]; simp
 have hct:CV o base (.agg #[.bool wb,.int .i64 lo,.int .i64 many,.slice A n c,.slice A' n' c',.int .i64 born]) u':=by
  cases o with
  |none=>exact hc
  |some m =>
   obtain ⟨hp,p,q,e,h1,h2⟩:=hc
   have hne:∀ {e:TypeId} {v:Value} {size n:Nat} {xs:List Value},u.ownsRow base e size v n xs→e≠123→u'.ownsRow base e size v n xs:=by
    intro e v size n xs h he
    obtain ⟨h1,h2⟩:=h
    refine ⟨h1,?_⟩
    rcases h2 with h2 | ⟨g',cap',cur,hv,hb,hh,h3⟩
    ·exact .inl h2
    ·refine .inr ⟨g',cap',cur,hv,hb,(hko g' (fun e'=>?_)).trans hh,h3⟩
     rw [e',hz] at hh
     injection hh with hh
     injection hh with _ hh
     exact he hh.symm
   exact ⟨hp,p,q,e,hne h1 (by decide),hne h2 (by decide)⟩
 have hF:FullR o base b u':=⟨_,_,_,_,_,_,k5,hct⟩
 refine ⟨⟨by omega,fun k _=>?_⟩,hF,?_⟩
 ·by_cases hk:k=b
  ·subst hk; exact .inr ⟨hbase,⟨_,_,_,_,_,_,hz⟩,hF⟩
  ·exact .inl (hko k hk)
 ·rw [hu]
  exact ((((((Below.refl _ _).setCell hbase _).setCell hbase _).setCell hbase _).setCell hbase _).setCell hbase _).setCell hbase _
end
theorem full_at {o:Option Rq} {base:Nat} {u':World} {ρ:Operand→Value} {op:Oper} {T:TypeId} {p q:Tmp} {bb b':Nat} (e1:ρ (.tmp p)=.pointer (some ⟨bb,0,none⟩)) (hb':(argsOf (fun d=>ρ (.tmp d)) op).head?=some (.pointer (some ⟨b',0,none⟩))) (h:op.op=Op.store T (.tmp p) (.tmp q)) (g:FullR o base bb u'):FullR o base b' u':=by
 rw [argsOf_store h] at hb'
 simp only [List.head?_cons,Option.some.injEq] at hb'
 rw [e1] at hb'
 simp only [Value.pointer.injEq,Option.some.injEq,Addr.mk.injEq] at hb'
 rw [← hb'.1]
 exact g
def RetRAdd (S:Nat→Prop) (o:List Rq × Nat) (w:World):Ending→World→Prop:=fun E w'=>∃ v,E=.returned (.tuple #[v,.int .i64 o.2])∧ReqsAt S w' v o.1∧Below w.heap.size w w'
theorem radd_any (S:Nat→Prop) (l:List Rq) (r:Rq) (v rv:Value) (w:World) (hS:∀ b,w.heap.size≤b→S b) (h:ReqsAt S w v l) (hr:ReqAt S w rv r) (hl:∀ x ∈ l,ReqOk x) (hn:l.length≤60000) :
  Calls Tryz.prog 123 #[v,rv] w (RetRAdd S (addM l r) w):=by
 obtain ⟨Ad,cd,At,ct,rfl,_,_,_,_,_,_,_⟩:=hr.opened
 obtain ⟨A,cap,rfl,_,hcap⟩:=h.form
 unfold maxLen at hcap
 have HS:=Lib.hid hS
 have H:=Lib.hid h
 have Hr:=Lib.hid hr
 have Hl:=Lib.hid hl
 clear h hr hS hl
 go_enter Tryz.func123,Tryz.ntmps123
 go_wp2_with fail
 have L:=(Lay.refl w).alloc' w.heap.size #[Value.bool r.write,Value.int IntKind.i64 r.lo,Value.int IntKind.i64 r.many,Value.slice Ad r.data.length cd,Value.slice At r.tags.length ct,Value.int IntKind.i64 r.born] 123 rfl
 generalize World.alloc _ _=W1 at L ⊢
 refine (reqfault_any S r _ _ (Hr.out.below L.below)).mono ?_
 rintro e w2 ⟨rfl,hb2⟩
 have L2:=L.step hb2
 clear L hb2
 by_cases g1:reqF r=0
 rotate_left
 ·have G1:=Lib.hid g1
  have g1':decide (0<reqF r)=true:=by simp; omega
  clear g1
  go_wp2
  refine bodyPost_ret (v:=.tuple #[.slice none 0 0,.int .i64 (reqF r)]) (by simp [results,Tryz.results123,go_sem]) rfl ?_
  rw [addM_bad G1.out]
  exact ⟨_,rfl,reqs_nil,L2.below⟩
 rw [g1]
 have G1:=Lib.hid g1
 have Gr:=Lib.hid (reqF_zero g1)
 clear g1
 go_wp2_with fail
 have HL:=Lib.hid L2
 clear L2
 go_loopw [7] (fun i wr=>∃ k:Nat,k≤l.length∧i=.int .i64 k∧Below w2.heap.size w2 wr∧Hid ((l.take k).any (meetsR r.lo r.many)=false)) (fun i _=>l.length - (intOf i).toNat)
 case atStart=>exact ⟨0,by omega,rfl,Below.refl _ _,rfl⟩
 case round =>
  obtain ⟨k,hk,rfl,hw,hall⟩:=hrel
  by_cases hlt:k<l.length
  ·obtain ⟨b,off,rfl,_,_,hc⟩:=((H.out.below HL.out.below).below hw).at_ (by omega)
   have hx:l[k]?=some l[k]:=List.getElem?_eq_getElem hlt
   obtain ⟨_,_,_,_,_,k0,k1,k2,k3,k4,k5⟩:=hc k _ hx
   have Hsx:=Lib.hid (Hl.out _ (List.mem_of_getElem? hx)).span
   have Hx:=Lib.hid hx
   clear hc hx
   generalize l[k]=x at *
   obtain ⟨c0,c1,c2,c3,c4,c5⟩:=(HL.out.step hw).c6 0 rfl
   have k1:=cell_regrown k1
   have k2:=cell_regrown k2
   have c1:=cell_regrown c1
   have c2:=cell_regrown c2
   have hk1:(k:Int)<(l.length:Int):=by omega
   clear k0 k3 k4 k5 c0 c3 c4 c5
   go_wp2_with fail
   refine wp_region_quiet_below mixed (by kernel_rfl) ?_
   repeat (quiet_step (first | (go_at_call 150; exact Calls.rg (rmeet_any _ _ _ _ _ (Hsx.out.more (by omega)) (Gr.out.span.more (by omega))))))
   refine wpQuiet_nil ?_
   intro _ hw'
   obtain ⟨⟨dq,osq⟩,hw''⟩:=hw'
   subst hw''
   have hbq:=below_regrown wr dq osq
   generalize grow (redrawn wr dq) osq=w8 at hbq ⊢
   have hw8:=hw.trans (hbq.mono hw.size)
   clear k1 k2 c1 c2
   cases hm:meetB x.lo x.many r.lo r.many with
   |true =>
    have Hm:=Lib.hid hm
    clear hm
    go_wp2
    refine bodyPost_ret (v:=.tuple #[.slice none 0 0,.int .i64 6]) (by simp [results,Tryz.results123,go_sem]) rfl ?_
    rw [addM_meets G1.out (any_yes _ _ _ _ Hx.out Hm.out)]
    exact ⟨_,rfl,reqs_nil,HL.out.below.trans (hw8.mono HL.out.size)⟩
   |false =>
    have Hm:=Lib.hid hm
    clear hm
    go_wp2
    go_roundw
    case rel=>exact ⟨k+1,by omega,by go_num,hw8,by show _=false; rw [any_take_succ _ _ _ _ Hx.out,hall.out]; exact Hm.out⟩
    case measure=>simp [intOf]; omega
  ·obtain rfl:k=l.length:=by omega
   have G2:=Lib.hid (any_end _ _ _ (Nat.le_refl _) hall.out)
   clear hlt hk hall
   obtain ⟨i0,hi0,hz0,hz1,hz2⟩:=info_parts reqInfo
   obtain ⟨cs,hcs,hrd,hok⟩:=H.out
   have hlen:cs.length=l.length:=by rw [← hcs,List.length_map]
   have Hone:=Lib.hid (cells_one hok)
   have hL3:=HL.out.step hw
   have Hrd:=Lib.hid (hrd.below hL3.below)
   rw [hlen] at Hrd
   have Hok:=Lib.hid (fun c hc=>(hok c hc).lt)
   have Hcs:=Lib.hid hcs
   have Hlen:=Lib.hid hlen
   clear hrd hok hcs hlen
   go_wp2_with (at_builtin; refine wpList_append_rd (S:=S) _ rfl (.const (.slice none 0 0)) (.tmp 33) _ rfl wr.heap.size 123 i0 _ 6 80 Tryz.underlying47 hi0 hz0 hz1 hz2 rfl (by omega) (.slice none 0 0) 0 [] rfl (World.ownsRow_nil _ _ _ _) _ l.length (cs.flatMap Rc.cells) rfl Hrd.out Hone.out (by simp only [maxLen]; omega) (by omega) (by omega) ?_; intro v4 w4 hown4 hg4 hat4)
   have hB4:Below w.heap.size w w4:=hL3.below.grown hg4 (by have:=hL3.size; omega) (fun k hk=>by simp [Value.ownBlock] at hk)
   have hb4:Below wr.heap.size wr w4:=(Below.refl _ _).grown hg4 (Nat.le_refl _) (fun k hk=>by simp [Value.ownBlock] at hk)
   have hL4:=hL3.step hb4
   simp only [Nat.zero_add,List.nil_append] at hown4
   obtain ⟨A4,cp4,rfl⟩:=own_slice hown4
   obtain ⟨hcp1,hcp2⟩:=own_cap hown4
   have Hown:=Lib.hid hown4
   have HL4:=Lib.hid hL4
   have Hbase:=Lib.hid hL3.size
   have H34:=Lib.hid hb4.size
   have HB4:=Lib.hid hB4
   clear hown4 hg4 hat4 hL3 hL4 hB4 hw
   clear hb4
   go_loopw [10] (fun i wq=>∃ k:Nat,k≤l.length∧i=.int .i64 k∧Below w4.heap.size w4 wq∧Hid (NoMerge l r k)) (fun i _=>l.length - (intOf i).toNat)
   case atStart=>exact ⟨0,by omega,rfl,Below.refl _ _,fun j x h=>by omega⟩
   case round =>
    obtain ⟨k,hk,rfl,hw,hno⟩:=hrel
    by_cases hlt:k<l.length
    ·have HR:=Lib.hid ((H.out.lt.below HB4.out).below hw)
     obtain ⟨b,off,rfl,_,hbl,hc⟩:=HR.out.at_ (by omega)
     have hx:l[k]?=some l[k]:=List.getElem?_eq_getElem hlt
     obtain ⟨Xd,xd,Xt,xt,hreq,k0,k1,k2,k3,k4,k5⟩:=hc k _ hx
     have Hxr:=Lib.hid hreq
     clear hreq
     have Gx:=Lib.hid (Hl.out _ (List.mem_of_getElem? hx))
     have Hx:=Lib.hid hx
     clear hc hx
     have hkc:k<cs.length:=by have:=Hlen.out; omega
     generalize l[k]=x at *
     obtain ⟨g,cp,e,hg1,hg2,_,_⟩:=own_form Hown.out (by omega)
     injection e with e1 e2 e3
     subst e1 e3
     have hLq:=HL4.out.step hw
     have HLq:=Lib.hid hLq
     obtain ⟨c0,c1,c2,c3,c4,c5⟩:=hLq.c6 0 rfl
     have hbl2:=hLq.lt (x:=(w.heap.size,_,_)) (List.mem_cons_self)
     have hk1:(k:Int)<(l.length:Int):=by omega
     clear hLq
     generalize ho:mergeM x r=o at *
     have Ho:=Lib.hid ho
     clear ho
     go_wp2_with fail
     refine wp_region_ev mixed [(42,fun v _=>v=.slice (some ⟨b,off,none⟩) l.length cap),(43,fun v _=>v=.int .i64 (k:Int)),(44,fun v _=>v=.pointer (some ⟨b,off+k * 6,none⟩)),(45,fun v _=>v=.agg #[.bool x.write,.int .i64 x.lo,.int .i64 x.many,.slice Xd x.data.length xd,.slice Xt x.tags.length xt,.int .i64 x.born]),(46,fun v _=>v=.agg #[.bool r.write,.int .i64 r.lo,.int .i64 r.many,.slice Ad r.data.length cd,.slice At r.tags.length ct,.int .i64 r.born]),(47,FMr o wr.heap.size),(41,FMr o wr.heap.size),(48,CV o wr.heap.size),(49,fun v _=>v=.bool o.isSome),(11,FBr wr.heap.size),(12,fun v _=>v=.bool o.isSome)] (fun u=>Below wr.heap.size wr u) (AR o wr.heap.size) (EvA o wr.heap.size) (by kernel_rfl) rfl (by decide) (Below.refl _ _).drew ?st (fun k vs u u' h hr=>h.step hr) ?steps ?fin
     case st=>exact ⟨fun v u u' h _=>h,fun v u u' h _=>h,fun v u u' h _=>h,fun v u u' h _=>h,fun v u u' h _=>h,fun v u u' h hr=>h.step hr,fun v u u' h hr=>h.step hr,fun v u u' h hr=>h.step hr,fun v u u' h _=>h,fun v u u' h hr=>h.step hr,fun v u u' h _=>h,trivial⟩
     case steps =>
      refine ⟨?_,?_,?_,?_,?_,?_,?_,?_,?_,?_,?_,?_,trivial⟩
      all_goals
       intro ρ u hp hJ hr
       try
        have r1:ρ _=_:=hr.1
        try have r2:ρ _=_:=hr.2.1
        clear hr
        refine gives_value (v:=_) (w':=u) ?_ ⟨rfl,hJ,AR.refl _,fun h=>absurd h (by decide)⟩
        go_simp
        done
      ·have r1:ρ (.tmp 44)=.pointer (some ⟨b,off+k * 6,none⟩):=hr.1
       clear hr
       have k0:=cell_below' hJ k0
       have k1:=cell_below' hJ k1
       have k2:=cell_below' hJ k2
       have k3:=cell_below' hJ k3
       have k4:=cell_below' hJ k4
       have k5:=cell_below' hJ k5
       refine gives_value (v:=.agg #[.bool x.write,.int .i64 x.lo,.int .i64 x.many,.slice Xd x.data.length xd,.slice Xt x.tags.length xt,.int .i64 x.born]) (w':=u) ?_ ⟨rfl,hJ,AR.refl _,fun h=>absurd h (by decide)⟩
       go_simp
      ·have r1:ρ (.tmp 3)=.pointer (some ⟨w.heap.size,0,none⟩):=hr.1
       clear hr
       have c0:=cell_below' hJ c0
       have c1:=cell_below' hJ c1
       have c2:=cell_below' hJ c2
       have c3:=cell_below' hJ c3
       have c4:=cell_below' hJ c4
       have c5:=cell_below' hJ c5
       refine gives_value (v:=.agg #[.bool r.write,.int .i64 r.lo,.int .i64 r.many,.slice Ad r.data.length cd,.slice At r.tags.length ct,.int .i64 r.born]) (w':=u) ?_ ⟨rfl,hJ,AR.refl _,fun h=>absurd h (by decide)⟩
       go_simp
      ·have r1:ρ (.tmp 45)=.agg #[.bool x.write,.int .i64 x.lo,.int .i64 x.many,.slice Xd x.data.length xd,.slice Xt x.tags.length xt,.int .i64 x.born]:=hr.1
       have r2:ρ (.tmp 46)=.agg #[.bool r.write,.int .i64 r.lo,.int .i64 r.many,.slice Ad r.data.length cd,.slice At r.tags.length ct,.int .i64 r.born]:=hr.2.1
       clear hr
       refine gives_enter (f:=151) (args:=#[.agg #[.bool x.write,.int .i64 x.lo,.int .i64 x.many,.slice Xd x.data.length xd,.slice Xt x.tags.length xt,.int .i64 x.born],.agg #[.bool r.write,.int .i64 r.lo,.int .i64 r.many,.slice Ad r.data.length cd,.slice At r.tags.length ct,.int .i64 r.born]]) (w':=u) ?_ ((rmerge_own S x r _ _ _ ((Hxr.out.more (fun b hb=>hb.1)).below hJ) ((Hr.out.below HLq.out.below).below hJ) Gx.out Gr.out).mono ?_)
       ·have hpf:=hp.func 151
        go_simp
       rintro e u' ⟨v,rfl,hcv,hb⟩
       rw [Ho.out] at hcv ⊢
       exact ⟨_,rfl,⟨_,rfl,hcv.mono hJ.size⟩,hJ.trans (hb.mono hJ.size),AR.below hb,fun h=>absurd h (by decide)⟩
      ·have r1:FMr o wr.heap.size (ρ (.tmp 47)) u:=hr.1
       clear hr
       obtain ⟨vm,e,hcv⟩:=r1
       refine gives_value (v:=.tuple #[vm,.bool o.isSome]) (w':=u) ?_ ⟨⟨vm,rfl,hcv⟩,hJ,AR.refl _,fun h=>absurd h (by decide)⟩
       clear hcv
       go_simp
      ·have r1:FMr o wr.heap.size (ρ (.tmp 41)) u:=hr.1
       clear hr
       obtain ⟨vm,e,hcv⟩:=r1
       refine gives_value (v:=vm) (w':=u) ?_ ⟨hcv,hJ,AR.refl _,fun h=>absurd h (by decide)⟩
       clear hcv
       go_simp
      ·have r1:FMr o wr.heap.size (ρ (.tmp 41)) u:=hr.1
       clear hr
       obtain ⟨vm,e,hcv⟩:=r1
       refine gives_value (v:=.bool o.isSome) (w':=u) ?_ ⟨rfl,hJ,AR.refl _,fun h=>absurd h (by decide)⟩
       clear hcv
       go_simp
      ·clear hr
       refine gives_value (v:=.pointer (some ⟨u.heap.size,0,none⟩)) (w':=u.alloc (.cells #[.bool false,.int .i64 0,.int .i64 0,.slice none 0 0,.slice none 0 0,.int .i64 0] 123)) ?_ ⟨⟨_,rfl,hJ.size,⟨_,_,_,_,_,_,heap_alloc_new _ _⟩⟩,hJ.trans (((Below.refl _ _).alloc (Nat.le_refl _) _).mono hJ.size),AR.below ((Below.refl _ _).alloc (Nat.le_refl _) _),fun h=>absurd h (by decide)⟩
       go_simp
      ·have r1:FBr wr.heap.size (ρ (.tmp 11)) u:=hr.1
       have r2:CV o wr.heap.size (ρ (.tmp 48)) u:=hr.2.1
       clear hr
       obtain ⟨bb,e1,hbb,hbx⟩:=r1
       obtain ⟨wb,lo,many,A1,n1,cc1,A2,n2,cc2,born,e2⟩:=r2.form
       rw [e2] at r2
       obtain ⟨g1,g2,g3⟩:=box_put hbb hbx r2 _ rfl
       refine gives_skip (w':=_) ?_ ⟨trivial,hJ.trans g3,g1,fun _ b' hb'=>?_⟩
       ·obtain ⟨z0,z1,z2,z3,z4,z5,hz⟩:=hbx
        have z0:u.cell? ⟨bb,0,none⟩=some _:=cell_of_row _ _ 0 _ _ _ hz
        have z1:u.cell? ⟨bb,1,none⟩=some _:=cell_of_row _ _ 1 _ _ _ hz
        have z2:u.cell? ⟨bb,2,none⟩=some _:=cell_of_row _ _ 2 _ _ _ hz
        have z3:u.cell? ⟨bb,3,none⟩=some _:=cell_of_row _ _ 3 _ _ _ hz
        have z4:u.cell? ⟨bb,4,none⟩=some _:=cell_of_row _ _ 4 _ _ _ hz
        have z5:u.cell? ⟨bb,5,none⟩=some _:=cell_of_row _ _ 5 _ _ _ hz
        have f0:∀ j,u.frozen? ⟨bb,j,none⟩=false:=fun j=>frozen_of_row _ _ j _ _ hz
        clear r2 g1 g2 g3 hz
        go_simp
       ·exact full_at e1 hb' rfl g2
     intro f u hF hJ hU hE
     have f11:∃ bb,f 11=.pointer (some ⟨bb,0,none⟩)∧wr.heap.size≤bb∧BoxR bb u:=hF.2.2.2.2.2.2.2.2.2.1
     have f12:f 12=.bool o.isSome:=hF.2.2.2.2.2.2.2.2.2.2.1
     obtain ⟨bb,e11,hbb,_⟩:=f11
     have hfull:FullR o wr.heap.size bb u:=hE 10 _ rfl rfl bb (by rw [argsOf_store rfl,e11]; rfl)
     clear hF hU hE
     obtain ⟨z0,z1,z2,z3,z4,z5,hz,hcv⟩:=hfull
     obtain ⟨wb,lo,many,A1,n1,cc1,A2,n2,cc2,born,e2⟩:=hcv.form
     simp only [Value.agg.injEq,Array.mk.injEq,List.cons.injEq,and_true] at e2
     obtain ⟨rfl,rfl,rfl,rfl,rfl,rfl⟩:=e2
     have Hcv:=Lib.hid hcv
     have Hz:=Lib.hid hz
     have HJ:=Lib.hid hJ
     have Hbb:=Lib.hid hbb
     clear hcv hz hJ hbb k0 k1 k2 k3 k4 k5 c0 c1 c2 c3 c4 c5
     simp only [laid]
     cases o with
     |none =>
      simp only [Option.isSome] at *
      go_wp2_with fail
      go_roundw
      case rel=>exact ⟨k+1,by omega,by go_num,hw.trans (HJ.out.mono hw.size),fun j y hj hy=>by
       rcases Nat.lt_or_ge j k with h | h
       ·exact hno.out j y h hy
       ·obtain rfl:j=k:=by omega
        have h1:=Hx.out
        rw [hy] at h1
        cases h1
        exact Ho.out⟩
      case measure=>simp [intOf]; omega
     |some m =>
      simp only [Option.isSome] at *
      obtain ⟨hpm,p,q,em,hp1,hp2⟩:=Hcv.out
      simp only [Value.agg.injEq,Array.mk.injEq,List.cons.injEq,and_true,Value.bool.injEq,Value.int.injEq,true_and] at em
      obtain ⟨rfl,rfl,rfl,rfl,rfl,rfl⟩:=em
      have Hp1:=Lib.hid hp1
      have Hp2:=Lib.hid hp2
      have Hpm:=Lib.hid hpm
      have hwu:=hw.trans (HJ.out.mono hw.size)
      have hownu:=own_keep Hown.out (hwu.block _ hg2)
      obtain ⟨hgb,hgu,cur,hcur⟩:=own_row hownu
      have hfz:∀ j,u.frozen? ⟨g,j,none⟩=false:=fun j=>frozen_of_row _ _ j _ _ hcur
      have hck:cs[k]?=some cs[k]:=List.getElem?_eq_getElem hkc
      obtain ⟨_,_,_,_,_,y0,y1,y2,y3,y4,y5⟩:=own_req_at hownu hck ((Hok.out _ (List.mem_of_getElem? hck)).below (HB4.out.trans (hwu.mono HB4.out.size)))
      have Hownu:=Lib.hid hownu
      have Hwu:=Lib.hid hwu
      have z0:u.cell? ⟨bb,0,none⟩=some _:=cell_of_row _ _ 0 _ _ _ Hz.out
      have z1:u.cell? ⟨bb,1,none⟩=some _:=cell_of_row _ _ 1 _ _ _ Hz.out
      have z2:u.cell? ⟨bb,2,none⟩=some _:=cell_of_row _ _ 2 _ _ _ Hz.out
      have z3:u.cell? ⟨bb,3,none⟩=some _:=cell_of_row _ _ 3 _ _ _ Hz.out
      have z4:u.cell? ⟨bb,4,none⟩=some _:=cell_of_row _ _ 4 _ _ _ Hz.out
      have z5:u.cell? ⟨bb,5,none⟩=some _:=cell_of_row _ _ 5 _ _ _ Hz.out
      have hwr4:=hw.size
      have hgb':=hgb
      have hb34:=H34.out
      have hbase':=Hbase.out
      clear hownu hcur hwu hck hp1 hp2 hpm
      go_wp2_with fail
      clear y0 y1 y2 y3 y4 y5 z0 z1 z2 z3 z4 z5 hfz
      refine bodyPost_ret (v:=.tuple #[.slice (some ⟨g,0,none⟩) l.length cp4,.int .i64 0]) (by simp [results,Tryz.results123,go_sem]) rfl ?_
      have hP:=own_put Hownu.out ⟨m,.slice A1 n1 cc1,.slice A2 n2 cc2⟩ hkc Hlen.out
      have hPo:=put6_other u g (k * 6) (.bool m.write) (.int .i64 m.lo) (.int .i64 m.many) (.slice A1 n1 cc1) (.slice A2 n2 cc2) (.int .i64 m.born)
      have hPb:=put6_below u g (k * 6) w.heap.size (.bool m.write) (.int .i64 m.lo) (.int .i64 m.many) (.slice A1 n1 cc1) (.slice A2 n2 cc2) (.int .i64 m.born) (by omega)
      simp only at hP
      generalize World.setCell _ _ _=W7 at hP hPo hPb ⊢
      have hB7:Below w.heap.size w W7:=(HB4.out.trans (Hwu.out.mono HB4.out.size)).trans hPb
      have hbu:=HJ.out.size
      rw [addM_merge G1.out G2.out (mergeIn_at hno.out Hx.out Ho.out)]
      refine ⟨_,rfl,⟨cs.set k ⟨m,.slice A1 n1 cc1,.slice A2 n2 cc2⟩,?_,?_,?_⟩,hB7⟩
      ·rw [List.map_set,Hcs.out]
      ·rw [List.length_set,Hlen.out]
       exact Rd.of_own _ (fun b hb=>HS.out b (by omega)) hP
      ·intro c' hc'
       rcases List.mem_or_eq_of_mem_set hc' with h | rfl
       ·exact ((Hok.out c' h).below hB7).more (fun b hb=>hb.1)
       ·have hq1:=own_keepL Hp1.out (w':=W7) (fun g' hg' _=>hPo g' (by omega))
        have hq2:=own_keepL Hp2.out (w':=W7) (fun g' hg' _=>hPo g' (by omega))
        exact ⟨strs_own (fun b hb=>HS.out b (by omega)) hq1 Hpm.out.data,ints_own (fun b hb=>HS.out b (by omega)) hq2 Hpm.out.tags,Hpm.out.lo,Hpm.out.many,Hpm.out.born⟩
    ·obtain rfl:k=l.length:=by omega
     have hnone:=Lib.hid (mergeIn_none hno.out)
     by_cases h6:6≤l.length
     ·have h6':decide ((6:Int)≤(l.length:Int))=true:=by simp; omega
      go_wp2_with fail
      refine bodyPost_ret (v:=.tuple #[.slice none 0 0,.int .i64 7]) (by simp [results,Tryz.results123,go_sem]) rfl ?_
      rw [addM_full G1.out G2.out hnone.out h6]
      exact ⟨_,rfl,reqs_nil,HB4.out.trans (hw.mono HB4.out.size)⟩
     ·have h6':decide ((6:Int)≤(l.length:Int))=false:=by simp; omega
      obtain ⟨c0,c1,c2,c3,c4,c5⟩:=(HL4.out.step hw).c6 0 rfl
      have hbr:=(Below.refl wr.heap.size wr).alloc (Nat.le_refl _) (Obj.cells #[Value.bool r.write,Value.int IntKind.i64 r.lo,Value.int IntKind.i64 r.many,Value.slice Ad r.data.length cd,Value.slice At r.tags.length ct,Value.int IntKind.i64 r.born] 123)
      have hwb:=hw.trans (hbr.mono hw.size)
      have Hownr:=Lib.hid (own_keepL Hown.out (fun g _ hg=>hwb.block g hg))
      have Hrow:=Lib.hid (rd_row6 wr r.write r.lo r.many (.slice Ad r.data.length cd) (.slice At r.tags.length ct) r.born 123)
      have H1:=Lib.hid (one6 r.write r.lo r.many r.born Ad At r.data.length cd r.tags.length ct)
      clear hbr
      go_wp2_with (at_builtin; refine wpList_append_rd (S:=fun _=>True) _ rfl (.tmp 59) (.tmp 61) _ rfl _ 123 i0 _ 6 80 Tryz.underlying47 hi0 hz0 hz1 hz2 rfl (by omega) _ l.length (cs.flatMap Rc.cells) rfl Hownr.out _ 1 _ rfl Hrow.out H1.out (by simp only [maxLen]; omega) (by omega) (by have h1:=hwb.size; have h2:=H34.out; omega) ?_; intro v9 w9 hown9 hg9 hat9)
      have hB9:Below w.heap.size w w9:=(HB4.out.trans (hwb.mono HB4.out.size)).grown hg9 (by have h1:=hwb.size; have h2:=HB4.out.size; omega) (fun k hk=>by have h1:=(Hownr.out.lt k hk).1; have h2:=Hbase.out; omega)
      refine bodyPost_ret (v:=.tuple #[v9,.int .i64 0]) (by simp [results,Tryz.results123,go_sem]) rfl ?_
      rw [addM_new G1.out G2.out hnone.out h6]
      refine ⟨_,rfl,⟨cs ++ [⟨r,.slice Ad r.data.length cd,.slice At r.tags.length ct⟩],?_,?_,?_⟩,hB9⟩
      ·rw [List.map_append,Hcs.out]; rfl
      ·rw [List.length_append,Hlen.out,List.flatMap_append]
       have:=Rd.of_own (S:=S) _ (fun b hb=>HS.out b (by have:=Hbase.out; omega)) hown9
       simpa [Rc.cells] using this
      ·intro c' hc'
       rcases List.mem_append.1 hc' with h | h
       ·exact ((Hok.out c' h).below hB9).more (fun b hb=>hb.1)
       ·simp at h
        subst h
        exact Hr.out.rc.below hB9
end Go.Proofs.YtaeadmlgffaegaaGreatDoor
