/- The reference's Held: the sectors of what waits and of what the disk has, marked in an array. -/
import Derived.Test.YtagndjihiklmiaaGreatDoorQ27
set_option linter.unusedSimpArgs false
set_option linter.unusedVariables false
set_option maxRecDepth 100000
set_option maxHeartbeats 8000000
namespace Go.Proofs.YtagndjihiklmiaaGreatDoor
open Go.RowKit
theorem hldV_set {hl:List Bool} {j:Nat}:(hldV hl).setIfInBounds j (.bool true)=hldV (hl.set j true):=by
 unfold hldV;rw [List.map_set]; simp
theorem rheld_any (col:Nat→Nat) (w:World) (b bd N:Nat) (x:Sv) (s:St) (h:StAt Tr col w b bd N x s) (hI:Inv s) :
  Calls Tryz.prog 59 #[.pointer (some ⟨b,0,none⟩)] w (Ret (.agg (hldV (hlOf s))) w):=by
 obtain ⟨cs,hcs,hrd,hok⟩:=h.wait;obtain ⟨Aw,cw,hxw,hw1,hw2⟩:=hrd.form;rw [hxw] at hrd;obtain ⟨_,hk32,hn32,wv,lv,ds,hrowd,_,hld,hds,hokd⟩:=h.drv.dev;obtain ⟨Ad,cd,hlv,hd1,hd2⟩:=hld.form;subst hlv;have hcl:cs.length=s.wait.length:=by rw [← hcs,List.length_map]
 have hdl:ds.length=s.v.d.l.length:=by rw [← hds,List.length_map]
 have h6:cs.length≤6:=by have:=hI.wait6; omega
 have h2:ds.length≤2:=by have:=hI.dv.two; omega
 have Hcl:=Lib.hid hcl;have Hdl:=Lib.hid hdl;have H:=Lib.hid h;have HI:=Lib.hid hI;have Hrd:=Lib.hid hrd;have Hld:=Lib.hid hld.rd;have Hcs:=Lib.hid hcs;have Hds:=Lib.hid hds;have H1:Hid (∀ u ∈ cs.flatMap Rc.cells,u.oneCell'=true):=fun u hu=>by obtain ⟨c,hc,hu⟩:=List.mem_flatMap.1 hu; exact rc_one _ (hok c hc) u hu
 have H1d:Hid (∀ u ∈ ds.flatMap Rc.cells,u.oneCell'=true):=fun u hu=>by obtain ⟨c,hc,hu⟩:=List.mem_flatMap.1 hu; exact rc_one _ (hokd c hc) u hu
 have c0:w.cell? ⟨b,0,none⟩=some (.pointer (some ⟨bd,0,none⟩)):=h.cell 0;have c3:w.cell? ⟨b,3,none⟩=some (.slice Aw cs.length cw):=(h.cell 3).trans (by rw [← hxw]; rfl);have c65:w.cell? ⟨bd,65,none⟩=some (.slice Ad ds.length cd):=by rw [cell_of_row _ _ _ _ _ _ hrowd]; simpa using devCells_at_l s.v.d wv _ hk32 hn32
 clear h hI hrd hok hrowd hld hds hokd hcs hxw hcl hdl;go_enter Tryz.func59,Tryz.ntmps59;go_wp2_with fail;change Code.wp _ _ _ _ ((w.alloc (.cells (hldV (List.replicate 32 false)) 109)).alloc (.cells (hldV (List.replicate 32 false)) 109));have L:=((Lay.refl w).alloc' w.heap.size (hldV (List.replicate 32 false)) 109 rfl).alloc' (w.heap.size+1) (hldV (List.replicate 32 false)) 109 (by simp);generalize (w.alloc (.cells (hldV (List.replicate 32 false)) 109)).alloc (.cells (hldV (List.replicate 32 false)) 109)=W at L ⊢
 obtain ⟨B,hB⟩:∃ B,w.heap.size=B:=⟨_,rfl⟩
 rw [hB] at L ⊢;have HL:=Lib.hid L;have c0:=cell_b L.below c0;have c3:=cell_b L.below c3;have c65:=cell_b L.below c65;have HRw:=Lib.hid ((Hrd.out.below L.below).below (w':=W.drew) (Below.refl _ _).drew);have HRd:=Lib.hid (Hld.out.below L.below);have HC0:=Lib.hid c0;have HC65:=Lib.hid c65;have HB:=Lib.hid hB;obtain ⟨i0,hi0,hz0,hz1,hz2⟩:=info_parts reqInfo;clear L hB
 go_region_law (first
  |(refine step_append_rd _ rfl (.const (.slice none 0 0)) (.tmp 10) 50 rfl W.heap.size 117 i0 _ 6 80 Tryz.underlying50 hi0 hz0 hz1 hz2 rfl (by omega) (.slice none 0 0) 0 [] rfl (World.ownsRow_nil _ _ _ _) (.slice Aw cs.length cw) cs.length (cs.flatMap Rc.cells) (by simp [Act.eval,Act.put]) HRw.out H1.out (by simp only [maxLen]; omega) (by omega) (by simp) ?_; intro v1 w1 hown1 hg1 hat1; clear hat1; have hb1:=(Below.refl W.heap.size W).drew.grown hg1 (by simp) (fun k hk=>by simp [Value.ownBlock] at hk); have e4:=hb1.size; have c0:=cell_b hb1 HC0.out; have c65:=cell_b hb1 HC65.out)
  |(refine step_append_rd _ rfl (.tmp 11) (.tmp 18) 50 rfl W.heap.size 117 i0 _ 6 80 Tryz.underlying50 hi0 hz0 hz1 hz2 rfl (by omega) v1 (0+cs.length) ([] ++ cs.flatMap Rc.cells) (by simp [Act.eval,Act.put]) hown1 (.slice Ad ds.length cd) ds.length (ds.flatMap Rc.cells) (by simp [Act.eval,Act.put]) (HRd.out.below hb1) H1d.out (by simp only [maxLen]; omega) (by omega) e4 ?_; intro v2 w12 hown2 hg2 hat2; clear hat2; have hb2:=hb1.grown hg2 e4 (fun k hk=>(hown1.lt k hk).1)))
 all_goals
  simp only [Nat.zero_add,List.nil_append] at hown2;rw [← List.flatMap_append,← List.length_append] at hown2;have hR:=Rd.of_own (S:=fun k=>W.heap.size≤k) w12 (fun _ hk=>hk) hown2;have hmap:(cs ++ ds).map (·.r)=s.wait ++ s.v.d.l:=by rw [List.map_append,Hcs.out,Hds.out]
  have hes8:(cs ++ ds).length≤8:=by rw [List.length_append]; omega
  have L12:=Lib.hid (HL.out.step hb2);have HWz:Hid (B+1<W.heap.size):=show _<_ from HL.out.lt (List.mem_cons_self ..);clear hown1 hown2 hg1 hg2 hb1 hb2 e4 c0 c65 HL;generalize cs ++ ds=es at hR hmap hes8;obtain ⟨A2,c2,rfl,hc21,hc22⟩:=hR.form;have HR:=Lib.hid hR;have Hmap:=Lib.hid hmap;have Hokq:=Lib.hid (good_oks HI.out.good)
  obtain ⟨l,hl⟩:∃ l,s.wait ++ s.v.d.l=l:=⟨_,rfl⟩
  rw [hl] at Hmap Hokq;have Hl:=Lib.hid hl;have hc23:c2≤9223372036854775807:=by unfold maxLen at hc22; omega
  clear hR hmap hl hc22 Hcs Hds H1 H1d HRw HRd HC0 HC65 hi0 hz0 hz1 hz2;go_wp2_with fail;go_loopw [5,6] (fun i _ wr=>∃ (k:Nat),k≤es.length∧i=.int .i64 k∧Hid (Lay w wr [(B+1,109,hldV (hlI l k)),(B,109,hldV (List.replicate 32 false))])∧Hid (Rd (fun k=>W.heap.size≤k) wr 6 (.slice A2 es.length c2) es.length (es.flatMap Rc.cells))) (fun i _ _=>es.length - (intOf i).toNat)
  case atStart=>exact ⟨0,by omega,rfl,by rw [hlI_zero]; exact L12.out,HR.out⟩
  case round =>
   obtain ⟨k,hk,rfl,HL,HRr⟩:=hrel;by_cases hlt:k<es.length
   ·have hlt2:(k:Int)<(es.length:Int):=by omega
    have hx:es[k]?=some es[k]:=List.getElem?_eq_getElem hlt;have hra:l[k]?=some es[k].r:=by rw [← Hmap.out,List.getElem?_map,hx]; rfl
    obtain ⟨a1,a2,a3,_,a5⟩:=(Hokq.out _ (List.mem_of_getElem? hra)).span
    obtain ⟨lo,hlo⟩:∃ n:Nat,es[k].r.lo=(n:Int):=⟨es[k].r.lo.toNat,by omega⟩
    obtain ⟨mn,hmn⟩:∃ n:Nat,es[k].r.many=(n:Int):=⟨es[k].r.many.toNat,by omega⟩
    have hend:=hlK_end hra (by omega);rw [hlo,hmn,Int.toNat_natCast] at hend;rw [hlo,hmn] at a5;have f1:(es.flatMap Rc.cells)[k * 6+1]?=some (.int .i64 (lo:Int)):=by rw [← hlo]; exact flat_get es k 1 _ hx (by omega)
    have f2:(es.flatMap Rc.cells)[k * 6+2]?=some (.int .i64 (mn:Int)):=by rw [← hmn]; exact flat_get es k 2 _ hx (by omega)
    have F1:=Lib.hid f1;have F2:=Lib.hid f2;have Hend:=Lib.hid hend;clear hx hra a1 a2 a3 hlo hmn f1 f2 hend;go_wp2_with fail;go_loopw [6] (fun j wr2=>∃ (m:Nat),m≤mn∧j=.int .i64 m∧Hid (Lay w wr2 [(B+1,109,hldV (hlK l k (lo:Int) m)),(B,109,hldV (List.replicate 32 false))])∧Hid (Rd (fun k=>W.heap.size≤k) wr2 6 (.slice A2 es.length c2) es.length (es.flatMap Rc.cells))) (fun j _=>mn - (intOf j).toNat)
    case atStart=>exact ⟨0,by omega,rfl,by rw [hlK_zero]; exact HL.out,HRr.out⟩
    case round =>
     clear HL HRr;obtain ⟨m,hm,rfl,HL,HRr⟩:=hrel;obtain ⟨g,off,rfl,hgS,_,hc⟩:=HRr.out.at_ (by omega) (by omega);have n1:=hc _ _ F1.out;have n2:=hc _ _ F2.out;rw [← Nat.add_assoc] at n1 n2;clear hc;by_cases hmm:m<mn
     ·have hmm2:(m:Int)<(mn:Int):=by omega
      have hw:IntKind.i64.wrap ((lo:Int)+(m:Int))=(lo:Int)+(m:Int):=by rw [IntKind.wrap_i64]; omega
      have hi32:(lo:Int)+(m:Int)<32:=by omega
      have hi0:¬ (lo:Int)+(m:Int)<0:=by omega
      have htn:((lo:Int)+(m:Int)).toNat=lo+m:=by omega
      have hcc:wr.cell? ⟨B+1,lo+m,none⟩=some (.bool (heldL (hlK l k (lo:Int) m) ((lo+m:Nat):Int))):=(HL.out.cell 0 rfl (lo+m)).trans (hldV_get (hlK_len _ _ _ _) (by omega));have hff:=HL.out.frozen 0 rfl (lo+m)
      have L2:Lay w (wr.setCell ⟨B+1,lo+m,none⟩ (.bool true)) [(B+1,109,hldV (hlK l k (lo:Int) (m+1))),(B,109,hldV (List.replicate 32 false))]:=by
       have h:=HL.out.set 0 rfl (lo+m) (.bool true);rw [hldV_set,← htn,hlK_set l k (by omega) hi32] at h;rw [htn] at h;exact h
      have hR2:Rd (fun k=>W.heap.size≤k) (wr.setCell ⟨B+1,lo+m,none⟩ (.bool true)) 6 (.slice (some ⟨g,off,none⟩) es.length c2) es.length (es.flatMap Rc.cells):=HRr.out.keep (fun q hq _=>Below.heap_setCell _ _ _ _ (by have:=HWz.out; intro e; simp at e; omega));have HL2:=Lib.hid L2;have HR2:=Lib.hid hR2;clear L2 hR2;go_wp2_with fail;go_roundw
      case rel=>exact ⟨m+1,by omega,by go_num,HL2.out,HR2.out⟩
      case measure=>simp [intOf]; omega
     ·obtain rfl:m=mn:=by omega
      have hmm2:¬ (m:Int)<(m:Int):=by omega
      go_wp2_with fail;go_roundw
      case rel=>exact ⟨k+1,by omega,by go_num,by rw [← Hend.out]; exact HL.out,HRr.out⟩
      case measure=>simp [intOf]; omega
   ·obtain rfl:k=es.length:=by omega
    have hlt2:¬ (es.length:Int)<(es.length:Int):=by omega
    have hll:l.length=es.length:=by rw [← Hmap.out,List.length_map]
    have HE:Hid (hlI l es.length=hlOf s):=show _=_ by rw [← hll,← Hl.out]; exact hlI_end s
    rw [HE.out] at HL;have hlen:=hlOf_len s
    obtain ⟨hs,hhs⟩:∃ hs,hlOf s=hs:=⟨_,rfl⟩
    rw [hhs] at HL hlen;have Hhs:=Lib.hid hhs;clear hhs
    have HRg:Hid (wr.rangeAt (B+1) 0 (hs.map .bool)):=fun j v hj=>by
     rw [Nat.zero_add,HL.out.cell 0 rfl j];unfold hldV;rw [List.getElem?_toArray]; exact hj
    have hrow:=HL.out.at_ 1 rfl;have HT:Hid (wr.there B 0 (hs.map Value.bool).toArray.size):=there_of_row hrow 0 _ (by rw [List.size_toArray,List.length_map,hlen]; decide);have Hs:Hid ((Tryz.prog.info? 109).map (·.size)=some (hs.map Value.bool).length):=show _=_ by rw [List.length_map,hlen]; kernel_rfl
    have Ho:Hid ((hs.map Value.bool).toArray.all (·.oneCell')=true):=all_oneCell_toArray (fun v hv=>by obtain ⟨s,_,rfl⟩:=List.mem_map.1 hv; rfl);have hrow2:=heap_setCells_row B _ (hs.map .bool) 0 wr _ hrow
    have hsm:setMany (hldV (List.replicate 32 false)) 0 (hs.map .bool)=(hs.map .bool).toArray:=by
     have:=setMany_mid (hs.map Value.bool) [] ((List.replicate 32 false).map Value.bool) [] (by simp [hlen])
     simpa [hldV] using this
    rw [hsm] at hrow2;have hbB:Below w.heap.size w (wr.setCells B 0 (hs.map .bool)):=HL.out.below.trans ((Chg.refl.setCells (F:=fun q=>q=B) (.inl rfl) 0 (hs.map .bool)).below (fun q hq=>by subst hq; have:=HB.out; omega) HL.out.below.size)
    obtain ⟨W2,hW2⟩:∃ u,wr.setCells B 0 (hs.map .bool)=u:=⟨_,rfl⟩
    rw [hW2] at hrow2 hbB
    have HRg2:Hid (W2.rangeAt B 0 (hs.map .bool)):=fun j v hj=>by
     rw [Nat.zero_add,cell_of_row _ _ j _ _ _ hrow2,List.getElem?_toArray]; exact hj
    have HW2:=Lib.hid hW2;have HbB:=Lib.hid hbB;clear hrow hrow2 hsm hbB hW2 hlen
    go_wp2_with (first
     |(refine wpList_load_mid rfl 109 (.tmp 3) rfl (B+1) 0 rfl (hs.map .bool) _ HRg.out Tryz.underlying109 rfl Hs.out ?_)
     |(refine wpList_store_mid rfl 109 (.tmp 2) (.tmp 45) rfl B 0 (hs.map Value.bool).toArray rfl rfl HT.out (by rw [List.size_toArray]; exact Hs.out) Ho.out ?_
       rw [show wr.setCells B 0 (hs.map Value.bool).toArray.toList=W2 from HW2.out]))
    have hlv:=run_loadVar_mid (P:=Tryz.prog) W2 B 0 109 (hs.map .bool) _ HRg2.out Tryz.underlying109 rfl Hs.out;refine bodyPost_ret (v:=.agg (hldV hs)) ?_ rfl ⟨by rw [Hhs.out],HbB.out⟩;simp [results,Tryz.results59,asAddr,Sem.run_bind,Sem.run_pure,Result.andThen_ok,hlv,hldV]
end Go.Proofs.YtagndjihiklmiaaGreatDoor
namespace Go.Proofs.YtagndjihiklmiaaGreatDoor
open Go.RowKit Go.Sort
theorem cell_below' {w w':World} {a:Addr} {v:Value} (hb:Below w.heap.size w w') (h:w.cell? a=some v):w'.cell? a=some v:=by
 rw [hb.cell (block_lt_of_cell h)]; exact h
structure PureOk (m:Rq):Prop where
 data:∀ s ∈ m.data,s.size≤maxLen
 tags:∀ t ∈ m.tags,-9223372036854775808≤t∧t≤9223372036854775807
 lo:i64 m.lo
 many:i64 m.many
 born:i64 m.born
theorem RcOk.pure {S:Nat→Prop} {w:World} {c:Rc} (h:RcOk S w c):PureOk c.r:=⟨h.data.2,h.tags.2,h.lo,h.many,h.born⟩
theorem ReqAt.pure {S:Nat→Prop} {w:World} {v:Value} {r:Rq} (h:ReqAt S w v r):PureOk r:=by
 obtain ⟨c,rfl,_,hok⟩:=h;exact hok.pure
def CV (o:Option Rq) (base:Nat):Value→World→Prop:=fun v w'=>match o with
 |none=>v=.agg #[.bool false,.int .i64 0,.int .i64 0,.slice none 0 0,.slice none 0 0,.int .i64 0]
 |some m=>PureOk m∧∃ p q,v=.agg #[.bool m.write,.int .i64 m.lo,.int .i64 m.many,p,q,.int .i64 m.born]∧w'.ownsRow base 9 1 p m.data.length (m.data.map .string)∧w'.ownsRow base 3 1 q m.tags.length (m.tags.map (.int .i64))
theorem CV.req {S:Nat→Prop} {o:Option Rq} {base:Nat} {v:Value} {w:World} (hS:∀ b,base≤b→S b) (h:CV o base v w):ReqAt S w v (o.getD zeroR):=by
 cases o with
 |none=>obtain rfl:=h; exact zero_at
 |some m =>
  obtain ⟨hp,p,q,rfl,h1,h2⟩:=h;exact ⟨⟨m,p,q⟩,rfl,rfl,strs_own hS h1 hp.data,ints_own hS h2 hp.tags,hp.lo,hp.many,hp.born⟩
def RetMergeO (o:Option Rq) (w:World):Ending→World→Prop:=fun E w'=>∃ v,E=.returned (.tuple #[v,.bool o.isSome])∧CV o w.heap.size v w'∧Below w.heap.size w w'
theorem reto_none {w w':World} (h:Below w.heap.size w w'):RetMergeO none w (.returned (.tuple #[.agg #[.bool false,.int .i64 0,.int .i64 0,.slice none 0 0,.slice none 0 0,.int .i64 0],.bool false])) w' :=
 ⟨_,rfl,rfl,h⟩
theorem reto_joined {w w3 u:World} {x y:Rq} (hw3:w.heap.size≤w3.heap.size) (hx:ReqOk x) (hy:ReqOk y) (hxs:∀ s ∈ x.data,s.size≤maxLen) (hys:∀ s ∈ y.data,s.size≤maxLen)
  (hxt:∀ t ∈ x.tags,-9223372036854775808≤t∧t≤9223372036854775807) (hyt:∀ t ∈ y.tags,-9223372036854775808≤t∧t≤9223372036854775807) {p q:Value} (hp:MF65 w3 x y p u) (hq:MF71 w3 x y q u) (hb:Below w.heap.size w u) :
  RetMergeO (some (joinM x y)) w (.returned (.tuple #[.agg #[.bool x.write,.int .i64 x.lo,.int .i64 (x.many+y.many),p,q,.int .i64 (min x.born y.born)],.bool true])) u:=by
 obtain ⟨a1,a2,a3,a4,a5⟩:=hx.span;obtain ⟨b1,b2,b3,b4,b5⟩:=hy.span;obtain ⟨n1,n2⟩:=hx.born;obtain ⟨m1,m2⟩:=hy.born;refine ⟨_,rfl,⟨⟨?_,?_,?_,?_,?_⟩,p,q,rfl,?_,?_⟩,hb⟩
 ·intro s hs
  rcases List.mem_append.1 hs with h | h
  ·exact hxs s h
  ·exact hys s h
 ·intro s hs
  rcases List.mem_append.1 hs with h | h
  ·exact hxt s h
  ·exact hyt s h
 ·show i64 x.lo; unfold i64; omega
 ·show i64 (x.many+y.many); unfold i64; omega
 ·show i64 (min x.born y.born); unfold i64; omega
 ·have:u.ownsRow w.heap.size 9 1 p (x.data.length+y.data.length) (x.data.map .string ++ y.data.map .string):=own_mono hp hw3
  simpa [joinM] using this
 ·have:u.ownsRow w.heap.size 3 1 q (x.tags.length+y.tags.length) (x.tags.map (.int .i64) ++ y.tags.map (.int .i64)):=own_mono hq hw3
  simpa [joinM] using this
theorem put6_keep (w:World) (g:Nat) (v0 v1 v2 v3 v4 v5:Value):∀ b,b≠g→((((((w.setCell ⟨g,0,none⟩ v0).setCell ⟨g,1,none⟩ v1).setCell ⟨g,2,none⟩ v2).setCell ⟨g,3,none⟩ v3).setCell ⟨g,4,none⟩ v4).setCell ⟨g,5,none⟩ v5).heap[b]?=w.heap[b]?:=by
 intro b hb;repeat (rw [heap_setCell_other _ _ b _ (by simpa using hb)])
theorem Lay.to {w wr:World} {l l':List (Nat × TypeId × Array Value)} (h:Lay w wr l) (e:l=l'):Lay w wr l':=e▸h
theorem zero3 (w:World) (o1 o2:Obj) (T:TypeId) (k:Nat):(((w.alloc o1).alloc o2).alloc (Obj.cells #[Value.bool false,Value.int IntKind.i64 0,Value.int IntKind.i64 0,Value.slice none 0 0,Value.slice none 0 0,Value.int IntKind.i64 0] T)).cell? ⟨w.heap.size+1+1,k,none⟩ =
  (#[Value.bool false,Value.int IntKind.i64 0,Value.int IntKind.i64 0,Value.slice none 0 0,Value.slice none 0 0,Value.int IntKind.i64 0]:Array Value)[k]?:=by
 have e:((w.alloc o1).alloc o2).heap.size=w.heap.size+1+1:=by simp
 rw [← e];exact cell_of_row _ _ k _ _ _ (heap_alloc_new _ _)
theorem rmerge_bad (S:Nat→Prop) (x y:Rq) (vx vy:Value) (args:Array Value) (w:World) (hx:ReqAt S w vx x) (hy:ReqAt S w vy y) (okx:ReqOk x) (oky:ReqOk y) (hk:¬ joinOk x y)
  (hargs:(args=#[vx,vy]∧y.lo+y.many≠x.lo)∨(args=#[vy,vx]∧x.lo+x.many=y.lo)) :
  Calls Tryz.prog 143 args w (RetMergeO (joinedM x y) w):=by
 obtain ⟨Ad,cd,At,ct,rfl,had,hat,adl,atl,_,_,_⟩:=hx.opened;obtain ⟨Bd,dd,Bt,dt,rfl,hbd,hbt,bdl,btl,_,_,_⟩:=hy.opened;obtain ⟨a1,a2,a3,a4,a5⟩:=okx.span;obtain ⟨b1,b2,b3,b4,b5⟩:=oky.span;have hsx:IntKind.i64.wrap (x.lo+x.many)=x.lo+x.many:=IntWalk.i64_in _ (by omega);have hsy:IntKind.i64.wrap (y.lo+y.many)=y.lo+y.many:=IntWalk.i64_in _ (by omega);have hsum:IntKind.i64.wrap (x.many+y.many)=x.many+y.many:=IntWalk.i64_in _ (by omega);obtain ⟨t1,t2⟩:=okx.tags;obtain ⟨t3,t4⟩:=oky.tags;have htg:IntKind.i64.wrap ((x.tags.length:Int)+(y.tags.length:Int))=(x.tags.length:Int)+(y.tags.length:Int):=IntWalk.i64_in _ (by omega);clear hx hy had hat hbd hbt okx oky;have hn:joinedM x y=none:=by unfold joinedM; rw [if_neg hk]
 have key:((x.lo+x.many != y.lo)=true)∨(x.lo+x.many=y.lo∧((x.write=true∧y.write=false)∨(x.write=false∧y.write=true))) ∨
    (x.lo+x.many=y.lo∧y.write=x.write∧decide (4<x.many+y.many)=true)∨(x.lo+x.many=y.lo∧y.write=x.write∧decide (4<x.many+y.many)=false∧decide (4<(x.tags.length:Int)+(y.tags.length:Int))=true):=by
  unfold joinOk at hk;by_cases h1:x.lo+x.many=y.lo
  ·by_cases h2:x.write=y.write
   ·by_cases h3:x.many+y.many≤4
    ·right; right; right
     exact ⟨h1,h2.symm,by simp; omega,by have:¬ (x.tags.length+y.tags.length≤4):=fun h=>hk ⟨h1,h2,h3,h⟩; simp; omega⟩
    ·right; right; left
     exact ⟨h1,h2.symm,by simp; omega⟩
   ·right; left
    refine ⟨h1,?_⟩
    cases hx:x.write <;> cases hy:y.write <;> simp [hx,hy] at h2 ⊢
  ·left; simpa using h1
 have Hn:=Lib.hid hn;clear hn hk
 rcases hargs with ⟨rfl,hs⟩ | ⟨rfl,hs⟩
 ·have hs1:(y.lo+y.many == x.lo)=false:=by simpa using hs
  clear hs
  rcases key with h1 | ⟨h1,⟨h2,h3⟩ | ⟨h2,h3⟩⟩ | ⟨h1,h2,h3⟩ | ⟨h1,h2,h3,h4⟩
  all_goals
   go_enter Tryz.func143,Tryz.ntmps143;go_wp2;rw [Hn.out];refine bodyPost_ret ?_ rfl (reto_none ((((Below.refl _ _).alloc (Nat.le_refl _) _).alloc (by simp) _).alloc (by simp; omega) _));simp [results,Tryz.results143,go_sem,zero3]
 ·have hs1:(x.lo+x.many == y.lo)=true:=by simpa using hs
  rcases key with h1 | ⟨h1,⟨h2,h3⟩ | ⟨h2,h3⟩⟩ | ⟨h1,h2,h3⟩ | ⟨h1,h2,h3,h4⟩
  ·exfalso; simp at h1; exact h1 hs
  all_goals
   clear hs;go_enter Tryz.func143,Tryz.ntmps143;go_wp2;rw [Hn.out];refine bodyPost_ret ?_ rfl (reto_none ((((Below.refl _ _).alloc (Nat.le_refl _) _).alloc (by simp) _).alloc (by simp; omega) _));simp [results,Tryz.results143,go_sem,zero3]
end Go.Proofs.YtagndjihiklmiaaGreatDoor
namespace Go.Proofs.YtagndjihiklmiaaGreatDoor
open Go.RowKit Go.Sort
theorem rmerge_go (S:Nat→Prop) (x y:Rq) (vx vy:Value) (args:Array Value) (w:World) (hx:ReqAt S w vx x) (hy:ReqAt S w vy y) (okx:ReqOk x) (oky:ReqOk y) (hk:joinOk x y)
  (hargs:(args=#[vx,vy]∧y.lo+y.many≠x.lo)∨(args=#[vy,vx]∧x.lo+x.many=y.lo)) :
  Calls Tryz.prog 143 args w (RetMergeO (joinedM x y) w):=by
 obtain ⟨Ad,cd,At,ct,rfl,had,hat,adl,atl,_,_,_⟩:=hx.opened;obtain ⟨Bd,dd,Bt,dt,rfl,hbd,hbt,bdl,btl,_,_,_⟩:=hy.opened;have Had:=Lib.hid had;have Hat:=Lib.hid hat;have Hbd:=Lib.hid hbd;have Hbt:=Lib.hid hbt;have Hokx:=Lib.hid okx;have Hoky:=Lib.hid oky;obtain ⟨a1,a2,a3,a4,a5⟩:=okx.span;obtain ⟨b1,b2,b3,b4,b5⟩:=oky.span;have hsx:IntKind.i64.wrap (x.lo+x.many)=x.lo+x.many:=IntWalk.i64_in _ (by omega);have hsy:IntKind.i64.wrap (y.lo+y.many)=y.lo+y.many:=IntWalk.i64_in _ (by omega);have hsum:IntKind.i64.wrap (x.many+y.many)=x.many+y.many:=IntWalk.i64_in _ (by omega);clear hx hy had hat hbd hbt okx oky;obtain ⟨t1,t2⟩:=Hokx.out.tags;obtain ⟨t3,t4⟩:=Hoky.out.tags;have hl1:x.data.length≤30000:=by have:=Hokx.out.shape; unfold shapeOk at this; split at this <;> omega
 have hl2:y.data.length≤30000:=by have:=Hoky.out.shape; unfold shapeOk at this; split at this <;> omega
 have htg:IntKind.i64.wrap ((x.tags.length:Int)+(y.tags.length:Int))=(x.tags.length:Int)+(y.tags.length:Int):=IntWalk.i64_in _ (by omega);have hj:joinedM x y=some (joinM x y):=by unfold joinedM; rw [if_pos hk]
 have Hj:=Lib.hid hj;clear hj;obtain ⟨h1',h2',h3',h4'⟩:=hk;have h1:(x.lo+x.many != y.lo)=false:=by simpa using h1'
 have h2:y.write=x.write:=h2'.symm;have h3:decide (4<x.many+y.many)=false:=by simp; omega
 have h4:decide (4<(x.tags.length:Int)+(y.tags.length:Int))=false:=by simp; omega
 obtain ⟨mb,hmb⟩:∃ m,m=min x.born y.born:=⟨_,rfl⟩
 have hmin:(if y.born<x.born then y.born else x.born)=mb:=by rw [hmb,Int.min_def]; split <;> split <;> omega
 have Hmb:=Lib.hid hmb;clear hmb;clear h1' h2' h3' h4';obtain ⟨i0,hi0,hz0,hz1,hz2⟩:=info_parts stringInfo;obtain ⟨i1,hi1,hy0,hy1,hy2⟩:=info_parts intInfo
 rcases hargs with ⟨rfl,hs⟩ | ⟨rfl,hs⟩
 have hs1:(y.lo+y.many == x.lo)=false:=by simpa using hs
 rotate_left;have hs1:(x.lo+x.many == y.lo)=true:=by simpa using hs
 rotate_left
 all_goals
  clear hs;go_enter Tryz.func143,Tryz.ntmps143;go_wp2_with fail;have L:=((((Lay.refl w).alloc' w.heap.size #[Value.bool x.write,Value.int IntKind.i64 x.lo,Value.int IntKind.i64 x.many,Value.slice Ad x.data.length cd,Value.slice At x.tags.length ct,Value.int IntKind.i64 x.born] 117 rfl).alloc' (w.heap.size+1) #[Value.bool x.write,Value.int IntKind.i64 y.lo,Value.int IntKind.i64 y.many,Value.slice Bd y.data.length dd,Value.slice Bt y.tags.length dt,Value.int IntKind.i64 y.born] 117 (by simp)).alloc' (w.heap.size+1+1) #[Value.bool false,Value.int IntKind.i64 0,Value.int IntKind.i64 0,Value.slice none 0 0,Value.slice none 0 0,Value.int IntKind.i64 0] 117 (by simp)).alloc' (w.heap.size+1+1+1) #[Value.bool x.write,Value.int IntKind.i64 x.lo,Value.int IntKind.i64 (x.many+y.many),Value.slice none 0 0,Value.slice none 0 0,Value.int IntKind.i64 mb] 117 (by simp);generalize World.alloc _ _=W at L ⊢;clear hs1 h1 h3 h4 hmin hsx hsy hsum htg;have HadW:=Lib.hid ((Had.out.below L.below).1.below (w':=W.drew) (Below.refl _ _).drew);have HbdW:=Lib.hid ((Hbd.out.below L.below).1.below (w':=W.drew) (Below.refl _ _).drew);have H1x:=Lib.hid (strs_one x.data);have H1y:=Lib.hid (strs_one y.data);have Hbd0:=Lib.hid (Hbd.out.below L.below).1;have hLs:=L.size;obtain ⟨_,_,_,c3,_,_⟩:=L.c6 3 rfl;obtain ⟨_,_,_,d3,_,_⟩:=L.c6 2 rfl
  go_region_law (first
   |(refine step_append_rd (S:=S) _ rfl (.const (.slice none 0 0)) (.tmp 79) 22 rfl W.heap.size 9 i0 _ 1 16 Tryz.underlying22 hi0 hz0 hz1 hz2 rfl (by omega) (.slice none 0 0) 0 [] rfl (World.ownsRow_nil _ _ _ _) (.slice Ad x.data.length cd) x.data.length (x.data.map .string) rfl HadW.out H1x.out (by simp only [maxLen]; omega) (by omega) (by simp) ?_; intro v1 w1 hown1 hg1 hat1; clear hat1; have hb1:=(Below.refl W.heap.size W).drew.grown hg1 (by simp) (fun k hk=>by simp [Value.ownBlock] at hk); have e3:=cell_below' hb1 d3; have e4:=hb1.size)
   |(refine step_append_rd (S:=S) _ rfl (.tmp 80) (.tmp 82) 22 rfl W.heap.size 9 i0 _ 1 16 Tryz.underlying22 hi0 hz0 hz1 hz2 rfl (by omega) _ _ _ rfl hown1 (.slice Bd y.data.length dd) y.data.length (y.data.map .string) rfl (Hbd0.out.below hb1) H1y.out (by simp only [maxLen]; omega) (by omega) e4 ?_; intro v2 w2 hown2 hg2 hat2; clear hat2; have hb2:=hb1.grown hg2 e4 (fun k hk=>(hown1.lt k hk).1); simp only [Nat.zero_add,List.nil_append] at hown2; obtain ⟨A2,c2,rfl⟩:=own_slice hown2; have L2:=L.step hb2; have z2:=(L2.c6 0 rfl).2.2.2.1; have f2:=L2.frozen 0 rfl 3))
  all_goals
   have L3:=L2.set 0 rfl 3 (.slice A2 (x.data.length+y.data.length) c2);have hB6:w.heap.size+1+1+1<W.heap.size:=L.lt (x:=(w.heap.size+1+1+1,_,_)) (List.mem_cons_self);have hown3:=ownsRow_setCell_below hown2 (a:=⟨w.heap.size+1+1+1,3,none⟩) hB6 (.slice A2 (x.data.length+y.data.length) c2);have hW3:W.heap.size≤(w2.setCell ⟨w.heap.size+1+1+1,3,none⟩ (.slice A2 (x.data.length+y.data.length) c2)).heap.size:=by have:=hb2.size; simpa using this
   generalize World.setCell _ _ _=W3 at L3 hown3 hW3 ⊢;clear L2 hown2 hown1 hg1 hg2 hb1 hb2 e3 e4 z2 f2 c3 d3 HadW HbdW Hbd0 H1x H1y;have HatW:=Lib.hid ((Hat.out.below L3.below).1.below (w':=W3.drew) (Below.refl _ _).drew);have Hbt0:=Lib.hid (Hbt.out.below L3.below).1;have H1s:=Lib.hid (ints_one x.tags);have H1t:=Lib.hid (ints_one y.tags);obtain ⟨_,_,_,_,c4,_⟩:=L3.c6 3 rfl;obtain ⟨_,_,_,_,d4,_⟩:=L3.c6 2 rfl;have Hown3:=Lib.hid hown3;clear hown3;go_wp2_with fail
   go_region_law (first
    |(refine step_append_rd (S:=S) _ rfl (.const (.slice none 0 0)) (.tmp 86) 103 rfl W3.heap.size 3 i1 _ 1 8 Tryz.underlying103 hi1 hy0 hy1 hy2 rfl (by omega) (.slice none 0 0) 0 [] rfl (World.ownsRow_nil _ _ _ _) (.slice At x.tags.length ct) x.tags.length (x.tags.map (.int .i64)) rfl HatW.out H1s.out (by simp only [maxLen]; omega) (by omega) (by simp) ?_; intro v3 w4 hown4 hg4 hat4; clear hat4; have hb4:=(Below.refl W3.heap.size W3).drew.grown hg4 (by simp) (fun k hk=>by simp [Value.ownBlock] at hk); have e5:=cell_below' hb4 d4; have e6:=hb4.size)
    |(refine step_append_rd (S:=S) _ rfl (.tmp 87) (.tmp 89) 103 rfl W3.heap.size 3 i1 _ 1 8 Tryz.underlying103 hi1 hy0 hy1 hy2 rfl (by omega) _ _ _ rfl hown4 (.slice Bt y.tags.length dt) y.tags.length (y.tags.map (.int .i64)) rfl (Hbt0.out.below hb4) H1t.out (by simp only [maxLen]; omega) (by omega) e6 ?_; intro v5 w5 hown5 hg5 hat5; clear hat5; have hb5:=hb4.grown hg5 e6 (fun k hk=>(hown4.lt k hk).1); simp only [Nat.zero_add,List.nil_append] at hown5; obtain ⟨A3,c3,rfl⟩:=own_slice hown5; have L5:=L3.step hb5; have z5:=(L5.c6 0 rfl).2.2.2.2.1; have f5:=L5.frozen 0 rfl 4))
   all_goals
    have L6:=L5.set 0 rfl 4 (.slice A3 (x.tags.length+y.tags.length) c3);have hownp:=ownsRow_setCell_below (own_keepL Hown3.out (fun g _ hg=>hb5.block g hg)) (a:=⟨w.heap.size+1+1+1,4,none⟩) hB6 (.slice A3 (x.tags.length+y.tags.length) c3);have hownq:=ownsRow_setCell_below (own_mono hown5 hW3) (a:=⟨w.heap.size+1+1+1,4,none⟩) hB6 (.slice A3 (x.tags.length+y.tags.length) c3);generalize World.setCell _ _ _=W6 at L6 hownp hownq ⊢;clear L5 hown5 hown4 hg4 hg5 hb4 hb5 e5 e6 z5 f5 c4 d4 HatW Hbt0 H1s H1t Hown3;obtain ⟨k0,k1,k2,k3,k4,k5⟩:=L6.c6 0 rfl;obtain ⟨z0,z1,z2,z3,z4,z5⟩:=L6.c6 1 rfl;have fz:=fun j=>L6.frozen 1 rfl j
    go_wp2_with fail;clear k0 k1 k2 k3 k4 k5 z0 z1 z2 z3 z4 z5 fz;have L7:=L6.put6 1 rfl (.bool x.write) (.int .i64 x.lo) (.int .i64 (x.many+y.many)) (.slice A2 (x.data.length+y.data.length) c2) (.slice A3 (x.tags.length+y.tags.length) c3) (.int .i64 mb);have hko:=put6_keep W6 (w.heap.size+1+1) (.bool x.write) (.int .i64 x.lo) (.int .i64 (x.many+y.many)) (.slice A2 (x.data.length+y.data.length) c2) (.slice A3 (x.tags.length+y.tags.length) c3) (.int .i64 mb);generalize World.setCell _ _ _=W7 at L7 hko ⊢;obtain ⟨z0,z1,z2,z3,z4,z5⟩:=L7.c6 1 rfl;have hmb:=Hmb.out;subst hmb;rw [Hj.out];refine bodyPost_ret ?_ rfl (reto_joined hLs Hokx.out Hoky.out (fun s hs=>Had.out.2 s hs) (fun s hs=>Hbd.out.2 s hs) (fun s hs=>Hat.out.2 s hs) (fun s hs=>Hbt.out.2 s hs) (own_keepL hownp (fun g hg _=>hko g (by omega))) (own_keepL hownq (fun g hg _=>hko g (by omega))) L7.below);simp [results,Tryz.results143,go_sem,z0,z1,z2,z3,z4,z5]
theorem rmerge_own (S:Nat→Prop) (a b:Rq) (va vb:Value) (w:World) (ha:ReqAt S w va a) (hb:ReqAt S w vb b) (oka:ReqOk a) (okb:ReqOk b) :
  Calls Tryz.prog 143 #[va,vb] w (RetMergeO (mergeM a b) w):=by
 have key:∀ (x y:Rq) (vx vy:Value),ReqAt S w vx x→ReqAt S w vy y→ReqOk x→ReqOk y→((#[va,vb]=#[vx,vy]∧y.lo+y.many≠x.lo)∨(#[va,vb]=#[vy,vx]∧x.lo+x.many=y.lo))→Calls Tryz.prog 143 #[va,vb] w (RetMergeO (joinedM x y) w):=by
  intro x y vx vy hx hy okx oky hargs;by_cases hk:joinOk x y
  ·exact rmerge_go S x y vx vy _ w hx hy okx oky hk hargs
  ·exact rmerge_bad S x y vx vy _ w hx hy okx oky hk hargs
 unfold mergeM swapM;by_cases hs:b.lo+b.many=a.lo
 ·rw [if_pos hs]; exact key b a vb va hb ha okb oka (.inr ⟨rfl,hs⟩)
 ·rw [if_neg hs]; exact key a b va vb ha hb oka okb (.inl ⟨rfl,hs⟩)
end Go.Proofs.YtagndjihiklmiaaGreatDoor
