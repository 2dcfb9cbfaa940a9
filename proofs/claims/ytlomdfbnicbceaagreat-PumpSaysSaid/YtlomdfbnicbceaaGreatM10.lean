/- The disk: New, Peek, Busy, Flush, both programs. A map from numbers to numbers, as a function. What a disk has may be so, whatever is done. The driver: its pure model, and how it lies in memory. The model of the sectors at hand, and what is worked out of them. -/
import Derived.Test.YtlomdfbnicbceaaGreatM9
import Derived.Maps.OwnSet
import Derived.Test.YtlomdfbnicbceaaGreatM8
import Derived.Test.YtlomdfbnicbceaaGreatM1
set_option linter.unusedSimpArgs false
set_option linter.unusedVariables false
set_option maxRecDepth 100000
set_option maxHeartbeats 8000000
namespace Go.Proofs.YtlomdfbnicbceaaGreat
open Go.RowKit
section
variable {F S:Nat→Prop} {w:World} {TD TP:TypeId} {b:Nat} {d:Dv}
theorem devCells_flush (d:Dv) (wv lv:Value) (h1:d.kept.length=32) (h2:d.now.length=32):setMany (devCells d wv lv).toArray 0 (d.now.map .string)=(devCells { d with kept:=d.now } wv lv).toArray:=by
 have:=setMany_mid (d.now.map .string) [] (d.kept.map .string) (d.now.map .string ++ [wv,lv]) (by simp [h1,h2])
 simpa [devCells] using this
theorem DevAt.row (h:DevAt TD TP S F w b d):∃ wv lv,w.heap[b]?=some (.cells (devCells d wv lv).toArray TD (0,0)):=by
 obtain ⟨_,_,_,wv,lv,_,h,_⟩:=h; exact ⟨wv,lv,h⟩
theorem range_now (h1:d.kept.length=32) {wv lv:Value} (hrow:w.heap[b]?=some (.cells (devCells d wv lv).toArray TD (0,0))):w.rangeAt b 32 (d.now.map .string):=fun j v hv=>by
 rw [cell_of_row _ _ _ _ _ _ hrow]
 rw [List.getElem?_map] at hv
 obtain ⟨s,hs,rfl⟩:=Option.map_eq_some_iff.1 hv
 simpa using devCells_at_now d wv lv h1 j s hs
theorem there_of_row {cs:Array Value} (hrow:w.heap[b]?=some (.cells cs TD (0,0))) (o n:Nat) (h:o+n≤cs.size):w.there b o n:=fun j hj=>by
 rw [cell_of_row _ _ _ _ _ _ hrow,frozen_of_row _ _ _ _ _ hrow,Array.getElem?_eq_getElem (by omega)]
 exact ⟨rfl,rfl⟩
end
theorem devbusy_any (S F:Nat→Prop) (w:World) (b:Nat) (d:Dv) (h:DevAt TDp TPp S F w b d) (h2:d.l.length≤2) :
  Calls Tryz.prog 72 #[.pointer (some ⟨b,0,none⟩)] w (fun e w'=>∃ v,e=.returned v∧ReqsAt (fun b=>S b∨w.heap.size≤b) w' v d.l∧Below w.heap.size w w'):=by
 obtain ⟨hb,hk,hn,wv,lv,cs,hrow,hw,hl,hcs,hok⟩:=h
 have hlen:cs.length=d.l.length:=by rw [← hcs,List.length_map]
 obtain ⟨A,cap,rfl,hc1,hc2⟩:=hl.form
 have c65:w.cell? ⟨b,65,none⟩=some (.slice A cs.length cap):=by rw [cell_of_row _ _ _ _ _ _ hrow]; simpa using devCells_at_l d wv _ hk hn
 have Hl:=Lib.hid hl.rd
 have Hone:Hid (∀ u ∈ cs.flatMap Rc.cells,u.oneCell'=true):=fun u hu=>by obtain ⟨c,hc,hu⟩:=List.mem_flatMap.1 hu; exact rc_one S (hok c hc) u hu
 have Hok:=Lib.hid hok
 have Hcs:=Lib.hid hcs
 have Hlen:=Lib.hid hlen
 clear hrow hw hl hcs hok hlen
 go_enter Tryz.func72,Tryz.ntmps72
 go_wp2_with fail
 refine (clone_any F _ _ _ _ Hl.out Hone.out (by rw [Hlen.out]; omega)).mono ?_
 rintro e w1 ⟨v,rfl,hown,hb1⟩
 obtain ⟨A1,c1,rfl⟩:=own_sl (own_lo hown (Nat.zero_le _))
 have Hown:=Lib.hid hown
 clear hown
 go_wp2_with fail
 go_ret
 refine ⟨_,rfl,⟨cs,Hcs.out,Rd.of_own _ (fun b hb=>.inr hb) Hown.out,fun c hc=>((Hok.out c hc).below hb1).more (fun b hb=>.inl hb)⟩,hb1⟩
theorem devflush_any (S F:Nat→Prop) (w:World) (b:Nat) (d:Dv) (h:DevAt TDp TPp S F w b d) (hSF:∀ k,S k→¬ F k) :
  Calls Tryz.prog 107 #[.pointer (some ⟨b,0,none⟩)] w (fun e w'=>e=.returned (.tuple #[])∧DevAt TDp TPp S F w' b d.flush∧Chg F w w'∧w'.heap.size=w.heap.size):=by
 obtain ⟨hb,hk,hn,wv,lv,cs,hrow,hw,hl,hcs,hok⟩:=h
 have HR:Hid (w.rangeAt b 32 (d.now.map .string)):=range_now hk hrow
 have HT:Hid (w.there b 0 (d.now.map Value.string).toArray.size):=there_of_row hrow 0 _ (by rw [List.size_toArray,List.size_toArray,List.length_map,devCells_len _ _ _ hk hn]; omega)
 have Hs:Hid ((Tryz.prog.info? 32).map (·.size)=some (d.now.map Value.string).length):=show _=_ by rw [List.length_map,hn]; kernel_rfl
 have H1:Hid ((d.now.map Value.string).toArray.all (·.oneCell')=true):=all_oneCell_toArray (fun v hv=>by obtain ⟨s,_,rfl⟩:=List.mem_map.1 hv; rfl)
 have hrow1:=heap_setCells_row b _ (d.now.map .string) 0 w _ hrow
 rw [devCells_flush d wv lv hk hn] at hrow1
 obtain ⟨W1,hW1⟩:∃ u,w.setCells b 0 (d.now.map .string)=u:=⟨_,rfl⟩
 rw [hW1] at hrow1
 have c64:W1.cell? ⟨b,64,none⟩=some wv:=by rw [cell_of_row _ _ _ _ _ _ hrow1]; simpa using devCells_at_w { d with kept:=d.now } wv lv hn hn
 have f64:W1.frozen? ⟨b,64,none⟩=false:=frozen_of_row _ _ _ _ _ hrow1
 have Hchg:Hid (Chg F w W1):=hW1▸Chg.refl.setCells (.inl hb) _ _
 have Hsz:Hid (W1.heap.size=w.heap.size):=by rw [← hW1]; exact (setCells_rest b _ 0 w).2.2.2
 have Hother:Hid (∀ k,k≠b→W1.heap[k]?=w.heap[k]?):=fun k hk=>by rw [← hW1]; exact heap_setCells_other b k hk _ _ _
 have Hrow1:=Lib.hid hrow1
 have Hrow:=Lib.hid hrow
 have Hl:=Lib.hid hl
 have Hcs:=Lib.hid hcs
 have Hok:=Lib.hid hok
 have HS:=Lib.hid hSF
 have Hb:=Lib.hid hb
 have Hk:=Lib.hid hk
 have Hn:=Lib.hid hn
 have HW:=Lib.hid hW1
 clear hrow1 hrow hl hcs hok hSF hb hk hn hw hW1
 go_enter Tryz.func107,Tryz.ntmps107
 go_wp2_with (first
  |(refine wpList_load_mid rfl 32 (.tmp 6) rfl b 32 rfl (d.now.map .string) _ HR.out Tryz.underlying32 rfl Hs.out ?_)
  |(refine wpList_store_mid rfl 32 (.tmp 9) (.tmp 7) rfl b 0 (d.now.map Value.string).toArray rfl rfl HT.out (by rw [List.size_toArray]; exact Hs.out) H1.out ?_
    rw [show w.setCells b 0 (d.now.map Value.string).toArray.toList=W1 from HW.out]))
 go_end0
 have hsz:(W1.setCell ⟨b,64,none⟩ (.slice none 0 0)).heap.size=W1.heap.size:=by simp [World.setCell]
 have hother:∀ k,k≠b→(W1.setCell ⟨b,64,none⟩ (.slice none 0 0)).heap[k]?=w.heap[k]?:=fun k hk=>(Below.heap_setCell _ _ _ _ hk).trans (Hother.out k hk)
 refine ⟨rfl,⟨Hb.out,Hn.out,Hn.out,.slice none 0 0,lv,cs,?_,Ow.nil,?_,Hcs.out,fun c hm=>(Hok.out c hm).keep (fun k hs _=>hother k (fun e=>HS.out k hs (e▸Hb.out)))⟩,Hchg.out.setCell (.inl Hb.out) _,hsz.trans Hsz.out⟩
 ·rw [heap_setCell_same _ _ _ _ _ _ Hrow1.out,devCells_set_w { d with kept:=d.now } _ _ _ Hn.out Hn.out]; rfl
 ·exact ⟨own_keepD Hl.out.1 (fun k hv=>hother k (own_ne Hl.out.1 Hrow.out (by decide) k hv)),Hl.out.2⟩
theorem rdevflush_any (S F:Nat→Prop) (w:World) (b:Nat) (d:Dv) (h:DevAt TDr TPr S F w b d) (hSF:∀ k,S k→¬ F k) :
  Calls Tryz.prog 77 #[.pointer (some ⟨b,0,none⟩)] w (fun e w'=>e=.returned (.tuple #[])∧DevAt TDr TPr S F w' b d.flush∧Chg F w w'∧w'.heap.size=w.heap.size):=by
 obtain ⟨hb,hk,hn,wv,lv,cs,hrow,hw,hl,hcs,hok⟩:=h
 have HR:Hid (w.rangeAt b 32 (d.now.map .string)):=range_now hk hrow
 have HT:Hid (w.there b 0 (d.now.map Value.string).toArray.size):=there_of_row hrow 0 _ (by rw [List.size_toArray,List.size_toArray,List.length_map,devCells_len _ _ _ hk hn]; omega)
 have Hs:Hid ((Tryz.prog.info? 32).map (·.size)=some (d.now.map Value.string).length):=show _=_ by rw [List.length_map,hn]; kernel_rfl
 have H1:Hid ((d.now.map Value.string).toArray.all (·.oneCell')=true):=all_oneCell_toArray (fun v hv=>by obtain ⟨s,_,rfl⟩:=List.mem_map.1 hv; rfl)
 have hrow1:=heap_setCells_row b _ (d.now.map .string) 0 w _ hrow
 rw [devCells_flush d wv lv hk hn] at hrow1
 obtain ⟨W1,hW1⟩:∃ u,w.setCells b 0 (d.now.map .string)=u:=⟨_,rfl⟩
 rw [hW1] at hrow1
 have c64:W1.cell? ⟨b,64,none⟩=some wv:=by rw [cell_of_row _ _ _ _ _ _ hrow1]; simpa using devCells_at_w { d with kept:=d.now } wv lv hn hn
 have f64:W1.frozen? ⟨b,64,none⟩=false:=frozen_of_row _ _ _ _ _ hrow1
 have Hchg:Hid (Chg F w W1):=hW1▸Chg.refl.setCells (.inl hb) _ _
 have Hsz:Hid (W1.heap.size=w.heap.size):=by rw [← hW1]; exact (setCells_rest b _ 0 w).2.2.2
 have Hother:Hid (∀ k,k≠b→W1.heap[k]?=w.heap[k]?):=fun k hk=>by rw [← hW1]; exact heap_setCells_other b k hk _ _ _
 have Hrow1:=Lib.hid hrow1
 have Hrow:=Lib.hid hrow
 have Hl:=Lib.hid hl
 have Hcs:=Lib.hid hcs
 have Hok:=Lib.hid hok
 have HS:=Lib.hid hSF
 have Hb:=Lib.hid hb
 have Hk:=Lib.hid hk
 have Hn:=Lib.hid hn
 have HW:=Lib.hid hW1
 clear hrow1 hrow hl hcs hok hSF hb hk hn hw hW1
 go_enter Tryz.func77,Tryz.ntmps77
 go_wp2_with (first
  |(refine wpList_load_mid rfl 32 (.tmp 5) rfl b 32 rfl (d.now.map .string) _ HR.out Tryz.underlying32 rfl Hs.out ?_)
  |(refine wpList_store_mid rfl 32 (.tmp 8) (.tmp 6) rfl b 0 (d.now.map Value.string).toArray rfl rfl HT.out (by rw [List.size_toArray]; exact Hs.out) H1.out ?_
    rw [show w.setCells b 0 (d.now.map Value.string).toArray.toList=W1 from HW.out]))
 go_end0
 have hsz:(W1.setCell ⟨b,64,none⟩ (.slice none 0 0)).heap.size=W1.heap.size:=by simp [World.setCell]
 have hother:∀ k,k≠b→(W1.setCell ⟨b,64,none⟩ (.slice none 0 0)).heap[k]?=w.heap[k]?:=fun k hk=>(Below.heap_setCell _ _ _ _ hk).trans (Hother.out k hk)
 refine ⟨rfl,⟨Hb.out,Hn.out,Hn.out,.slice none 0 0,lv,cs,?_,Ow.nil,?_,Hcs.out,fun c hm=>(Hok.out c hm).keep (fun k hs _=>hother k (fun e=>HS.out k hs (e▸Hb.out)))⟩,Hchg.out.setCell (.inl Hb.out) _,hsz.trans Hsz.out⟩
 ·rw [heap_setCell_same _ _ _ _ _ _ Hrow1.out,devCells_set_w { d with kept:=d.now } _ _ _ Hn.out Hn.out]; rfl
 ·exact ⟨own_keepD Hl.out.1 (fun k hv=>hother k (own_ne Hl.out.1 Hrow.out (by decide) k hv)),Hl.out.2⟩
theorem dev_new (TD TP:TypeId) (S F:Nat→Prop) {w:World} {b:Nat} (h:w.heap[b]?=some (.cells (devCells Dv.new (.slice none 0 0) (.slice none 0 0)).toArray TD (0,0))) (hb:F b):DevAt TD TP S F w b Dv.new :=
 ⟨hb,rfl,rfl,_,_,[],h,Ow.nil,Ow.nil,rfl,by simp⟩
theorem devnew_any (w:World) :
  Calls Tryz.prog 8 #[] w (fun e w'=>e=.returned (.pointer (some ⟨w.heap.size,0,none⟩))∧(∀ S,DevAt TDp TPp S (fun k=>k=w.heap.size) w' w.heap.size Dv.new)∧Below w.heap.size w w'∧w'.heap.size=w.heap.size+1):=by
 go_enter Tryz.func8,Tryz.ntmps8
 go_wp2_with fail
 go_ret
 exact ⟨rfl,fun S=>dev_new _ _ _ _ (heap_alloc_new _ _) rfl,(Below.refl _ _).alloc (Nat.le_refl _) _,by simp⟩
end Go.Proofs.YtlomdfbnicbceaaGreat
namespace Go.Proofs.YtlomdfbnicbceaaGreat
open Go.RowKit
abbrev tMap:TypeId:=66
theorem tMap_u:Tryz.prog.underlying tMap=some (.map 3 3):=Tryz.underlying66
theorem int_u:Tryz.prog.underlying 3=some (.int .i64):=Tryz.underlying3
theorem int_zero (w:World):(zeroValue 3).run Tryz.prog w=.ok (.int .i64 0) w:=by kernel_rfl
def MapAt (w:World) (b n:Nat) (f:Int→Int):Prop :=
 ∃ D:DataW Unit,w.ownsMap Tryz.prog 3 (plainElem Tryz.prog 3) b n D∧Maps.IsMap D∧∀ k:Int,i64 k→D.atKey (.int .i64 k) (.lit (.int .i64 0))=.lit (.int .i64 (f k))
theorem wf_i64 {n:Int} (h:i64 n):(Lit.int .i64 n).wf=true:=by
 unfold i64 at h
 simp [Lit.wf,IntKind.min,IntKind.max,IntKind.signed,IntKind.bits]
 omega
theorem key_i64 {n:Int} (h:i64 n):keyOf Tryz.prog 3 (.int .i64 n)=some (.int .i64 n):=by
 simp [keyOf,mapKey,int_u,wf_i64 h]
def upd (f:Int→Int) (k v:Int):Int→Int:=fun j=>if j=k then v else f j
section
variable {w w':World} {b n:Nat} {f:Int→Int} {k v:Int}
theorem MapAt.made (w:World):MapAt (w.alloc (.map #[] 0)) w.heap.size 0 (fun _=>0):=⟨.map [],World.ownsMap_made _ _ _ _,Maps.isMap_empty,fun k _=>rfl⟩
theorem MapAt.mono {m:Nat} (h:MapAt w b n f) (hm:n≤m):MapAt w b m f:=by
 obtain ⟨D,h1,h2⟩:=h
 exact ⟨D,h1.mono hm,h2⟩
theorem MapAt.lt (h:MapAt w b n f):b<w.heap.size:=by obtain ⟨D,h,_⟩:=h; exact h.lt
theorem MapAt.keep (h:MapAt w b n f) (hk:w'.heap[b]?=w.heap[b]?):MapAt w' b n f:=by
 obtain ⟨D,⟨es,clock,hb,rest⟩,h2⟩:=h
 exact ⟨D,⟨es,clock,hk.trans hb,rest⟩,h2⟩
theorem MapAt.lookup (h:MapAt w b n f) (hk:i64 k):(Instr.lookup tMap (.map (some b)) (.int .i64 k) false).run Tryz.prog w=.ok (.int .i64 (f k)) w:=by
 obtain ⟨D,h1,h2,h3⟩:=h
 obtain ⟨c,hrun,hat,_⟩:=h1.lookup_int (Maps.int_keyed int_u) tMap_u int_u (int_zero w) (key_i64 hk)
 rw [h3 k hk] at hat
 simp only [DataW.lit.injEq,Lit.int.injEq,true_and] at hat
 rw [hrun,hat]
theorem MapAt.update (h:MapAt w b n f) (hk:i64 k) (hv:i64 v) (hn:n<1000000000):∃ w',(Instr.mapUpdate tMap (.map (some b)) (.int .i64 k) (.int .i64 v)).run Tryz.prog w=.ok () w'∧MapAt w' b (n+1) (upd f k v)∧w.grownBy w' (some b):=by
 obtain ⟨D,h1,h2,h3⟩:=h
 obtain ⟨w',hrun,ho,hg⟩:=h1.update (Maps.int_keyed int_u) tMap_u (by simp only [maxLen]; omega) (key_i64 hk) (plainElem_int int_u (wf_i64 hv))
 refine ⟨w',hrun,⟨_,ho,h2.put _ _,fun j hj=>?_⟩,hg⟩
 unfold upd
 by_cases e:j=k
 ·subst e
  rw [if_pos rfl,Maps.atKey_put_same h2 ((Maps.int_keyed int_u).key (key_i64 hk))]
 ·rw [if_neg e,Maps.atKey_put_other (by simpa using e)]
  exact h3 j hj
theorem MapAt.drop (h:MapAt w b n f) (hk:i64 k) (ty:TypeId):∃ w',(Builtin.delete_ #[tMap,3] ty #[.map (some b),.int .i64 k]).run Tryz.prog w=.ok (.tuple #[]) w'∧MapAt w' b n (upd f k 0)∧w.grownBy w' (some b):=by
 obtain ⟨D,h1,h2,h3⟩:=h
 obtain ⟨w',hrun,ho,ht⟩:=h1.drop (Maps.int_keyed int_u) tMap_u (key_i64 hk) ty
 refine ⟨w',hrun,⟨_,ho,h2.del _,fun j hj=>?_⟩,?_⟩
 ·unfold upd
  by_cases e:j=k
  ·subst e
   rw [if_pos rfl,Maps.atKey_del_same]
  ·rw [if_neg e,Maps.atKey_del_other (by simpa using e)]
   exact h3 j hj
 ·exact ht.grown
end
theorem wpList_drop {ops:Array Oper} {rest:List Oper} {o:Oper} {a:Act} {Q:Exit→Act→World→Prop} (w:World) (hg:o.guard=none) (m x:Operand) (hop:o.op=Op.call { callee:=Callee.builtin Builtin.delete,args:=#[m,x],argTypes:=#[tMap,3] })
  (b n:Nat) (f:Int→Int) (k:Int) (hm:a.eval m=.map (some b)) (hx:a.eval x=.int .i64 k) (h:MapAt w b n f) (hk:i64 k)
  (hK:∀ w',MapAt w' b n (upd f k 0)→w.grownBy w' (some b)→wpList Tryz.prog ops Q rest (a.put o.dst (.tuple #[])) w'):wpList Tryz.prog ops Q (o :: rest) a w:=by
 refine wpList_plain hg fun K' hK'=>?_
 obtain ⟨w',hrun,r1,r2⟩:=h.drop hk o.type
 unfold Oper.wp
 simp [execOp,hop,resolve,invoke,builtin,hm,hx,hrun,Result.andThen]
 exact hK' _ _ (hK w' r1 r2)
theorem wpList_upd {ops:Array Oper} {rest:List Oper} {o:Oper} {a:Act} {Q:Exit→Act→World→Prop} (w:World) (hg:o.guard=none) (m x y:Operand) (hop:o.op=Op.mapUpdate tMap m x y)
  (b n:Nat) (f:Int→Int) (k v:Int) (hm:a.eval m=.map (some b)) (hx:a.eval x=.int .i64 k) (hy:a.eval y=.int .i64 v) (h:MapAt w b n f) (hk:i64 k) (hv:i64 v) (hn:n<1000000000)
  (hK:∀ w',MapAt w' b (n+1) (upd f k v)→w.grownBy w' (some b)→wpList Tryz.prog ops Q rest (a.put o.dst undef) w'):wpList Tryz.prog ops Q (o :: rest) a w:=by
 refine wpList_plain hg fun K' hK'=>?_
 obtain ⟨w',hrun,r1,r2⟩:=h.update hk hv hn
 unfold Oper.wp
 simp [execOp,hop,hm,hx,hy,hrun,Result.andThen]
 exact hK' _ _ (hK w' r1 r2)
end Go.Proofs.YtlomdfbnicbceaaGreat
namespace Go.Proofs.YtlomdfbnicbceaaGreat
theorem ReqOk.size {r:Rq} (h:ReqOk r):∀ s ∈ r.data,s.size≤4:=fun s hs=>by
 have:=h.data
 unfold dataOk at this
 rw [List.all_eq_true] at this
 simpa using this s hs
theorem ReqOk.nats {r:Rq} (h:ReqOk r):∃ p n:Nat,r.lo=(p:Int)∧r.many=(n:Int)∧p+n≤32∧1≤n∧n≤4:=by
 have h1:=h.span
 unfold SpanOk at h1
 exact ⟨r.lo.toNat,r.many.toNat,by omega,by omega,by omega,by omega,by omega⟩
theorem ReqOk.len {r:Rq} (h:ReqOk r) (hw:r.write=true):(r.data.length:Int)=r.many:=by
 have:=h.shape
 unfold shapeOk at this
 rwa [if_pos hw] at this
theorem DvOk.new:DvOk Dv.new:=by
 have h0:∀ s ∈ List.replicate 32 (⟨#[]⟩:ByteArray),s.size≤16:=fun s hs=>by
  obtain rfl:=List.eq_of_mem_replicate hs
  exact Nat.zero_le _
 exact ⟨rfl,rfl,h0,h0,by simp [Dv.new],by simp [Dv.new],by simp [Dv.new]⟩
theorem DvOk.start {d:Dv} {r:Rq} (h:DvOk d) (hr:reqF r=0):DvOk (d.start r).1:=by
 unfold Dv.start
 split
 ·exact h
 ·rename_i h2
  refine ⟨h.kept,h.now,h.keptS,h.nowS,h.waits,fun x hx=>?_,?_⟩
  ·rcases List.mem_append.1 hx with hx | hx
   ·exact h.l x hx
   ·simp at hx; subst hx; exact hr
  ·have:=h.two
   simp only [List.length_append,List.length_cons,List.length_nil]
   omega
theorem start_waits (d:Dv) (r:Rq):(d.start r).1.waits=d.waits:=by
 unfold Dv.start; split <;> rfl
theorem DvOk.put {d:Dv} (h:DvOk d) {p:Nat} {s:ByteArray} (hp:p<32) (hs:s.size≤16):DvOk (d.put p s):=by
 refine ⟨h.kept,by simpa [Dv.put] using h.now,h.keptS,fun x hx=>?_,fun x hx=>?_,h.l,h.two⟩
 ·rcases List.mem_or_eq_of_mem_set hx with hx | rfl
  ·exact h.nowS x hx
  ·exact hs
 ·rcases List.mem_append.1 hx with hx | hx
  ·exact h.waits x hx
  ·simp at hx; subst hx; exact ⟨hp,hs⟩
theorem DvOk.wrote:∀ {l:List ByteArray} {d:Dv} {p:Nat},DvOk d→p+l.length≤32→(∀ s ∈ l,s.size≤16)→DvOk (d.wrote p l)
 | [],_,_,h,_,_=>h
 |s :: l,d,p,h,hp,hs=>by
  simp only [List.length_cons] at hp
  rw [Dv.wrote]
  exact DvOk.wrote (d:=d.put p s) (p:=p+1) (h.put (by omega) (hs s (by simp))) (by omega) (fun x hx=>hs x (by simp [hx]))
theorem DvOk.drop {d:Dv} (h:DvOk d) (i:Nat):DvOk (d.drop i) :=
 ⟨h.kept,h.now,h.keptS,h.nowS,h.waits,fun r hr=>h.l r (List.mem_of_mem_eraseIdx hr),Nat.le_trans (List.length_eraseIdx_le _ _) h.two⟩
theorem DvOk.ended {d:Dv} (h:DvOk d) {r:Rq} (hr:ReqOk r) (i:Nat) (f:Bool):DvOk (d.ended r i f).1∧(d.ended r i f).1.waits.length≤d.waits.length+4:=by
 unfold Dv.ended
 split
 ·exact ⟨h.drop i,by simp [Dv.drop]⟩
 ·split
  ·rename_i hw
   obtain ⟨p,n,h1,h2,h3,_,h4⟩:=hr.nats
   have h5:=hr.len hw
   refine ⟨(h.drop i).wrote (by rw [h1]; simp; omega) (fun s hs=>Nat.le_trans (hr.size s hs) (by omega)),?_⟩
   rw [(Dv.wrote_same _ _ _).2.2.2]
   show d.waits.length+_≤_
   omega
  ·exact ⟨h.drop i,by simp [Dv.drop]⟩
theorem DvOk.endAt {d:Dv} (h:DvOk d) (i:Int) (f:Bool):DvOk (d.endAt i f).1∧(d.endAt i f).1.waits.length≤d.waits.length+4:=by
 unfold Dv.endAt
 split
 ·exact ⟨h,by simp⟩
 ·cases hr:d.l[i.toNat]? with
  |none=>exact ⟨h,by simp⟩
  |some r=>exact h.ended (reqF_zero (h.l r (List.mem_of_getElem? hr))) _ _
theorem DvOk.flush {d:Dv} (h:DvOk d):DvOk d.flush:=⟨h.now,h.now,h.nowS,h.nowS,by simp [Dv.flush],h.l,h.two⟩
theorem DvOk.nowM {d:Dv} (h:DvOk d):∀ s ∈ d.now,s.size≤maxLen:=fun s hs=>Nat.le_trans (h.nowS s hs) (by simp [maxLen])
theorem endAt_split (d:Dv) (i:Int):(i<0∨(d.l.length:Int)≤i)∨∃ (k:Nat) (r:Rq),i=(k:Int)∧d.l[k]?=some r:=by
 by_cases h:i<0∨(d.l.length:Int)≤i
 ·exact .inl h
 ·obtain ⟨k,rfl⟩:∃ k:Nat,i=(k:Int):=⟨i.toNat,by omega⟩
  exact .inr ⟨k,d.l[k]'(by omega),rfl,List.getElem?_eq_getElem (by omega)⟩
end Go.Proofs.YtlomdfbnicbceaaGreat
namespace Go.Proofs.YtlomdfbnicbceaaGreat
open Go.RowKit
structure Drv where
 d:Dv
 tries:Int→Int
def tagOf (r:Rq):Int:=r.tags.headD 0
def Drv.endAt (v:Drv) (i:Int) (f:Bool):Drv × Rs × Bool × Nat :=
 let q:=v.d.endAt i f
 if q.2.2≠0 then ({ v with d:=q.1 },zeroRs,false,q.2.2)
 else if q.2.1.err=0 then (⟨q.1,upd v.tries (tagOf q.2.1.req) 0⟩,q.2.1,true,0)
 else if v.tries (tagOf q.2.1.req)+1<3 then (⟨(q.1.start q.2.1.req).1,upd v.tries (tagOf q.2.1.req) (v.tries (tagOf q.2.1.req)+1)⟩,zeroRs,false,(q.1.start q.2.1.req).2)
 else (⟨q.1,upd v.tries (tagOf q.2.1.req) 0⟩,q.2.1,true,0)
structure DrvAt (TD TP TV:TypeId) (S F:Nat→Prop) (w:World) (bv bd bt n:Nat) (v:Drv):Prop where
 row:w.heap[bv]?=some (.cells #[.pointer (some ⟨bd,0,none⟩),.map (some bt)] TV (0,0))
 map:∃ f,MapAt w bt n f∧∀ k,i64 k→f k=v.tries k
 dev:DevAt TD TP S F w bd v.d
 nv:¬ F bv
 nt:¬ F bt
 sv:∀ k,S k→k≠bv∧k≠bt
section
variable {TD TP TV:TypeId} {S F:Nat→Prop} {w w':World} {bv bd bt n:Nat} {v:Drv}
theorem DrvAt.ne (h:DrvAt TD TP TV S F w bv bd bt n v):bv≠bt:=by
 rintro rfl
 obtain ⟨f,⟨D,⟨es,clock,hb,_⟩,_⟩,_⟩:=h.map
 rw [h.row] at hb
 cases hb
theorem DrvAt.below (h:DrvAt TD TP TV S F w bv bd bt n v) (hb:Below w.heap.size w w'):DrvAt TD TP TV S F w' bv bd bt n v:=by
 obtain ⟨f,hf,hv⟩:=h.map
 exact ⟨(hb.block _ (Array.getElem?_eq_some_iff.1 h.row).1).trans h.row,⟨f,hf.keep (hb.block _ hf.lt),hv⟩,h.dev.below hb,h.nv,h.nt,h.sv⟩
end
end Go.Proofs.YtlomdfbnicbceaaGreat
namespace Go.Proofs.YtlomdfbnicbceaaGreat
open Go.RowKit
structure Bf where
 pos:Int
 data:ByteArray
 dirty:Bool
 used:Int
 deriving DecidableEq,Inhabited
def zeroBf:Bf:=⟨0,⟨#[]⟩,false,0⟩
def Rises (l:List Bf):Prop:=l.Pairwise (fun a b=>a.pos<b.pos)
def isB (l:List Bf) (p:Int):Bool:=l.any (fun b=>decide (b.pos=p))
def posB (l:List Bf) (p:Int):Nat:=l.countP (fun b=>decide (b.pos<p))
def getB (l:List Bf) (p:Int):Bf × Bool:=match l.find? (fun b=>decide (b.pos=p)) with
 |some b=>(b,true)
 |none=>(zeroBf,false)
def useB (l:List Bf) (p now:Int):List Bf:=l.map (fun b=>if b.pos=p then { b with used:=now } else b)
def cleanB (l:List Bf) (p:Int) (d:ByteArray):List Bf:=l.map (fun b=>if b.pos=p∧b.data=d then { b with dirty:=false } else b)
def dirtyB (l:List Bf):Nat:=l.countP (·.dirty)
def bestB (ok:Bf→Bool) (l:List Bf):Nat→Int
 |0 => -1
 |k+1=>match l[k]? with
  |none=>bestB ok l k
  |some r=>if ok r && (decide (bestB ok l k<0) || decide (r.used<(l.getD (bestB ok l k).toNat default).used)) then (k:Int) else bestB ok l k
theorem bestB_range (ok:Bf→Bool) (l:List Bf):∀ k,-1≤bestB ok l k∧bestB ok l k<k
 |0=>by simp [bestB]
 |k+1=>by
  have ih:=bestB_range ok l k
  unfold bestB
  split
  ·omega
  ·split <;> omega
theorem bestB_no {ok:Bf→Bool} {l:List Bf} {k:Nat} {r:Bf} (h:l[k]?=some r) (ho:ok r=false):bestB ok l (k+1)=bestB ok l k:=by
 rw [bestB,h]; simp [ho]
theorem bestB_first {ok:Bf→Bool} {l:List Bf} {k:Nat} {r:Bf} (h:l[k]?=some r) (ho:ok r=true) (hb:bestB ok l k<0):bestB ok l (k+1)=k:=by
 rw [bestB,h]; simp [ho,hb]
theorem bestB_less {ok:Bf→Bool} {l:List Bf} {k j:Nat} {r r':Bf} (h:l[k]?=some r) (ho:ok r=true) (hb:bestB ok l k=j) (hj:l[j]?=some r') (hk:r.used<r'.used):bestB ok l (k+1)=k:=by
 have e:l.getD j default=r':=by rw [List.getD_eq_getElem?_getD,hj]; rfl
 rw [bestB,h,hb]; simp only [Int.toNat_natCast,e]; simp [ho,hk]
theorem bestB_more {ok:Bf→Bool} {l:List Bf} {k j:Nat} {r r':Bf} (h:l[k]?=some r) (hb:bestB ok l k=j) (hj:l[j]?=some r') (hk:¬ r.used<r'.used):bestB ok l (k+1)=j:=by
 have e:l.getD j default=r':=by rw [List.getD_eq_getElem?_getD,hj]; rfl
 rw [bestB,h,hb]; simp only [Int.toNat_natCast,e]; simp; intro _ h2; omega
def leastB (l:List Bf) (dirty:Bool) (held:Int→Bool):Int:=bestB (fun b=>(b.dirty == dirty) && !held b.pos) l l.length
def pickB (l:List Bf) (held:Int→Bool):Int:=if leastB l true held<0 then -1 else (l.getD (leastB l true held).toNat default).pos
def insB (l:List Bf) (b:Bf):List Bf:=l.take (posB l b.pos) ++ b :: l.drop (posB l b.pos)
def putB (l:List Bf) (b:Bf) (held:Int→Bool):Option (List Bf) :=
 if isB l b.pos then some (l.map fun x=>if x.pos=b.pos then b else x)
 else if 8≤l.length then (if leastB l false held<0 then none else some (insB (l.eraseIdx (leastB l false held).toNat) b))
 else some (insB l b)
def rput (b:Bf) (gone:Int):Int→List Bf→Bool→List Bf
 |_,[],laid=>if laid then [] else [b]
 |i,x :: xs,laid=>(if !laid && decide (b.pos≤x.pos) then [b] else []) ++ (if !decide (x.pos=b.pos) && !decide (i=gone) then [x] else []) ++ rput b gone (i+1) xs (laid || decide (b.pos≤x.pos))
def goodB (l:List Bf):Prop:=l.length≤8∧(∀ b ∈ l,0≤b.pos∧b.pos≤31∧b.data.size≤10)∧Rises l
theorem Rises.tail {x:Bf} {l:List Bf} (h:Rises (x :: l)):Rises l:=(List.pairwise_cons.1 h).2
theorem Rises.lt {l:List Bf} (h:Rises l) {i j:Nat} {a b:Bf} (hij:i<j) (ha:l[i]?=some a) (hb:l[j]?=some b):a.pos<b.pos:=by
 obtain ⟨h1,rfl⟩:=List.getElem?_eq_some_iff.1 ha
 obtain ⟨h2,rfl⟩:=List.getElem?_eq_some_iff.1 hb
 exact List.pairwise_iff_getElem.1 h i j h1 h2 hij
theorem Rises.inj {l:List Bf} (h:Rises l) {i j:Nat} {a b:Bf} (ha:l[i]?=some a) (hb:l[j]?=some b) (hp:a.pos=b.pos):i=j:=by
 rcases Nat.lt_trichotomy i j with h1 | h1 | h1
 ·have:=h.lt h1 ha hb; omega
 ·exact h1
 ·have:=h.lt h1 hb ha; omega
theorem posB_le (l:List Bf) (p:Int):posB l p≤l.length:=List.countP_le_length
theorem posB_cons (x:Bf) (l:List Bf) (p:Int):posB (x :: l) p=posB l p+if x.pos<p then 1 else 0:=by
 unfold posB; rw [List.countP_cons]; simp
theorem posB_zero:∀ {l:List Bf} {p:Int},(∀ b ∈ l,¬ b.pos<p)→posB l p=0:=by
 intro l p h; unfold posB; rw [List.countP_eq_zero]; intro b hb; simpa using h b hb
theorem posB_ahead:∀ {l:List Bf} {p:Int},Rises l→∀ {i:Nat} {b:Bf},l[i]?=some b→i<posB l p→b.pos<p
 | [],_,_,i,b,hb,_=>by simp at hb
 |x :: l,p,h,0,b,hb,hi=>by
  simp at hb; subst hb
  by_cases hx:x.pos<p
  ·exact hx
  ·rw [posB_zero (fun b hb=>?_)] at hi
   ·omega
   ·rcases List.mem_cons.1 hb with rfl | hb
    ·exact hx
    ·have:=(List.pairwise_cons.1 h).1 b hb; omega
 |x :: l,p,h,i+1,b,hb,hi=>by
  simp at hb
  refine posB_ahead h.tail hb ?_
  rw [posB_cons] at hi
  split at hi <;> omega
theorem posB_behind:∀ {l:List Bf} {p:Int},Rises l→∀ {i:Nat} {b:Bf},l[i]?=some b→posB l p≤i→p≤b.pos
 | [],_,_,i,b,hb,_=>by simp at hb
 |x :: l,p,h,0,b,hb,hi=>by
  simp at hb; subst hb
  rw [posB_cons] at hi
  split at hi <;> omega
 |x :: l,p,h,i+1,b,hb,hi=>by
  simp at hb
  by_cases hx:x.pos<p
  ·refine posB_behind h.tail hb ?_
   rw [posB_cons,if_pos hx] at hi; omega
  ·have:=(List.pairwise_cons.1 h).1 b (List.mem_of_getElem? hb); omega
theorem posB_eq {l:List Bf} {p:Int} (h:Rises l) {k:Nat} (hk:k≤l.length) (h1:∀ i b,i<k→l[i]?=some b→b.pos<p) (h2:∀ i b,k≤i→l[i]?=some b→p≤b.pos):posB l p=k:=by
 have hle:=posB_le l p
 rcases Nat.lt_trichotomy (posB l p) k with hc | hc | hc
 ·have hx:l[posB l p]?=some l[posB l p]:=List.getElem?_eq_getElem (by omega)
  have:=h1 _ _ hc hx
  have:=posB_behind h hx (Nat.le_refl _)
  omega
 ·exact hc
 ·have hx:l[k]?=some l[k]:=List.getElem?_eq_getElem (by omega)
  have:=h2 _ _ (Nat.le_refl _) hx
  have:=posB_ahead h hx hc
  omega
theorem isB_iff {l:List Bf} {p:Int}:isB l p=true↔∃ b ∈ l,b.pos=p:=by unfold isB; simp
theorem isB_false {l:List Bf} {p:Int}:isB l p=false↔∀ b ∈ l,b.pos≠p:=by unfold isB; simp
theorem isB_at {l:List Bf} {p:Int} (h:Rises l) (hi:isB l p=true):∃ b,l[posB l p]?=some b∧b.pos=p:=by
 obtain ⟨b,hb,rfl⟩:=isB_iff.1 hi
 obtain ⟨i,hi⟩:=List.mem_iff_getElem?.1 hb
 have:posB l b.pos=i:=posB_eq h (Nat.le_of_lt (List.getElem?_eq_some_iff.1 hi).1) (fun j c hj hc=>h.lt hj hc hi) (fun j c hj hc=>by
  rcases Nat.eq_or_lt_of_le hj with e | e
  ·subst e; rw [hi] at hc; cases hc; exact Int.le_refl _
  ·exact Int.le_of_lt (h.lt e hi hc))
 exact ⟨b,by rw [this]; exact hi,rfl⟩
theorem isB_pos {l:List Bf} {p:Int} (h:Rises l):isB l p=(decide (posB l p<l.length) && decide ((l.getD (posB l p) default).pos=p)):=by
 cases hi:isB l p with
 |true =>
  obtain ⟨b,hb,hp⟩:=isB_at h hi
  have:=(List.getElem?_eq_some_iff.1 hb).1
  rw [List.getD_eq_getElem?_getD,hb]
  simp [this,hp]
 |false =>
  by_cases hlt:posB l p<l.length
  ·have hx:l[posB l p]?=some l[posB l p]:=List.getElem?_eq_getElem hlt
   have:=isB_false.1 hi _ (List.mem_of_getElem? hx)
   rw [List.getD_eq_getElem?_getD,hx]
   simp [this]
  ·simp [hlt]
theorem getB_of {l:List Bf} {p:Int} (h:Rises l) {i:Nat} {b:Bf} (hb:l[i]?=some b) (hp:b.pos=p):getB l p=(b,true):=by
 unfold getB
 cases hf:l.find? (fun b=>decide (b.pos=p)) with
 |none=>exact absurd (List.find?_eq_none.1 hf b (List.mem_of_getElem? hb)) (by simp [hp])
 |some c =>
  have hc:=List.mem_of_find?_eq_some hf
  have hcp:=List.find?_some hf
  simp at hcp
  obtain ⟨j,hj⟩:=List.mem_iff_getElem?.1 hc
  have:=h.inj hb hj (hp.trans hcp.symm)
  subst this
  rw [hb] at hj
  cases hj
  rfl
theorem getB_no {l:List Bf} {p:Int} (h:isB l p=false):getB l p=(zeroBf,false):=by
 unfold getB
 have:l.find? (fun b=>decide (b.pos=p))=none:=by rw [List.find?_eq_none]; intro b hb; simpa using isB_false.1 h b hb
 rw [this]
theorem getB_is {l:List Bf} {p:Int}:(getB l p).2=isB l p:=by
 unfold getB
 cases hf:l.find? (fun b=>decide (b.pos=p)) with
 |none=>exact (isB_false.2 (fun b hb=>by simpa using List.find?_eq_none.1 hf b hb)).symm
 |some c=>exact (isB_iff.2 ⟨c,List.mem_of_find?_eq_some hf,by simpa using List.find?_some hf⟩).symm
theorem map_one {l:List Bf} (h:Rises l) {p:Int} {i:Nat} {b:Bf} (hb:l[i]?=some b) (hp:b.pos=p) (f:Bf→Bf) (hf:∀ x,x.pos≠p→f x=x):l.map f=l.set i (f b):=by
 apply List.ext_getElem?
 intro j
 rw [List.getElem?_map,List.getElem?_set]
 by_cases e:i=j
 ·subst e
  rw [if_pos rfl,if_pos (List.getElem?_eq_some_iff.1 hb).1,hb]; rfl
 ·rw [if_neg e]
  cases hj:l[j]? with
  |none=>rfl
  |some c =>
   have:c.pos≠p:=fun hc=>e (h.inj hb hj (hp.trans hc.symm))
   simp [hf c this]
theorem useB_no {l:List Bf} {p n:Int} (h:isB l p=false):useB l p n=l:=by
 unfold useB
 conv=>rhs; rw [← List.map_id l]
 apply List.map_congr_left
 intro b hb
 rw [if_neg (isB_false.1 h b hb)]; rfl
theorem useB_at {l:List Bf} (h:Rises l) {p n:Int} {i:Nat} {b:Bf} (hb:l[i]?=some b) (hp:b.pos=p):useB l p n=l.set i { b with used:=n }:=by
 have:=map_one h hb hp (fun b=>if b.pos=p then { b with used:=n } else b) (fun x hx=>if_neg hx)
 rw [if_pos hp] at this; exact this
theorem cleanB_no {l:List Bf} {p:Int} {d:ByteArray} (h:∀ b ∈ l,b.pos=p→b.data≠d):cleanB l p d=l:=by
 unfold cleanB
 conv=>rhs; rw [← List.map_id l]
 apply List.map_congr_left
 intro b hb
 rw [if_neg (fun e=>h b hb e.1 e.2)]; rfl
theorem cleanB_at {l:List Bf} (h:Rises l) {p:Int} {d:ByteArray} {i:Nat} {b:Bf} (hb:l[i]?=some b) (hp:b.pos=p) (hd:b.data=d):cleanB l p d=l.set i { b with dirty:=false }:=by
 have:=map_one h hb hp (fun b=>if b.pos=p∧b.data=d then { b with dirty:=false } else b) (fun x hx=>if_neg (fun e=>hx e.1))
 rw [if_pos ⟨hp,hd⟩] at this; exact this
theorem cleanB_other {l:List Bf} (h:Rises l) {p:Int} {d:ByteArray} {i:Nat} {b:Bf} (hb:l[i]?=some b) (hp:b.pos=p) (hd:b.data≠d):cleanB l p d=l :=
 cleanB_no fun c hc hcp=>by
  obtain ⟨j,hj⟩:=List.mem_iff_getElem?.1 hc
  have:=h.inj hb hj (hp.trans hcp.symm)
  subst this
  rw [hb] at hj
  cases hj
  exact hd
theorem mapPos_rises {l:List Bf} (h:Rises l) (f:Bf→Bf) (hf:∀ x,(f x).pos=x.pos):Rises (l.map f):=by
 unfold Rises
 rw [List.pairwise_map]
 exact List.Pairwise.imp (fun {a b} h=>by rw [hf,hf]; exact h) h
theorem useB_rises {l:List Bf} (h:Rises l) (p n:Int):Rises (useB l p n):=mapPos_rises h _ (fun x=>by split <;> rfl)
theorem cleanB_rises {l:List Bf} (h:Rises l) (p:Int) (d:ByteArray):Rises (cleanB l p d):=mapPos_rises h _ (fun x=>by split <;> rfl)
theorem erase_rises {l:List Bf} (h:Rises l) (i:Nat):Rises (l.eraseIdx i):=List.Pairwise.sublist (List.eraseIdx_sublist l i) h
theorem erase_no {l:List Bf} {p:Int} (h:isB l p=false) (i:Nat):isB (l.eraseIdx i) p=false:=isB_false.2 fun b hb=>isB_false.1 h b (List.mem_of_mem_eraseIdx hb)
theorem insB_rises {l:List Bf} (h:Rises l) {b:Bf} (hn:isB l b.pos=false):Rises (insB l b):=by
 unfold insB Rises
 rw [List.pairwise_append]
 refine ⟨List.Pairwise.sublist (List.take_sublist _ _) h,?_,?_⟩
 ·rw [List.pairwise_cons]
  refine ⟨fun x hx=>?_,List.Pairwise.sublist (List.drop_sublist _ _) h⟩
  obtain ⟨j,hj⟩:=List.mem_iff_getElem?.1 hx
  rw [List.getElem?_drop] at hj
  have h1:=posB_behind h (p:=b.pos) hj (by omega)
  have h2:=isB_false.1 hn x (List.mem_of_getElem? hj)
  omega
 ·intro x hx y hy
  obtain ⟨i,hi⟩:=List.mem_iff_getElem?.1 hx
  rw [List.getElem?_take] at hi
  split at hi
  ·rename_i hlt
   have h1:=posB_ahead h hi hlt
   rcases List.mem_cons.1 hy with rfl | hy
   ·exact h1
   ·obtain ⟨j,hj⟩:=List.mem_iff_getElem?.1 hy
    rw [List.getElem?_drop] at hj
    exact h.lt (by omega) hi hj
  ·cases hi
theorem mapPut_rises {l:List Bf} (h:Rises l) (b:Bf):Rises (l.map fun x=>if x.pos=b.pos then b else x):=mapPos_rises h _ (fun x=>by split <;> simp_all)
theorem putB_rises {l m:List Bf} (h:Rises l) {b:Bf} {held:Int→Bool} (hm:putB l b held=some m):Rises m:=by
 unfold putB at hm
 split at hm
 ·cases hm; exact mapPut_rises h b
 ·rename_i hn
  have hn:isB l b.pos=false:=by simpa using hn
  split at hm
  ·split at hm
   ·cases hm
   ·cases hm; exact insB_rises (erase_rises h _) (erase_no hn _)
  ·cases hm; exact insB_rises h hn
theorem rput_laid:∀ (l:List Bf) (b:Bf) (gone i:Int),(∀ x ∈ l,x.pos≠b.pos)→rput b gone i l true=if i≤gone then l.eraseIdx (gone - i).toNat else l
 | [],b,gone,i,_=>by simp [rput]
 |x :: xs,b,gone,i,h=>by
  have h1:x.pos≠b.pos:=h x (by simp)
  have h3:=rput_laid xs b gone (i+1) (fun y hy=>h y (by simp [hy]))
  rw [rput,Bool.true_or]
  by_cases e:i=gone
  ·subst e
   rw [if_neg (by omega)] at h3
   rw [h3]
   simp [h1]
  ·by_cases hle:i≤gone
   ·have e2:(gone - i).toNat=(gone - (i+1)).toNat+1:=by omega
    rw [if_pos (by omega)] at h3
    rw [h3,if_pos hle,e2]
    simp [h1,e]
   ·rw [if_neg (by omega)] at h3
    rw [h3,if_neg hle]
    simp [h1,e]
theorem insB_nil (b:Bf):insB [] b=[b]:=rfl
theorem insB_cons_lt {x b:Bf} {l:List Bf} (h:x.pos<b.pos):insB (x :: l) b=x :: insB l b:=by
 unfold insB; rw [posB_cons,if_pos h]; rfl
theorem insB_cons_gt {x b:Bf} {l:List Bf} (hr:Rises (x :: l)) (h:b.pos<x.pos):insB (x :: l) b=b :: x :: l:=by
 unfold insB
 rw [posB_zero (fun c hc=>by
  rcases List.mem_cons.1 hc with rfl | hc
  ·omega
  ·have:=(List.pairwise_cons.1 hr).1 c hc; omega)]
 rfl
theorem rput_ins:∀ (l:List Bf) (b:Bf) (gone i:Int),Rises l→(∀ x ∈ l,x.pos≠b.pos)→rput b gone i l false=insB (if i≤gone then l.eraseIdx (gone - i).toNat else l) b
 | [],b,gone,i,_,_=>by simp [rput,insB_nil]
 |x :: xs,b,gone,i,hr,h=>by
  have h1:x.pos≠b.pos:=h x (by simp)
  have h2:=fun y hy=>h y (List.mem_cons_of_mem x hy)
  rw [rput,Bool.false_or]
  by_cases hp:b.pos≤x.pos
  ·have hlt:b.pos<x.pos:=by omega
   simp only [hp,decide_true]
   have h3:=rput_laid xs b gone (i+1) h2
   by_cases e:i=gone
   ·subst e
    have hz:(i - i).toNat=0:=by omega
    rw [if_neg (by omega)] at h3
    rw [if_pos (Int.le_refl _),hz,List.eraseIdx_cons_zero,h3]
    simp only [h1,Bool.not_false,Bool.true_and,if_true,decide_true,Bool.not_true,Bool.and_false,Bool.false_eq_true,if_false,List.append_nil,List.singleton_append]
    cases xs with
    |nil=>rfl
    |cons y ys =>
     have hxy:=(List.pairwise_cons.1 hr).1 y (by simp)
     rw [insB_cons_gt hr.tail (by omega)]
   ·by_cases hle:i≤gone
    ·have e2:(gone - i).toNat=(gone - (i+1)).toNat+1:=by omega
     rw [if_pos (by omega)] at h3
     rw [if_pos hle,e2,List.eraseIdx_cons_succ,h3]
     have hr':Rises (x :: xs.eraseIdx (gone - (i+1)).toNat):=by
      have:=erase_rises hr ((gone - (i+1)).toNat+1); rwa [List.eraseIdx_cons_succ] at this
     rw [insB_cons_gt hr' hlt]
     simp [h1,e]
    ·rw [if_neg (by omega)] at h3
     rw [if_neg hle,insB_cons_gt hr hlt,h3]
     simp [h1,e]
  ·have hlt:x.pos<b.pos:=by omega
   simp only [hp,decide_false]
   have h3:=rput_ins xs b gone (i+1) hr.tail h2
   by_cases e:i=gone
   ·subst e
    have hz:(i - i).toNat=0:=by omega
    rw [if_neg (by omega)] at h3
    rw [if_pos (Int.le_refl _),hz,List.eraseIdx_cons_zero,h3]
    simp
   ·by_cases hle:i≤gone
    ·have e2:(gone - i).toNat=(gone - (i+1)).toNat+1:=by omega
     rw [if_pos (by omega)] at h3
     rw [if_pos hle,e2,List.eraseIdx_cons_succ,insB_cons_lt hlt,h3]
     simp [h1,e]
    ·rw [if_neg (by omega)] at h3
     rw [if_neg hle,insB_cons_lt hlt,h3]
     simp [h1,e]
theorem rput_map_laid:∀ (l:List Bf) (b:Bf) (i:Int),0≤i→(∀ x ∈ l,b.pos<x.pos)→rput b (-1) i l true=l:=fun l b i h0 h=>by
 rw [rput_laid l b (-1) i (fun x hx=>by have:=h x hx; omega),if_neg (by omega)]
theorem rput_map:∀ (l:List Bf) (b:Bf) (i:Int),0≤i→Rises l→isB l b.pos=true→rput b (-1) i l false=l.map fun x=>if x.pos=b.pos then b else x
 | [],b,i,_,_,h=>by simp [isB] at h
 |x :: xs,b,i,h0,hr,h=>by
  rw [rput,Bool.false_or,List.map_cons]
  by_cases hx:x.pos=b.pos
  ·have h2:∀ y ∈ xs,b.pos<y.pos:=fun y hy=>by have:=(List.pairwise_cons.1 hr).1 y hy; omega
   have e:decide (b.pos≤x.pos)=true:=by simp; omega
   rw [e,rput_map_laid xs b (i+1) (by omega) h2]
   have:xs.map (fun x=>if x.pos=b.pos then b else x)=xs:=by
    conv=>rhs; rw [← List.map_id xs]
    apply List.map_congr_left
    intro y hy
    have:=h2 y hy
    rw [if_neg (by omega)]; rfl
   rw [this]
   simp [hx]
  ·have h3:isB xs b.pos=true:=by
    obtain ⟨c,hc,hcp⟩:=isB_iff.1 h
    rcases List.mem_cons.1 hc with rfl | hc
    ·exact absurd hcp hx
    ·exact isB_iff.2 ⟨c,hc,hcp⟩
   have hlt:x.pos<b.pos:=by
    obtain ⟨c,hc,hcp⟩:=isB_iff.1 h3
    have:=(List.pairwise_cons.1 hr).1 c hc; omega
   have e:decide (b.pos≤x.pos)=false:=by simp; omega
   rw [e,rput_map xs b (i+1) (by omega) hr.tail h3]
   have e2:¬ (i = -1):=by omega
   simp [hx,e2]
end Go.Proofs.YtlomdfbnicbceaaGreat
