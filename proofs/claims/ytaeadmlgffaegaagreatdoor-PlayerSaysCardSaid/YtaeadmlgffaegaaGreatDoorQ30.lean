/- The reference's stack: queue. -/
import Derived.Test.YtaeadmlgffaegaaGreatDoorQ29
import Derived.StillTailTactics
import Derived.Test.YtaeadmlgffaegaaGreatDoorQ21
set_option linter.unusedSimpArgs false
set_option linter.unusedVariables false
set_option maxRecDepth 100000
set_option maxHeartbeats 8000000
namespace Go.Proofs.YtaeadmlgffaegaaGreatDoor
open Go.RowKit
theorem rqueue_any (col:Nat→Nat) (w:World) (b bd N:Nat) (x:Sv) (s:St) (wb:Bool) (p:Int) (d:ByteArray) (dv:Value) (h:StAt Tr col w b bd N x s) (hi:∀ r ∈ s.wait,ReqOk r) (h6:s.wait.length≤6) (ht:0≤s.tag∧s.tag≤1000000000) (hn:0≤s.now∧s.now≤1000000000) (hp:0≤p∧p≤31) (hd:d.size≤16) (hdv:StrsAt (S0 col) w dv (if wb then [d] else [])) :
  Calls Tryz.prog 82 #[.pointer (some ⟨b,0,none⟩),.agg #[.bool wb,.int .i64 p,.int .i64 1,dv,.slice none 0 0,.int .i64 0]] w (Ret2 Tr col w b bd N x (s.queue wb p d).1 (.bool (s.queue wb p d).2)):=by
 obtain ⟨Ad,cd,hdve,_,_⟩:=hdv.form
 obtain ⟨ds,hds⟩:∃ ds,(if wb then [d] else [])=ds:=⟨_,rfl⟩
 rw [hds] at hdv hdve
 subst hdve
 have H:=Lib.hid h
 have Hi:=Lib.hid hi
 have H6:=Lib.hid h6
 have Hdv:=Lib.hid hdv
 have Hds:=Lib.hid hds
 have hb1:∀ o,Below w.heap.size w (w.alloc o):=fun o=>(Below.refl _ _).alloc (Nat.le_refl _) o
 have c8:∀ o o',((w.alloc o).alloc o').cell? ⟨b,8,none⟩=some (.int .i64 s.now):=fun o o'=>cell_b ((hb1 o).alloc (by simp) o') (h.cell 8)
 have c10:∀ o,(w.alloc o).cell? ⟨b,10,none⟩=some (.int .i64 s.tag):=fun o=>cell_b (hb1 o) (h.cell 10)
 have hw:IntKind.i64.wrap (s.tag+1)=s.tag+1:=by rw [IntKind.wrap_i64]; omega
 have hbl:=h.bl
 have hne:¬ b=w.heap.size:=by omega
 have Hs0:=Lib.hid h.s0
 obtain ⟨rq,hrq⟩:∃ r,s.reqOf wb p d=r:=⟨_,rfl⟩
 have Hrq:=Lib.hid hrq
 clear h hi h6 hrq hdv hds hb1
 go_enter Tryz.func82,Tryz.ntmps82
 go_wp2_with fail
 have L0:=((Lay.refl w).alloc' w.heap.size #[.bool wb,.int .i64 p,.int .i64 1,.slice Ad ds.length cd,.slice (some ⟨w.heap.size+1,0,none⟩) 1 1,.int .i64 s.now] 123 rfl).alloc' (w.heap.size+1) #[.int .i64 (s.tag+1)] 3 (by simp)
 generalize World.alloc (World.alloc _ _) _=W0 at L0 ⊢
 have L:=L0.step (Below.refl _ _).drew
 have HB:Hid (Below w.heap.size w W0.drew):=L.below
 have hdv2:=Hdv.out.below HB.out
 have hq0:=L.at_ 0 rfl
 have H3:=Lib.hid (H.out.below HB.out)
 obtain ⟨q0,q1,q2,q3,q4,q5⟩:=L0.c6 1 rfl
 have c3:=(H.out.below L0.below).cell 3
 rw [show (x.row s bd)[3]?=some x.wait from rfl] at c3
 clear c8 c10 L L0
 have K0:W0.drew.cell? ⟨b,3,none⟩=some x.wait∧W0.drew.cell? ⟨w.heap.size,0,none⟩=some (.bool wb)∧W0.drew.cell? ⟨w.heap.size,1,none⟩=some (.int .i64 p)∧W0.drew.cell? ⟨w.heap.size,2,none⟩=some (.int .i64 1)∧W0.drew.cell? ⟨w.heap.size,3,none⟩=some (.slice Ad ds.length cd)∧W0.drew.cell? ⟨w.heap.size,4,none⟩=some (.slice (some ⟨w.heap.size+1,0,none⟩) 1 1)∧W0.drew.cell? ⟨w.heap.size,5,none⟩=some (.int .i64 s.now):=⟨c3,q0,q1,q2,q3,q4,q5⟩
 have hrq:ReqAt (S0 col) W0.drew (.agg #[.bool wb,.int .i64 p,.int .i64 1,.slice Ad ds.length cd,.slice (some ⟨w.heap.size+1,0,none⟩) 1 1,.int .i64 s.now]) rq:=by
  rw [← Hrq.out]
  refine ⟨⟨⟨wb,p,1,ds,[s.tag+1],s.now⟩,.slice Ad ds.length cd,.slice (some ⟨w.heap.size+1,0,none⟩) 1 1⟩,?_,rfl,hdv2,⟨rd_1 hq0 (Hs0.out _ (by omega)),fun y hy=>by simp at hy; subst hy; omega⟩,by unfold i64; simp only; omega,by unfold i64; simp only; omega,by unfold i64; simp only; omega⟩
  unfold St.reqOf
  rw [Hds.out]
 have Hrqa:=Lib.hid hrq
 have HWt:Hid (ReqsAt (S0 col) W0.drew x.wait s.wait):=H3.out.wait.more (fun k hk=>hk.2)
 have Hsz0:=Lib.hid H3.out.s0
 have H6':Hid (s.wait.length≤60000):=show _≤_ by have:=H6.out; omega
 clear hrq hdv2 hq0
 go_region_held3 (fun u=>u.cell? ⟨b,3,none⟩=some x.wait∧u.cell? ⟨w.heap.size,0,none⟩=some (.bool wb)∧u.cell? ⟨w.heap.size,1,none⟩=some (.int .i64 p)∧u.cell? ⟨w.heap.size,2,none⟩=some (.int .i64 1)∧u.cell? ⟨w.heap.size,3,none⟩=some (.slice Ad ds.length cd)∧u.cell? ⟨w.heap.size,4,none⟩=some (.slice (some ⟨w.heap.size+1,0,none⟩) 1 1)∧u.cell? ⟨w.heap.size,5,none⟩=some (.int .i64 s.now))
  (first | exact K1 | exact K0)
  (first
   |((with_reducible refine (radd_any (S0 col) s.wait rq _ _ _ Hsz0.out HWt.out Hrqa.out Hi.out H6'.out).mono ?_); rintro e u1 ⟨v1,rfl,hv1,hb1⟩; have HB1:=Lib.hid hb1; have Hv1:=Lib.hid hv1; have K1:u1.cell? ⟨b,3,none⟩=some x.wait∧u1.cell? ⟨w.heap.size,0,none⟩=some (.bool wb)∧u1.cell? ⟨w.heap.size,1,none⟩=some (.int .i64 p)∧u1.cell? ⟨w.heap.size,2,none⟩=some (.int .i64 1)∧u1.cell? ⟨w.heap.size,3,none⟩=some (.slice Ad ds.length cd)∧u1.cell? ⟨w.heap.size,4,none⟩=some (.slice (some ⟨w.heap.size+1,0,none⟩) 1 1)∧u1.cell? ⟨w.heap.size,5,none⟩=some (.int .i64 s.now):=⟨cell_b hb1 K0.1,cell_b hb1 K0.2.1,cell_b hb1 K0.2.2.1,cell_b hb1 K0.2.2.2.1,cell_b hb1 K0.2.2.2.2.1,cell_b hb1 K0.2.2.2.2.2.1,cell_b hb1 K0.2.2.2.2.2.2⟩)
   |fail)
 have H4:=Lib.hid (H3.out.below HB1.out)
 have c10:=H4.out.cell 10
 have c3':=H4.out.cell 3
 rw [show (x.row s bd)[10]?=some (.int .i64 s.tag) from rfl] at c10
 rw [show (x.row s bd)[3]?=some x.wait from rfl] at c3'
 have f3:=H4.out.frozen 3
 have f10:=H4.out.frozen 10
 have HC:Hid (Chg (fun k=>k=b) w u1):=show Chg _ _ _ from Chg.of_below (HB.out.trans (HB1.out.mono HB.out.size))
 clear K0 K1 c3 q0 q1 q2 q3 q4 q5
 have hqe:s.queue wb p d=if (addM s.wait rq).2=0 then ({ s with wait:=(addM s.wait rq).1,tag:=s.tag+1 },true) else (s,false):=by rw [← Hrq.out]; rfl
 by_cases h0:(addM s.wait rq).2=0
 ·rw [if_pos h0] at hqe
  have Hqe:=Lib.hid hqe
  rw [h0]
  obtain ⟨A1,cp1,e1,_,_⟩:=Hv1.out.form
  subst e1
  clear hqe h0
  go_wp2_with fail
  go_ret
  rw [Hqe.out]
  have hS:=((Same1.refl (b:=b) (w:=u1)).setCell 3 (.slice A1 (addM s.wait rq).1.length cp1)).setCell 10 (.int .i64 (s.tag+1))
  exact ⟨_,rfl,H4.out.queued hS Hv1.out (heap_setCell_same _ _ 10 _ _ _ (heap_setCell_same _ _ 3 _ _ _ H4.out.row)),HC.out.trans ((hS.chg (F:=fun k=>k=b) rfl).mono (fun k hk=>.inl hk)),.wait⟩
 ·rw [if_neg h0] at hqe
  have Hqe:=Lib.hid hqe
  have hpos:0<(((addM s.wait rq).2:Nat):Int):=by omega
  clear hqe h0
  go_wp2_with fail
  go_ret
  rw [Hqe.out]
  exact ⟨x,rfl,H4.out,HC.out,.refl⟩
end Go.Proofs.YtaeadmlgffaegaaGreatDoor
namespace Go.Proofs.YtaeadmlgffaegaaGreatDoor
open Go.RowKit
structure PutInv (w:World) (B0:Nat) (bl:List (Nat × TypeId × Array Value)) (b:Bf) (gone:Int) (l R:List Bf) (k:Nat) (acc:List Bf) (ld:Bool) (vo:Value) (wr:World):Prop where
 lay:Lay w wr bl
 own:wr.ownsRow B0 111 4 vo acc.length (flatB acc)
 len:acc.length≤k+if ld then 1 else 0
 eq:acc ++ rput b gone k (l.drop k) ld=R
 sz:B0≤wr.heap.size
theorem rd_box {w:World} {vb:Nat} {c0 c1 c2 c3:Value} {T:TypeId} (h:w.heap[vb]?=some (.cells #[c0,c1,c2,c3] T (0,0))):Rd (fun _=>True) w 4 (.slice (some ⟨vb,0,none⟩) 1 1) 1 [c0,c1,c2,c3] :=
 ⟨_,_,rfl,by omega,by simp [maxLen],rfl,fun _=>⟨vb,0,rfl,trivial,fun j u hu=>by rw [Nat.zero_add,cell_of_row _ _ _ _ _ _ h]; simpa using hu⟩⟩
theorem lay_app {w wr W2 w1:World} {B0 n:Nat} {bl:List (Nat × TypeId × Array Value)} {vo:Value} {xs:List Value} (h:Lay w wr bl) (ho:wr.ownsRow B0 111 4 vo n xs) (hB:w.heap.size≤B0) (hbl:∀ x ∈ bl,x.1<B0)
  (hb:Below wr.heap.size wr W2) (hg:W2.grownBy w1 vo.ownBlock):Lay w w1 bl :=
 (h.step hb).chg (F:=fun k=>B0≤k) ((Chg.refl).grown hg (fun k hk=>.inl (ho.lt k hk).1)) (fun k hk=>by omega) (fun x hx hk=>by have:=hbl x hx; omega)
theorem rput_cons (b x:Bf) (gone:Int) (k:Nat) (l:List Bf) (ld:Bool) (hx:l[k]?=some x):rput b gone k (l.drop k) ld=(if !ld && decide (b.pos≤x.pos) then [b] else []) ++ (if !decide (x.pos=b.pos) && !decide ((k:Int)=gone) then [x] else []) ++ rput b gone (k+1:Nat) (l.drop (k+1)) (ld || decide (b.pos≤x.pos)):=by
 obtain ⟨h,e⟩:=List.getElem?_eq_some_iff.1 hx
 rw [List.drop_eq_getElem_cons h,e,rput]
 rfl
theorem flatB_one1 (b:Bf):flatB [b]=b.cells:=by simp [flatB]
theorem flatB_snoc (acc:List Bf) (b:Bf):flatB acc ++ [.int .i64 b.pos,.string b.data,.bool b.dirty,.int .i64 b.used]=flatB (acc ++ [b]):=by rw [flatB_app,flatB_one1]; rfl
theorem own_snoc {w:World} {B:Nat} {v:Value} {acc:List Bf} {x:Bf} (h:w.ownsRow B 111 4 v (acc.length+1) (flatB acc ++ [.int .i64 x.pos,.string x.data,.bool x.dirty,.int .i64 x.used])):w.ownsRow B 111 4 v (acc ++ [x]).length (flatB (acc ++ [x])):=by
 rw [← flatB_snoc,List.length_append]; exact h
def RetPut0 (m:List Bf) (w:World):Ending→World→Prop:=fun e w'=>∃ v,e=.returned (.tuple #[v,.int .i64 0])∧w'.ownsRow w.heap.size 111 4 v m.length (flatB m)∧Below w.heap.size w w'
theorem rput_no (S:Nat→Prop) (l R:List Bf) (v:Value) (b:Bf) (hl:List Bool) (w:World) (h:BufsAt S w v l) (hr:Rises l) (hin:InB l) (h32:hl.length=32) (hn:l.length≤8) (hi:isB l b.pos=false) (h8:8≤l.length) (hv:leastB l false (heldL hl)<0) :
  Calls Tryz.prog 90 #[v,bfV b,.agg (hldV hl)] w (Ret (.tuple #[.slice none 0 0,.int .i64 7]) w):=by
 obtain ⟨A,cap,rfl,h1,h2⟩:=h.form
 unfold maxLen at h2
 obtain ⟨i0,hi0,hz0,hz1,hz2⟩:=info_parts bufInfo
 have H:=Lib.hid h
 have HR:=Lib.hid hr
 have HI:=Lib.hid hin
 have Hi:=Lib.hid hi
 have H32:=Lib.hid h32
 have hz:=zero_buf
 clear h hr hin hi h32
 obtain ⟨V,hV⟩:∃ V,hldV hl=V:=⟨_,rfl⟩
 have HV:=Lib.hid hV
 rw [hV]
 have Hs:Hid ((Tryz.prog.info? 145).map (·.size)=some V.size):=show _=_ by rw [← HV.out,heldInfo]; simp [hldV,H32.out]
 clear hV
 go_enter Tryz.func90,Tryz.ntmps90
 go_wp2_with fail
 have L:=Lib.hid (((Lay.refl w).alloc' w.heap.size #[.int .i64 b.pos,.string b.data,.bool b.dirty,.int .i64 b.used] 111 rfl).alloc' (w.heap.size+1) V 145 (by simp))
 generalize World.alloc _ _=W at L ⊢
 refine (rget_any S l _ b.pos _ (H.out.below L.out.below) HR.out (by omega)).mono ?_
 rintro e w1 ⟨rfl,hb1⟩
 have L1:=Lib.hid (L.out.step hb1)
 obtain ⟨g1,hg1⟩:∃ g1,(getB l b.pos).1=g1:=⟨_,rfl⟩
 rw [getB_is,Hi.out,hg1]
 clear hb1 hg1 L
 obtain ⟨n2,hn2⟩:∃ n2,w1.heap.size=n2:=⟨_,rfl⟩
 obtain ⟨q0,q1,q2,q3⟩:=L1.out.c4 1 rfl
 have hd0:(8:Int)≤(l.length:Int):=by omega
 have L2:=L1.out.alloc' n2 #[.int .i64 g1.pos,.string g1.data,.bool g1.dirty,.int .i64 g1.used] 111 hn2
 have Hrow:=Lib.hid (L2.at_ 1 rfl)
 have L2:=Lib.hid L2
 go_wp2_with (refine wpList_load_row rfl 145 (.tmp 5) rfl (w.heap.size+1) rfl 145 V (0,0) _ Hrow.out Tryz.underlying145 rfl Hs.out ?_)
 clear Hrow q0 q1 q2 q3 hd0 L1
 rw [← HV.out] at L2 ⊢
 generalize World.alloc _ _=w4 at L2 ⊢
 refine (least_any S l _ false hl _ (H.out.below L2.out.below) HI.out H32.out (by omega)).mono ?_
 rintro e w5 ⟨rfl,hb5⟩
 have HL5:=Lib.hid (L2.out.step hb5)
 rw [HV.out] at HL5 ⊢
 clear hb5 L2
 go_wp2_with fail
 go_ret2
 exact ⟨rfl,HL5.out.below⟩
theorem rput_all (S:Nat→Prop) (l R:List Bf) (v:Value) (b:Bf) (hl:List Bool) (w:World) (h:BufsAt S w v l) (hr:Rises l) (hin:InB l) (h32:hl.length=32) (hn:l.length≤8) (gone:Int) (hR:rput b gone 0 l false=R)
  (hc:(isB l b.pos=true∧gone = -1)∨(isB l b.pos=false∧l.length<8∧gone = -1)∨(isB l b.pos=false∧8≤l.length∧0≤gone∧leastB l false (heldL hl)=gone)) :
  Calls Tryz.prog 90 #[v,bfV b,.agg (hldV hl)] w (RetPut0 R w):=by
 have HR0:=Lib.hid hR
 have HC:=Lib.hid hc
 clear hR hc
 obtain ⟨A,cap,rfl,h1,h2⟩:=h.form
 unfold maxLen at h2
 obtain ⟨i0,hi0,hz0,hz1,hz2⟩:=info_parts bufInfo
 have H:=Lib.hid h
 have HR:=Lib.hid hr
 have HI:=Lib.hid hin
 have H32:=Lib.hid h32
 have hz:=zero_buf
 clear h hr hin h32
 obtain ⟨V,hV⟩:∃ V,hldV hl=V:=⟨_,rfl⟩
 have HV:=Lib.hid hV
 rw [hV]
 have Hs:Hid ((Tryz.prog.info? 145).map (·.size)=some V.size):=show _=_ by rw [← HV.out,heldInfo]; simp [hldV,H32.out]
 clear hV
 go_enter Tryz.func90,Tryz.ntmps90
 go_wp2_with fail
 have L:=Lib.hid (((Lay.refl w).alloc' w.heap.size #[.int .i64 b.pos,.string b.data,.bool b.dirty,.int .i64 b.used] 111 rfl).alloc' (w.heap.size+1) V 145 (by simp))
 generalize World.alloc _ _=W at L ⊢
 refine (rget_any S l _ b.pos _ (H.out.below L.out.below) HR.out (by omega)).mono ?_
 rintro e w1 ⟨rfl,hb1⟩
 have L1:=Lib.hid (L.out.step hb1)
 obtain ⟨g1,hg1⟩:∃ g1,(getB l b.pos).1=g1:=⟨_,rfl⟩
 rw [getB_is,hg1]
 clear hb1 hg1 L
 obtain ⟨n2,hn2⟩:∃ n2,w1.heap.size=n2:=⟨_,rfl⟩
 obtain ⟨q0,q1,q2,q3⟩:=L1.out.c4 1 rfl
 rcases HC.out with ⟨hi,hg⟩ | ⟨hi,h8,hg⟩ | ⟨hi,h8,hg,hv⟩
 case' inl =>
  have Hg:=Lib.hid hg
  rw [hi]
  clear hi hg HC
  have hd0:=trivial
  have HL5:=Lib.hid (L1.out.alloc' n2 #[.int .i64 g1.pos,.string g1.data,.bool g1.dirty,.int .i64 g1.used] 111 hn2)
  go_wp2_with fail
  generalize World.alloc _ _=w5 at HL5 ⊢
  clear q0 q1 q2 q3 hn2 L1 hd0
  rw [← Hg.out]
 case' inr.inl =>
  have Hg:=Lib.hid hg
  have hd0:decide ((8:Int)≤(l.length:Int))=false:=by simp; omega
  rw [hi]
  clear hi hg HC h8
  have HL5:=Lib.hid (L1.out.alloc' n2 #[.int .i64 g1.pos,.string g1.data,.bool g1.dirty,.int .i64 g1.used] 111 hn2)
  go_wp2_with fail
  generalize World.alloc _ _=w5 at HL5 ⊢
  clear q0 q1 q2 q3 hn2 L1 hd0
  rw [← Hg.out]
 case' inr.inr =>
  have Hg:=Lib.hid hg
  have Hv:=Lib.hid hv
  rw [hi]
  clear hi hg hv HC
  have hd0:(8:Int)≤(l.length:Int):=by omega
  have L2:=L1.out.alloc' n2 #[.int .i64 g1.pos,.string g1.data,.bool g1.dirty,.int .i64 g1.used] 111 hn2
  have Hrow:=Lib.hid (L2.at_ 1 rfl)
  have L2:=Lib.hid L2
  go_wp2_with (refine wpList_load_row rfl 145 (.tmp 5) rfl (w.heap.size+1) rfl 145 V (0,0) _ Hrow.out Tryz.underlying145 rfl Hs.out ?_)
  clear Hrow q0 q1 q2 q3 hd0 L1
  rw [← HV.out] at L2 ⊢
  generalize World.alloc _ _=w4 at L2 ⊢
  refine (least_any S l _ false hl _ (H.out.below L2.out.below) HI.out H32.out (by omega)).mono ?_
  rintro e w5 ⟨rfl,hb5⟩
  have HL5:=Lib.hid (L2.out.step hb5)
  rw [HV.out] at HL5 ⊢
  clear hb5 L2
  rw [Hv.out]
  have hj0:decide (gone<0)=false:=by have:=Hg.out; simp; omega
  clear hn2 h8
  go_wp2_with fail
  clear hj0 Hv
 all_goals
  clear Hg
  have HB5:Hid (w.heap.size≤w5.heap.size):=HL5.out.size
  have Hbl:Hid (∀ x ∈ [(n2,111,#[.int .i64 g1.pos,.string g1.data,.bool g1.dirty,.int .i64 g1.used]),(w.heap.size+1,145,V),(w.heap.size,111,#[.int .i64 b.pos,.string b.data,.bool b.dirty,.int .i64 b.used])],x.1<w5.heap.size):=fun x hx=>HL5.out.lt hx
  have H0:Hid (PutInv w w5.heap.size [(n2,111,#[.int .i64 g1.pos,.string g1.data,.bool g1.dirty,.int .i64 g1.used]),(w.heap.size+1,145,V),(w.heap.size,111,#[.int .i64 b.pos,.string b.data,.bool b.dirty,.int .i64 b.used])] b gone l R 0 [] false (.slice none 0 0) w5):=⟨HL5.out,World.ownsRow_nil _ _ _ _,by simp,by simpa using HR0.out,Nat.le_refl _⟩
  go_loopw [11,12,13] (fun vo lb i wr=>∃ (k:Nat) (acc:List Bf) (ld:Bool),k≤l.length∧i=.int .i64 k∧lb=.bool ld∧Hid (PutInv w w5.heap.size [(n2,111,#[.int .i64 g1.pos,.string g1.data,.bool g1.dirty,.int .i64 g1.used]),(w.heap.size+1,145,V),(w.heap.size,111,#[.int .i64 b.pos,.string b.data,.bool b.dirty,.int .i64 b.used])] b gone l R k acc ld vo wr)) (fun _ _ i _=>l.length - (intOf i).toNat)
  case atStart=>exact ⟨0,[],false,by omega,rfl,rfl,H0⟩
  case round =>
   obtain ⟨k,acc,ld,hk,rfl,rfl,HP⟩:=hrel
   by_cases hlt:k<l.length
   ·have hkl:(k:Int)<(l.length:Int):=by omega
    have hx:l[k]?=some l[k]:=List.getElem?_eq_getElem hlt
    have Hx:=Lib.hid hx
    clear hx
    generalize l[k]=x at *
    have Ho:=Lib.hid HP.out.own
    have HL:=Lib.hid HP.out.lay
    have Hlen:=Lib.hid HP.out.len
    have Heq:=Lib.hid HP.out.eq
    have Hswr:=Lib.hid HP.out.sz
    have Hlen6:Hid (acc.length≤9):=by show _≤_; have:=Hlen.out; split at this <;> omega
    clear HP
    rcases (by cases ld <;> simp <;> omega:ld=true∨(ld=false∧b.pos≤x.pos)∨(ld=false∧¬ b.pos≤x.pos)) with rfl | ⟨rfl,e0⟩ | ⟨rfl,e0⟩
    all_goals
     try have E0:=Lib.hid e0
     obtain ⟨q0,q1,q2,q3⟩:=HL.out.c4 2 rfl
     obtain ⟨bx,off,e,_,hbl,hc⟩:=(H.out.below HL.out.below).at_ (by omega)
     cases e
     obtain ⟨_,k0,k1,k2,k3⟩:=hc k _ Hx.out
     clear hc
     go_wp2_with fail
     go_quiet (fail)
     have Hbw6:=Lib.hid (drewN_below' wr.heap.size wr nq)
     have Ho6:=Lib.hid (own_below Ho.out Hbw6.out)
     have HL6:=Lib.hid (HL.out.step Hbw6.out)
     have Hsw6:=Lib.hid (Nat.le_trans Hswr.out Hbw6.out.size)
     clear q0 q1 q2 q3 k0 k1 k2 k3
     generalize World.drewN _ _=w6 at Hbw6 Ho6 HL6 Hsw6 ⊢
     obtain ⟨q0,q1,q2,q3⟩:=HL6.out.c4 2 rfl
     obtain ⟨bx,off,e,_,hbl,hc⟩:=(H.out.below HL6.out.below).at_ (by omega)
     cases e
     obtain ⟨_,k0,k1,k2,k3⟩:=hc k _ Hx.out
     clear hc
     go_wp2_with (at_builtin; refine wpList_append_rd (S:=fun _=>True) _ rfl (.tmp 51) (.tmp 53) _ rfl w5.heap.size 111 i0 _ 4 40 Tryz.underlying74 hi0 hz0 hz1 hz2 rfl (by omega) _ _ _ rfl (own_below Ho6.out ((Below.refl _ _).alloc (Nat.le_refl _) _)) _ 1 _ rfl (rd_box (heap_alloc_new _ _)) (cellsB_one b) (by have:=Hlen6.out; simp only [maxLen]; omega) (by have:=Hlen6.out; omega) (by simp; have:=Hsw6.out; omega) ?_; intro vw7 w7 hownw7 hgw7 hatw7; clear hatw7)
     first
      |(have Ho7:=Lib.hid (own_snoc hownw7)
        have HL7:=Lib.hid (lay_app HL6.out Ho6.out HB5.out Hbl.out ((Below.refl _ _).alloc (Nat.le_refl _) _) hgw7)
        have Hsw7:Hid (w5.heap.size≤w7.heap.size):=Nat.le_trans Hsw6.out (Nat.le_trans (by simp) hgw7.size)
        clear hownw7 hgw7 q0 q1 q2 q3 k0 k1 k2 k3
        have Hlen7:Hid ((acc ++ [b]).length≤9):=by show _≤_; have:=Hlen.out; simp at this ⊢; omega)
      |(obtain ⟨w7,hw7⟩:∃ w7,w6=w7:=⟨_,rfl⟩
        clear q0 q1 q2 q3 k0 k1 k2 k3
        rw [hw7] at HL6 Ho6 Hsw6 ⊢
        have Ho7:=Ho6
        have HL7:=HL6
        have Hsw7:=Hsw6
        have Hlen7:=Hlen6
        clear hw7)
     rcases (by omega:x.pos=b.pos∨(¬ x.pos=b.pos∧(k:Int)=gone)∨(¬ x.pos=b.pos∧¬ (k:Int)=gone)) with e1 | ⟨e1,e2⟩ | ⟨e1,e2⟩
     all_goals
      first
       |have f1:(x.pos != b.pos)=false:=by simp [e1]
       |have f1:(x.pos != b.pos)=true:=by simp [e1]
      try first
       |have f2:((k:Int) != gone)=false:=by simp [e2]
       |have f2:((k:Int) != gone)=true:=by simp [e2]
      have E1:=Lib.hid e1
      try have E2:=Lib.hid e2
      clear e1
      try clear e2
      obtain ⟨q0,q1,q2,q3⟩:=HL7.out.c4 2 rfl
      obtain ⟨bx,off,e,_,hbl,hc⟩:=(H.out.below HL7.out.below).at_ (by omega)
      cases e
      obtain ⟨_,k0,k1,k2,k3⟩:=hc k _ Hx.out
      clear hc
      go_wp2_with fail
      go_quiet (fail)
      have Hbw8:=Lib.hid (drewN_below' w7.heap.size w7 nq)
      have Ho8:=Lib.hid (own_below Ho7.out Hbw8.out)
      have HL8:=Lib.hid (HL7.out.step Hbw8.out)
      have Hsw8:=Lib.hid (Nat.le_trans Hsw7.out Hbw8.out.size)
      clear q0 q1 q2 q3 k0 k1 k2 k3
      generalize World.drewN _ _=w8 at Hbw8 Ho8 HL8 Hsw8 ⊢
      obtain ⟨q0,q1,q2,q3⟩:=HL8.out.c4 2 rfl
      obtain ⟨bx,off,e,_,hbl,hc⟩:=(H.out.below HL8.out.below).at_ (by omega)
      cases e
      obtain ⟨_,k0,k1,k2,k3⟩:=hc k _ Hx.out
      clear hc
      go_wp2_with (at_builtin; refine wpList_append_rd (S:=fun _=>True) _ rfl (.tmp 68) (.tmp 73) _ rfl w5.heap.size 111 i0 _ 4 40 Tryz.underlying74 hi0 hz0 hz1 hz2 rfl (by omega) _ _ _ rfl (own_below Ho8.out ((Below.refl _ _).alloc (Nat.le_refl _) _)) _ 1 _ rfl (rd_box (heap_alloc_new _ _)) (cellsB_one x) (by have:=Hlen7.out; simp only [maxLen]; omega) (by have:=Hlen7.out; omega) (by simp; have:=Hsw8.out; omega) ?_; intro vw9 w9 hownw9 hgw9 hatw9; clear hatw9)
      first
       |(have Ho9:=Lib.hid (own_snoc hownw9)
         have HL9:=Lib.hid (lay_app HL8.out Ho8.out HB5.out Hbl.out ((Below.refl _ _).alloc (Nat.le_refl _) _) hgw9)
         have Hsw9:Hid (w5.heap.size≤w9.heap.size):=Nat.le_trans Hsw8.out (Nat.le_trans (by simp) hgw9.size)
         clear hownw9 hgw9 q0 q1 q2 q3 k0 k1 k2 k3
         go_wp2_with fail)
       |(have Ho9:=Ho8
         have HL9:=HL8
         have Hsw9:=Hsw8)
      go_roundw
      case rel =>
       refine ⟨k+1,_,_,by omega,by go_num,rfl,⟨HL9.out,Ho9.out,?_,?_,Hsw9.out⟩⟩
       ·have:=Hlen.out; simp at this ⊢; omega
       ·have h9:=Heq.out
        rw [rput_cons b x _ k l _ Hx.out] at h9
        have e1:=E1.out
        try have e2:=E2.out
        try have e0:=E0.out
        first
         |(exfalso; omega)
         |(first | rw [decide_eq_false e1] at h9 | rw [decide_eq_true e1] at h9
           try first | rw [decide_eq_false e2] at h9 | rw [decide_eq_true e2] at h9
           try first | rw [decide_eq_false (Int.not_le.2 e0)] at h9 | rw [decide_eq_true e0] at h9
           simpa using h9)
      case measure=>simp [intOf]; omega
   ·obtain rfl:k=l.length:=by omega
    have Ho:=Lib.hid HP.out.own
    have HL:=Lib.hid HP.out.lay
    have Hlen:=Lib.hid HP.out.len
    have Heq:=Lib.hid HP.out.eq
    have Hswr:=Lib.hid HP.out.sz
    clear HP
    have hi1:decide ((l.length:Int)<(l.length:Int))=false:=by simp
    obtain ⟨q0,q1,q2,q3⟩:=HL.out.c4 2 rfl
    cases ld with
    |true =>
     go_wp2_with fail
     go_ret2
     have h9:=Heq.out
     rw [List.drop_eq_nil_of_le (Nat.le_refl _)] at h9
     simp [rput] at h9
     subst h9
     exact ⟨_,rfl,own_lo Ho.out HB5.out,HL.out.below⟩
    |false =>
     have Hlen6:Hid (acc.length≤8):=by show _≤_; have:=Hlen.out; simp at this; omega
     have k0:=trivial
     have k1:=trivial
     have k2:=trivial
     have k3:=trivial
     go_wp2_with (at_builtin; refine wpList_append_rd (S:=fun _=>True) _ rfl (.tmp 77) (.tmp 79) _ rfl w5.heap.size 111 i0 _ 4 40 Tryz.underlying74 hi0 hz0 hz1 hz2 rfl (by omega) _ _ _ rfl (own_below Ho.out ((Below.refl _ _).alloc (Nat.le_refl _) _)) _ 1 _ rfl (rd_box (heap_alloc_new _ _)) (cellsB_one b) (by have:=Hlen6.out; simp only [maxLen]; omega) (by have:=Hlen6.out; omega) (by simp; have:=Hswr.out; omega) ?_; intro vw7 w7 hownw7 hgw7 hatw7; clear hatw7)
     have Ho7:Hid (w7.ownsRow w5.heap.size 111 4 vw7 (acc ++ [b]).length (flatB (acc ++ [b]))):=by show w7.ownsRow _ _ _ _ _ _; rw [← flatB_snoc,List.length_append]; exact hownw7
     have HL7:=Lib.hid (lay_app HL.out Ho.out HB5.out Hbl.out ((Below.refl _ _).alloc (Nat.le_refl _) _) hgw7)
     have Hsw7:Hid (w5.heap.size≤w7.heap.size):=Nat.le_trans Hswr.out (Nat.le_trans (by simp) hgw7.size)
     clear hownw7 hgw7
     clear q0 q1 q2 q3 k0 k1 k2 k3
     go_wp2_with fail
     go_ret2
     have h9:=Heq.out
     rw [List.drop_eq_nil_of_le (Nat.le_refl _)] at h9
     simp [rput] at h9
     subst h9
     exact ⟨_,rfl,own_lo Ho7.out HB5.out,HL7.out.below⟩
theorem rput_some (S:Nat→Prop) (l m:List Bf) (v:Value) (b:Bf) (hl:List Bool) (w:World) (h:BufsAt S w v l) (hr:Rises l) (hin:InB l) (h32:hl.length=32) (hn:l.length≤8) (hp:putB l b (heldL hl)=some m) :
  Calls Tryz.prog 90 #[v,bfV b,.agg (hldV hl)] w (RetPut0 m w):=by
 unfold putB at hp
 cases hi:isB l b.pos with
 |true =>
  rw [hi,if_pos rfl] at hp
  cases hp
  exact rput_all S l _ v b hl w h hr hin h32 hn (-1) (rput_map l b 0 (by omega) hr hi) (.inl ⟨hi,rfl⟩)
 |false =>
  rw [hi,if_neg (by simp)] at hp
  by_cases h8:8≤l.length
  ·rw [if_pos h8] at hp
   by_cases hv:leastB l false (heldL hl)<0
   ·rw [if_pos hv] at hp; cases hp
   ·rw [if_neg hv] at hp
    cases hp
    have hj:leastB l false (heldL hl)=((leastB l false (heldL hl)).toNat:Int):=by omega
    have:=rput_ins l b (leastB l false (heldL hl)) 0 hr (isB_false.1 hi)
    rw [if_pos (by omega),Int.sub_zero] at this
    exact rput_all S l _ v b hl w h hr hin h32 hn _ this (.inr (.inr ⟨hi,h8,by omega,rfl⟩))
  ·rw [if_neg h8] at hp
   cases hp
   have:=rput_ins l b (-1) 0 hr (isB_false.1 hi)
   rw [if_neg (by omega)] at this
   exact rput_all S l _ v b hl w h hr hin h32 hn (-1) this (.inr (.inl ⟨hi,by omega,rfl⟩))
theorem rput_none (S:Nat→Prop) (l:List Bf) (v:Value) (b:Bf) (hl:List Bool) (w:World) (h:BufsAt S w v l) (hr:Rises l) (hin:InB l) (h32:hl.length=32) (hn:l.length≤8) (hp:putB l b (heldL hl)=none) :
  Calls Tryz.prog 90 #[v,bfV b,.agg (hldV hl)] w (Ret (.tuple #[.slice none 0 0,.int .i64 7]) w):=by
 unfold putB at hp
 cases hi:isB l b.pos with
 |true=>rw [hi,if_pos rfl] at hp; cases hp
 |false =>
  rw [hi,if_neg (by simp)] at hp
  by_cases h8:8≤l.length
  ·rw [if_pos h8] at hp
   by_cases hv:leastB l false (heldL hl)<0
   ·exact rput_no S l [] v b hl w h hr hin h32 hn hi h8 hv
   ·rw [if_neg hv] at hp; cases hp
  ·rw [if_neg h8] at hp; cases hp
end Go.Proofs.YtaeadmlgffaegaaGreatDoor
