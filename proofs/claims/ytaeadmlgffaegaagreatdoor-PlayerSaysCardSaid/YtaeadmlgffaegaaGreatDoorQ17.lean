/- queue: a request of one sector, if it may be. -/
import Derived.Test.YtaeadmlgffaegaaGreatDoorQ16
import Derived.Deep.CutRange
set_option linter.unusedSimpArgs false
set_option linter.unusedVariables false
set_option maxRecDepth 100000
set_option maxHeartbeats 8000000
namespace Go.Proofs.YtaeadmlgffaegaaGreatDoor
open Go.RowKit Go.Sort
def Avs (x y:Sv) (t:St):Prop:=∀ j,j<3→y.av j=x.av j∨t.askAt j=none
theorem Avs.refl {x:Sv} {t:St}:Avs x x t:=fun _ _=>.inl rfl
theorem Avs.wait {x:Sv} {t:St} {v:Value}:Avs x { x with wait:=v } t:=fun _ _=>.inl (by unfold Sv.av; split <;> rfl)
theorem Avs.bufs {x:Sv} {t:St} {v:Value}:Avs x { x with bufs:=v } t:=fun _ _=>.inl (by unfold Sv.av; split <;> rfl)
theorem Avs.ans {x y:Sv} {t:St} {c:Nat} {d:ByteArray} {e:Nat} (h:Avs x y t) (h3:t.asks.length=3) (hc:c<3):Avs x (y.ans c d e) (t.answer c d e):=fun j hj=>by
 rw [askAt_answer h3 hc]
 by_cases hj':j=c
 ·right; rw [if_pos hj']
 ·rw [if_neg hj']
  refine (h j hj).imp (fun h=>?_) id
  rw [← h]
  match c,hc,j,hj with
  |0,_,0,_=>exact absurd rfl hj'
  |0,_,1,_=>rfl
  |0,_,2,_=>rfl
  |1,_,0,_=>rfl
  |1,_,1,_=>exact absurd rfl hj'
  |1,_,2,_=>rfl
  |2,_,0,_=>rfl
  |2,_,1,_=>rfl
  |2,_,2,_=>exact absurd rfl hj'
theorem Avs.trans {x y z:Sv} {t u:St} (h:Avs x y t) (k:Avs y z u) (hn:∀ j,t.askAt j=none→u.askAt j=none):Avs x z u:=fun j hj=>by
 rcases k j hj with k | k
 ·rcases h j hj with h | h
  ·exact .inl (k.trans h)
  ·exact .inr (hn j h)
 ·exact .inr k
def Ret2 (T:Tys) (col:Nat→Nat) (w:World) (b bd N:Nat) (x:Sv) (t:St) (v:Value):Ending→World→Prop:=fun e w'=>∃ y,e=.returned v∧StAt T col w' b bd N y t∧Chg (fun k=>k=b) w w'∧Avs x y t
def S0 (col:Nat→Nat):Nat→Prop:=fun k=>col k=0
theorem rd_1 {S:Nat→Prop} {w:World} {b:Nat} {T:TypeId} {u:Value} (hb:w.heap[b]?=some (.cells #[u] T (0,0))) (hS:S b):Rd S w 1 (.slice (some ⟨b,0,none⟩) 1 1) 1 [u] :=
 ⟨_,_,rfl,by omega,by simp [maxLen],rfl,fun _=>⟨b,0,rfl,hS,fun j v hv=>by rw [Nat.zero_add,cell_of_row _ _ _ _ _ _ hb]; simpa using hv⟩⟩
section
variable {T:Tys} {col:Nat→Nat} {w w1 w2 w':World} {b bd N:Nat} {x:Sv} {s:St}
theorem StAt.s0 (h:StAt T col w b bd N x s):∀ k,w.heap.size≤k→S0 col k:=fun k hk=>by
 rcases Nat.eq_zero_or_pos (col k) with h2 | h2
 ·exact h2
 ·have:=h.lt k (by omega); omega
theorem S0.im {v:Value} {l:List Rq} (h:ReqsAt (S0 col) w v l):ReqsAt (Im w col) w v l:=h.lt.more (fun k hk=>⟨hk.2,hk.1⟩)
theorem StAt.queued (h:StAt T col w b bd N x s) (hb:Same1 b w w') {v:Value} {l:List Rq} {t:Int} (hv:ReqsAt (S0 col) w v l) (hrow:w'.heap[b]?=some (.cells (({ x with wait:=v }:Sv).row { s with wait:=l,tag:=t } bd) T.S (0,0))) :
  StAt T col w' b bd N { x with wait:=v } { s with wait:=l,tag:=t }:=by
 refine h.turn1 hb hrow rfl rfl rfl rfl h.bufs (S0.im hv) h.asks (fun c hc=>?_) h.done h.errs
 have:=h.ask c hc
 match c,hc with | 0,_=>exact this | 1,_=>exact this | 2,_=>exact this
end
def Kq (b q n:Nat) (xw vd:Value) (wb:Bool) (p t:Int) (u:World):Prop:=u.cell? ⟨b,3,none⟩=some xw∧u.cell? ⟨q,0,none⟩=some (.bool wb)∧u.cell? ⟨q,1,none⟩=some (.int .i64 p)∧u.cell? ⟨q,2,none⟩=some (.int .i64 1)∧u.cell? ⟨q,3,none⟩=some vd∧u.cell? ⟨q,4,none⟩=some (.slice (some ⟨n,0,none⟩) 1 1)∧u.cell? ⟨q,5,none⟩=some (.int .i64 t)
theorem Kq.b {b q n:Nat} {xw vd:Value} {wb:Bool} {p t:Int} {u u':World} (h:Kq b q n xw vd wb p t u) (hb:Below u.heap.size u u'):Kq b q n xw vd wb p t u':=by
 obtain ⟨h0,h1,h2,h3,h4,h5,h6⟩:=h
 exact ⟨cell_b hb h0,cell_b hb h1,cell_b hb h2,cell_b hb h3,cell_b hb h4,cell_b hb h5,cell_b hb h6⟩
theorem req_mk {col:Nat→Nat} {s:St} {wb:Bool} {p:Int} {d:ByteArray} {n:Nat} {u:World} {vd:Value} {l:List ByteArray} (hr:s.reqOf wb p d=⟨wb,p,1,l,[s.tag+1],s.now⟩) (hn:u.heap[n]?=some (.cells #[.int .i64 (s.tag+1)] 3 (0,0))) (hs:S0 col n) (hl:StrsAt (S0 col) u vd l) (ht:0≤s.tag∧s.tag≤1000000000) (hw:0≤s.now∧s.now≤1000000000) (hp:0≤p∧p≤31) :
  ReqAt (S0 col) u (.agg #[.bool wb,.int .i64 p,.int .i64 1,vd,.slice (some ⟨n,0,none⟩) 1 1,.int .i64 s.now]) (s.reqOf wb p d):=by
 rw [hr]
 exact ⟨⟨⟨wb,p,1,l,[s.tag+1],s.now⟩,vd,.slice (some ⟨n,0,none⟩) 1 1⟩,rfl,rfl,hl,⟨rd_1 hn hs,fun y hy=>by simp at hy; subst hy; omega⟩,by unfold i64; simp only; omega,by unfold i64; simp only; omega,by unfold i64; simp only; omega⟩
theorem queue_any (col:Nat→Nat) (w:World) (b bd N:Nat) (x:Sv) (s:St) (wb:Bool) (p:Int) (d:ByteArray) (h:StAt Ts col w b bd N x s) (hi:∀ r ∈ s.wait,ReqOk r) (h6:s.wait.length≤6) (ht:0≤s.tag∧s.tag≤1000000000) (hn:0≤s.now∧s.now≤1000000000) (hp:0≤p∧p≤31) (hd:d.size≤16) :
  Calls Tryz.prog 60 #[.pointer (some ⟨b,0,none⟩),.bool wb,.int .i64 p,.string d] w (Ret2 Ts col w b bd N x (s.queue wb p d).1 (.bool (s.queue wb p d).2)):=by
 have H:=Lib.hid h
 have Hi:=Lib.hid hi
 have H6:=Lib.hid h6
 have c8:w.cell? ⟨b,8,none⟩=some (.int .i64 s.now):=h.cell 8
 have c10:w.cell? ⟨b,10,none⟩=some (.int .i64 s.tag):=h.cell 10
 have hw:IntKind.i64.wrap (s.tag+1)=s.tag+1:=by rw [IntKind.wrap_i64]; omega
 have hbl:=h.bl
 have Hs0:=Lib.hid h.s0
 have Hmk:=Lib.hid (fun n u vd l (hr:s.reqOf wb p d=⟨wb,p,1,l,[s.tag+1],s.now⟩) hn' hs (hl:StrsAt (S0 col) u vd l)=>req_mk (n:=n) hr hn' hs hl ht hn hp)
 obtain ⟨rq,hrq⟩:∃ r,s.reqOf wb p d=r:=⟨_,rfl⟩
 have Hrq:=Lib.hid hrq
 clear h hi h6 hrq
 go_enter Tryz.func60,Tryz.ntmps60
 go_wp2_with fail
 go_region
 focus
  have L:=((((LayF.refl (fun _=>False) w).alloc' (w.heap.size) #[.int .i64 (s.tag+1)] 3 rfl).alloc' (w.heap.size+1) #[.bool wb,.int .i64 p,.int .i64 1,.slice none 0 0,.slice (some ⟨w.heap.size,0,none⟩) 1 1,.int .i64 s.now] 123 (by simp)).drew)
  have h1:=L.chg.below (fun _ h=>h.elim) (Nat.le_refl _)
  have h2:=L.at_ 0 rfl
  have h3:=L.at_ 1 rfl
  clear L
  generalize World.drew _=W1 at h1 h2 h3 ⊢
  obtain ⟨q,hq⟩:∃ q,w.heap.size+1=q:=⟨_,rfl⟩
  obtain ⟨n,hn⟩:∃ n,w.heap.size=n:=⟨_,rfl⟩
  have Hqn:Hid (w.heap.size≤q∧w.heap.size≤n∧n≠q):=show _∧_ from ⟨by omega,by omega,by omega⟩
  have HB1:=Lib.hid h1
  rw [hq,hn] at h2
  rw [hn] at h3
  rw [hq,hn]
  have HQ:=Lib.hid h2
  have HN:=Lib.hid h3
  clear h1 h2 h3 hq hn
 rotate_left
 focus
  have L:=((((LayF.refl (fun _=>False) w).alloc' (w.heap.size) #[.bool wb,.int .i64 p,.int .i64 1,.slice none 0 0,.slice (some ⟨w.heap.size+1,0,none⟩) 1 1,.int .i64 s.now] 123 rfl).alloc' (w.heap.size+1) #[.int .i64 (s.tag+1)] 3 (by simp)).drew)
  have h1:=L.chg.below (fun _ h=>h.elim) (Nat.le_refl _)
  have h2:=L.at_ 1 rfl
  have h3:=L.at_ 0 rfl
  clear L
  generalize World.drew _=W1 at h1 h2 h3 ⊢
  obtain ⟨n,hn⟩:∃ q,w.heap.size+1=q:=⟨_,rfl⟩
  obtain ⟨q,hq⟩:∃ n,w.heap.size=n:=⟨_,rfl⟩
  have Hqn:Hid (w.heap.size≤q∧w.heap.size≤n∧n≠q):=show _∧_ from ⟨by omega,by omega,by omega⟩
  have HB1:=Lib.hid h1
  rw [hn,hq] at h2
  rw [hn] at h3
  rw [hn,hq]
  have HQ:=Lib.hid h2
  have HN:=Lib.hid h3
  clear h1 h2 h3 hq hn
 all_goals
  clear c8 c10
  go_upto_if 26 with fail
  go_cut [] from 27 to 54 (fun wx=>∃ vd,Hid (Below w.heap.size w wx)∧Hid (wx.heap[q]?=some (.cells #[.bool wb,.int .i64 p,.int .i64 1,vd,.slice (some ⟨n,0,none⟩) 1 1,.int .i64 s.now] 123 (0,0)))∧Hid (ReqAt (S0 col) wx (.agg #[.bool wb,.int .i64 p,.int .i64 1,vd,.slice (some ⟨n,0,none⟩) 1 1,.int .i64 s.now]) rq))
  case first =>
   have hql:=(Array.getElem?_eq_some_iff.1 HQ.out).1
   have hnl:=(Array.getElem?_eq_some_iff.1 HN.out).1
   cases wb
   ·go_wp2_with fail
    go_meet
    case rel=>exact ⟨_,HB1.out,HQ.out,by rw [← Hrq.out]; exact Hmk.out n _ _ [] rfl HN.out (Hs0.out _ Hqn.out.2.1) ⟨Rd.nil,by simp⟩⟩
   ·have f3:=frozen_of_row _ _ 3 _ _ HQ.out
    have q3:W1.cell? ⟨q,3,none⟩=some (.slice none 0 0):=cell_of_row _ _ 3 _ _ _ HQ.out
    go_wp2_with fail
    go_meet
    case rel =>
     have e:(W1.setCell ⟨q,3,none⟩ (.slice (some ⟨W1.heap.size,0,none⟩) 1 1)).heap.size=W1.heap.size:=by simp
     refine ⟨_,(HB1.out.setCell (p:=⟨q,3,none⟩) Hqn.out.1 _).alloc (by rw [e]; exact HB1.out.size) _,(Below.heap_alloc _ _ _ (by rw [e]; exact hql)).trans (heap_setCell_same _ _ 3 _ _ _ HQ.out),?_⟩
     rw [← Hrq.out]
     exact Hmk.out n _ _ [d] rfl ((Below.heap_alloc _ _ _ (by rw [e]; exact hnl)).trans ((heap_setCell_other _ _ n _ (by simpa using Hqn.out.2.2)).trans HN.out)) (Hs0.out _ Hqn.out.2.1) ⟨rd_1 (e▸heap_alloc_new _ _) (Hs0.out _ HB1.out.size),fun y hy=>by simp at hy; subst hy; simp only [maxLen]; omega⟩
  case rest =>
   obtain ⟨vd,HB,HR,hrq⟩:=hcut
   clear HQ HN HB1
   have H3:=Lib.hid (H.out.below HB.out)
   have H3d:=Lib.hid (H3.out.below (Below.refl _ _).drew)
   have Hrqa:=Lib.hid (hrq.out.below (Below.refl _ _).drew)
   have HWt:Hid (ReqsAt (S0 col) wc.drew x.wait s.wait):=H3d.out.wait.more (fun k hk=>hk.2)
   have Hsz0:=Lib.hid H3d.out.s0
   have H6':Hid (s.wait.length≤60000):=show _≤_ by have:=H6.out; omega
   have K0:Kq b q n x.wait vd wb p s.now wc.drew:=⟨H3.out.cell 3,cell_of_row _ _ 0 _ _ _ HR.out,cell_of_row _ _ 1 _ _ _ HR.out,cell_of_row _ _ 2 _ _ _ HR.out,cell_of_row _ _ 3 _ _ _ HR.out,cell_of_row _ _ 4 _ _ _ HR.out,cell_of_row _ _ 5 _ _ _ HR.out⟩
   clear hrq
   go_wp2_with fail
   go_region_held3 (fun u=>u.cell? ⟨b,3,none⟩=some x.wait∧u.cell? ⟨q,0,none⟩=some (.bool wb)∧u.cell? ⟨q,1,none⟩=some (.int .i64 p)∧u.cell? ⟨q,2,none⟩=some (.int .i64 1)∧u.cell? ⟨q,3,none⟩=some vd∧u.cell? ⟨q,4,none⟩=some (.slice (some ⟨n,0,none⟩) 1 1)∧u.cell? ⟨q,5,none⟩=some (.int .i64 s.now))
    (first | exact K1 | exact K0)
    (first
     |((with_reducible refine (add_any (S0 col) s.wait rq _ _ _ Hsz0.out HWt.out Hrqa.out Hi.out H6'.out).mono ?_); rintro e u1 ⟨v1,rfl,hv1,hb1⟩; have HB1:=Lib.hid hb1; have Hv1:=Lib.hid hv1; have K1:=K0.b hb1; clear hv1 hb1)
     |fail)
   have H4:=Lib.hid (H3d.out.below HB1.out)
   have c10:=H4.out.cell 10
   have c3':=H4.out.cell 3
   rw [show (x.row s bd)[10]?=some (.int .i64 s.tag) from rfl] at c10
   rw [show (x.row s bd)[3]?=some x.wait from rfl] at c3'
   have f3:=H4.out.frozen 3
   have f10:=H4.out.frozen 10
   have HC:Hid (Chg (fun k=>k=b) w u1):=show Chg _ _ _ from Chg.of_below (HB.out.trans (((Below.refl _ _).drew.trans HB1.out).mono HB.out.size))
   clear K0 K1
   have hqe:s.queue wb p d=if (addM s.wait rq).2=0 then ({ s with wait:=(addM s.wait rq).1,tag:=s.tag+1 },true) else (s,false):=by rw [← Hrq.out]; rfl
   by_cases h0:(addM s.wait rq).2=0
   ·rw [if_pos h0] at hqe
    have Hqe:=Lib.hid hqe
    rw [h0]
    have he0:=errV_zero
    obtain ⟨A1,cp1,e1,_,_⟩:=Hv1.out.form
    subst e1
    clear hqe h0
    go_wp2_with fail
    go_ret
    rw [Hqe.out]
    have hS:=((Same1.refl (b:=b) (w:=u1)).setCell 3 (.slice A1 (addM s.wait rq).1.length cp1)).setCell 10 (.int .i64 (s.tag+1))
    exact ⟨_,rfl,H4.out.queued hS Hv1.out (heap_setCell_same _ _ 10 _ _ _ (heap_setCell_same _ _ 3 _ _ _ H4.out.row)),HC.out.trans ((hS.chg (F:=fun k=>k=b) rfl).mono (fun k hk=>.inl hk)),.wait⟩
   ·rw [if_neg h0] at hqe
    have Hqe:=Lib.hid hqe
    have hb0:((addM s.wait rq).2 == 0)=false:=by simpa using h0
    clear hqe h0
    go_wp2_with fail
    go_ret
    rw [Hqe.out]
    exact ⟨_,rfl,H4.out,HC.out,.refl⟩
end Go.Proofs.YtaeadmlgffaegaaGreatDoor
namespace Go.Proofs.YtaeadmlgffaegaaGreatDoor
theorem bestB_none {ok:Bf→Bool} {l:List Bf}:∀ {n:Nat},bestB ok l n<0→∀ i x,i<n→l[i]?=some x→ok x=false
 |0,_,i,x,hi,_=>by omega
 |n+1,h,i,x,hi,hx=>by
  rcases Nat.eq_or_lt_of_le (Nat.le_of_lt_succ hi) with e | e
  ·subst e
   cases ho:ok x with
   |false=>rfl
   |true =>
    exfalso
    by_cases hb:bestB ok l i<0
    ·rw [bestB_first hx ho hb] at h; omega
    ·rw [bestB,hx] at h
     simp only at h
     split at h <;> omega
  ·refine bestB_none (n:=n) ?_ i x e hx
   rw [bestB] at h
   cases hn:l[n]? with
   |none=>simpa [hn] using h
   |some r =>
    rw [hn] at h
    simp only at h
    split at h
    ·omega
    ·exact h
theorem bestB_some {ok:Bf→Bool} {l:List Bf}:∀ {n j:Nat},bestB ok l n=(j:Int)→∃ x,l[j]?=some x∧ok x=true∧∀ i y,i<n→l[i]?=some y→ok y=true→x.used≤y.used
 |0,j,h=>by simp [bestB] at h
 |n+1,j,h=>by
  cases hn:l[n]? with
  |none =>
   have e:bestB ok l (n+1)=bestB ok l n:=by rw [bestB,hn]
   rw [e] at h
   obtain ⟨x,h1,h2,h3⟩:=bestB_some h
   refine ⟨x,h1,h2,fun i y hi hy ho=>?_⟩
   rcases Nat.eq_or_lt_of_le (Nat.le_of_lt_succ hi) with e | e
   ·subst e; rw [hn] at hy; cases hy
   ·exact h3 i y e hy ho
  |some r =>
   by_cases ho:ok r=true
   ·by_cases hb:bestB ok l n<0
    ·rw [bestB_first hn ho hb] at h
     obtain rfl:n=j:=by omega
     refine ⟨r,hn,ho,fun i y hi hy hoy=>?_⟩
     rcases Nat.eq_or_lt_of_le (Nat.le_of_lt_succ hi) with e | e
     ·subst e; rw [hn] at hy; cases hy; exact Int.le_refl _
     ·have:=bestB_none hb i y e hy; rw [this] at hoy; cases hoy
    ·obtain ⟨k,hk⟩:∃ k:Nat,bestB ok l n=(k:Int):=⟨(bestB ok l n).toNat,by omega⟩
     obtain ⟨x,h1,h2,h3⟩:=bestB_some hk
     by_cases hl:r.used<x.used
     ·rw [bestB_less hn ho hk h1 hl] at h
      obtain rfl:n=j:=by omega
      refine ⟨r,hn,ho,fun i y hi hy hoy=>?_⟩
      rcases Nat.eq_or_lt_of_le (Nat.le_of_lt_succ hi) with e | e
      ·subst e; rw [hn] at hy; cases hy; exact Int.le_refl _
      ·have:=h3 i y e hy hoy; omega
     ·rw [bestB_more hn hk h1 hl] at h
      obtain rfl:k=j:=by omega
      refine ⟨x,h1,h2,fun i y hi hy hoy=>?_⟩
      rcases Nat.eq_or_lt_of_le (Nat.le_of_lt_succ hi) with e | e
      ·subst e; rw [hn] at hy; cases hy; omega
      ·exact h3 i y e hy hoy
   ·have ho:ok r=false:=by simpa using ho
    rw [bestB_no hn ho] at h
    obtain ⟨x,h1,h2,h3⟩:=bestB_some h
    refine ⟨x,h1,h2,fun i y hi hy hoy=>?_⟩
    rcases Nat.eq_or_lt_of_le (Nat.le_of_lt_succ hi) with e | e
    ·subst e; rw [hn] at hy; cases hy; rw [ho] at hoy; cases hoy
    ·exact h3 i y e hy hoy
theorem getB_mem {l:List Bf} (h:Rises l) {x:Bf} (hx:x ∈ l):getB l x.pos=(x,true):=by
 obtain ⟨i,hi⟩:=List.mem_iff_getElem?.1 hx
 exact getB_of h hi rfl
theorem mem_insB {l:List Bf} {b y:Bf}:y ∈ insB l b↔y=b∨y ∈ l:=by
 unfold insB
 constructor
 ·intro h
  rcases List.mem_append.1 h with h | h
  ·exact .inr (List.mem_of_mem_take h)
  ·rcases List.mem_cons.1 h with rfl | h
   ·exact .inl rfl
   ·exact .inr (List.mem_of_mem_drop h)
 ·rintro (rfl | h)
  ·simp
  ·have:=List.take_append_drop (posB l b.pos) l
   rw [← this] at h
   rcases List.mem_append.1 h with h | h
   ·exact List.mem_append.2 (.inl h)
   ·exact List.mem_append.2 (.inr (List.mem_cons_of_mem _ h))
theorem insB_length (l:List Bf) (b:Bf):(insB l b).length=l.length+1:=by
 have:=posB_le l b.pos
 unfold insB; simp; omega
structure PutSpec (l m:List Bf) (b:Bf) (held:Int→Bool) (J:Nat):Prop where
 rises:Rises m
 len:m.length≤8
 own:getB m b.pos=(b,true)
 stay:∀ i x,l[i]?=some x→x.pos≠b.pos→i≠J→getB m x.pos=(x,true)
 gone:∀ x,l[J]?=some x→x.pos≠b.pos∧getB m x.pos=(zeroBf,false)∧x.dirty=false∧held x.pos=false∧l.length=8∧∀ (k:Nat) (y:Bf),l[k]?=some y→y.dirty=false→held y.pos=false→x.used≤y.used
theorem put_spec {l m:List Bf} {b:Bf} {held:Int→Bool} (hr:Rises l) (h8:l.length≤8) (hp:putB l b held=some m):∃ J,PutSpec l m b held J:=by
 have hrm:=putB_rises hr hp
 unfold putB at hp
 cases hi:isB l b.pos with
 |true =>
  rw [hi,if_pos rfl] at hp
  cases hp
  refine ⟨l.length,hrm,by simpa using h8,?_,fun i x hx hne _=>?_,fun x hx=>by simp at hx⟩
  ·refine getB_mem hrm ?_
   obtain ⟨c,hc,hcp⟩:=isB_iff.1 hi
   exact List.mem_map.2 ⟨c,hc,if_pos hcp⟩
  ·exact getB_mem hrm (List.mem_map.2 ⟨x,List.mem_of_getElem? hx,if_neg hne⟩)
 |false =>
  rw [hi,if_neg (by simp)] at hp
  by_cases hl8:8≤l.length
  ·rw [if_pos hl8] at hp
   by_cases hv:leastB l false held<0
   ·rw [if_pos hv] at hp; cases hp
   ·rw [if_neg hv] at hp
    cases hp
    obtain ⟨j,hj⟩:∃ j:Nat,leastB l false held=(j:Int):=⟨(leastB l false held).toNat,by omega⟩
    rw [hj,Int.toNat_natCast] at hrm ⊢
    obtain ⟨x,hx,hox,hmin⟩:=bestB_some hj
    have hjl:=(List.getElem?_eq_some_iff.1 hx).1
    refine ⟨j,hrm,?_,getB_mem hrm (mem_insB.2 (.inl rfl)),fun i y hy hne hij=>?_,fun y hy=>?_⟩
    ·rw [insB_length,List.length_eraseIdx_of_lt hjl]; omega
    ·refine getB_mem hrm (mem_insB.2 (.inr ?_))
     exact List.mem_eraseIdx_iff_getElem?.2 ⟨i,hij,hy⟩
    ·rw [hx] at hy
     cases hy
     simp at hox
     refine ⟨isB_false.1 hi x (List.mem_of_getElem? hx),getB_no (isB_false.2 fun y hy=>?_),hox.1,hox.2,by omega,fun k y hy hd hh=>hmin k y (List.getElem?_eq_some_iff.1 hy).1 hy (by simp [hd,hh])⟩
     rcases mem_insB.1 hy with rfl | hy
     ·exact fun e=>isB_false.1 hi x (List.mem_of_getElem? hx) e.symm
     ·obtain ⟨i,hij,hy⟩:=List.mem_eraseIdx_iff_getElem?.1 hy
      exact fun e=>hij (hr.inj hy hx e)
  ·rw [if_neg hl8] at hp
   cases hp
   refine ⟨l.length,hrm,by rw [insB_length]; omega,getB_mem hrm (mem_insB.2 (.inl rfl)),fun i x hx hne _=>getB_mem hrm (mem_insB.2 (.inr (List.mem_of_getElem? hx))),fun x hx=>by simp at hx⟩
theorem pick_some {l:List Bf} {held:Int→Bool} (hr:Rises l) (h:¬ pickB l held<0):∃ x ∈ l,x.pos=pickB l held∧getB l (pickB l held)=(x,true)∧x.dirty=true∧held x.pos=false∧∀ y ∈ l,y.dirty=true→held y.pos=false→x.used≤y.used:=by
 unfold pickB at h ⊢
 by_cases hv:leastB l true held<0
 ·rw [if_pos hv] at h; omega
 ·rw [if_neg hv]
  obtain ⟨j,hj⟩:∃ j:Nat,leastB l true held=(j:Int):=⟨(leastB l true held).toNat,by omega⟩
  obtain ⟨x,hx,ho,hmin⟩:=bestB_some hj
  rw [hj,Int.toNat_natCast,List.getD_eq_getElem?_getD,hx,Option.getD_some]
  simp at ho
  refine ⟨x,List.mem_of_getElem? hx,rfl,getB_of hr hx rfl,ho.1,ho.2,fun y hy hd hh=>?_⟩
  obtain ⟨i,hi⟩:=List.mem_iff_getElem?.1 hy
  exact hmin i y (List.getElem?_eq_some_iff.1 hi).1 hi (by simp [hd,hh])
end Go.Proofs.YtaeadmlgffaegaaGreatDoor
namespace Go.Proofs.YtaeadmlgffaegaaGreatDoor
def atB (l:List Bf) (p:Int):Option (ByteArray × Bool):=if (getB l p).2 then some ((getB l p).1.data,(getB l p).1.dirty) else none
def cnt (f:Int→ByteArray→Bool→Bool) (l:List Bf):Nat:=l.countP (fun b=>f b.pos b.data b.dirty)
theorem atB_mem {l:List Bf} (h:Rises l) {x:Bf} (hx:x ∈ l):atB l x.pos=some (x.data,x.dirty):=by unfold atB; rw [getB_mem h hx]; rfl
theorem atB_no {l:List Bf} {p:Int} (h:∀ x ∈ l,x.pos≠p):atB l p=none:=by unfold atB; rw [getB_no (isB_false.2 h)]; rfl
theorem atB_some {l:List Bf} (h:Rises l) {p:Int} {d:ByteArray} {y:Bool} (ha:atB l p=some (d,y)):∃ x ∈ l,x.pos=p∧x.data=d∧x.dirty=y∧getB l p=(x,true):=by
 cases hi:isB l p with
 |false=>rw [atB_no (isB_false.1 hi)] at ha; cases ha
 |true =>
  obtain ⟨x,hx,rfl⟩:=isB_iff.1 hi
  rw [atB_mem h hx] at ha
  cases ha
  exact ⟨x,hx,rfl,rfl,rfl,getB_mem h hx⟩
theorem atB_none {l:List Bf} (h:Rises l) {p:Int} (ha:atB l p=none):∀ x ∈ l,x.pos≠p:=by
 rintro x hx rfl
 rw [atB_mem h hx] at ha; cases ha
theorem atB_ext {l m:List Bf} (hl:Rises l) (hm:Rises m) {p q:Int} (h:∀ d y,(∃ x ∈ l,x.pos=p∧x.data=d∧x.dirty=y)↔(∃ x ∈ m,x.pos=q∧x.data=d∧x.dirty=y)):atB l p=atB m q:=by
 cases ha:atB l p with
 |none =>
  cases hb:atB m q with
  |none=>rfl
  |some v =>
   obtain ⟨x,hx,h1,h2,h3,_⟩:=atB_some hm hb
   obtain ⟨y,hy,h4,_⟩:=(h _ _).2 ⟨x,hx,h1,h2,h3⟩
   exact absurd h4 (atB_none hl ha y hy)
 |some v =>
  obtain ⟨x,hx,h1,h2,h3,_⟩:=atB_some hl ha
  obtain ⟨y,hy,h4,h5,h6⟩:=(h _ _).1 ⟨x,hx,h1,h2,h3⟩
  rw [← h4,atB_mem hm hy,h5,h6]
theorem atB_use {l:List Bf} (h:Rises l) (p n q:Int):atB (useB l p n) q=atB l q:=by
 refine atB_ext (useB_rises h p n) h fun d y=>?_
 constructor
 ·rintro ⟨x,hx,h1,h2,h3⟩
  obtain ⟨z,hz,rfl⟩:=List.mem_map.1 hx
  refine ⟨z,hz,?_⟩
  split at h1 <;> simp_all
 ·rintro ⟨x,hx,h1,h2,h3⟩
  refine ⟨_,List.mem_map.2 ⟨x,hx,rfl⟩,?_⟩
  split <;> simp_all
theorem atB_clean_ne {l:List Bf} (h:Rises l) {p q:Int} (d:ByteArray) (hne:q≠p):atB (cleanB l p d) q=atB l q:=by
 refine atB_ext (cleanB_rises h p d) h fun e y=>?_
 constructor
 ·rintro ⟨x,hx,h1,h2,h3⟩
  obtain ⟨z,hz,rfl⟩:=List.mem_map.1 hx
  refine ⟨z,hz,?_⟩
  split at h1
  ·rename_i hc
   exact absurd (h1.symm.trans hc.1) hne
  ·rename_i hc
   rw [if_neg hc] at h2 h3
   exact ⟨h1,h2,h3⟩
 ·rintro ⟨x,hx,h1,h2,h3⟩
  refine ⟨_,List.mem_map.2 ⟨x,hx,rfl⟩,?_⟩
  rw [if_neg (fun hc=>hne (h1.symm.trans hc.1))]
  exact ⟨h1,h2,h3⟩
theorem put_mem {l m:List Bf} {b:Bf} {held:Int→Bool} (hr:Rises l) (hp:putB l b held=some m):b ∈ m∧∀ y ∈ m,y=b∨(y ∈ l∧y.pos≠b.pos):=by
 unfold putB at hp
 cases hi:isB l b.pos with
 |true =>
  rw [hi,if_pos rfl] at hp
  cases hp
  obtain ⟨c,hc,hcp⟩:=isB_iff.1 hi
  refine ⟨List.mem_map.2 ⟨c,hc,if_pos hcp⟩,fun y hy=>?_⟩
  obtain ⟨z,hz,rfl⟩:=List.mem_map.1 hy
  split
  ·exact .inl rfl
  ·rename_i hne; exact .inr ⟨hz,hne⟩
 |false =>
  have hno:=isB_false.1 hi
  rw [hi,if_neg (by simp)] at hp
  split at hp
  ·split at hp
   ·cases hp
   ·cases hp
    refine ⟨mem_insB.2 (.inl rfl),fun y hy=>?_⟩
    rcases mem_insB.1 hy with h | h
    ·exact .inl h
    ·exact .inr ⟨List.mem_of_mem_eraseIdx h,hno y (List.mem_of_mem_eraseIdx h)⟩
  ·cases hp
   refine ⟨mem_insB.2 (.inl rfl),fun y hy=>?_⟩
   rcases mem_insB.1 hy with h | h
   ·exact .inl h
   ·exact .inr ⟨h,hno y h⟩
theorem atB_put {l m:List Bf} {b:Bf} {held:Int→Bool} (hr:Rises l) (h8:l.length≤8) (hp:putB l b held=some m):atB m b.pos=some (b.data,b.dirty):=atB_mem (putB_rises hr hp) (put_mem hr hp).1
theorem atB_put_ne {l m:List Bf} {b:Bf} {held:Int→Bool} (hr:Rises l) (h8:l.length≤8) (hp:putB l b held=some m) {q:Int} (hq:q≠b.pos) :
  atB m q=atB l q∨(atB m q=none∧held q=false∧∃ d,atB l q=some (d,false)):=by
 obtain ⟨J,hJ⟩:=put_spec hr h8 hp
 cases ha:atB l q with
 |none =>
  left
  refine atB_no fun y hy e=>?_
  rcases (put_mem hr hp).2 y hy with rfl | ⟨h1,_⟩
  ·exact hq e.symm
  ·exact atB_none hr ha y h1 e
 |some v =>
  obtain ⟨x,hx,rfl,h2,h3,_⟩:=atB_some hr ha
  obtain ⟨i,hi⟩:=List.mem_iff_getElem?.1 hx
  by_cases hij:i=J
  ·subst hij
   right
   obtain ⟨_,h4,h5,h6,_⟩:=hJ.gone x hi
   refine ⟨by unfold atB; rw [h4]; rfl,h6,v.1,?_⟩
   obtain ⟨v1,v2⟩:=v
   simp only at h3 ⊢
   rw [← h3,h5]
  ·left
   have:=hJ.stay i x hi hq hij
   obtain ⟨v1,v2⟩:=v
   simp only at h2 h3
   unfold atB
   rw [this,h2,h3]
   rfl
theorem still_iff {l:List Bf} {p:Int}:((getB l p).2 && (getB l p).1.dirty)=true↔∃ d,atB l p=some (d,true):=by
 unfold atB
 cases (getB l p).2 <;> cases (getB l p).1.dirty <;> simp
theorem cnt_use (f:Int→ByteArray→Bool→Bool) (l:List Bf) (p n:Int):cnt f (useB l p n)=cnt f l:=by
 unfold cnt useB
 rw [List.countP_map]
 congr 1
 funext b
 simp only [Function.comp]
 split <;> rfl
theorem cnt_clean (f:Int→ByteArray→Bool→Bool) (hf:∀ p d,f p d false=false) (l:List Bf) (p:Int) (d:ByteArray):cnt f (cleanB l p d)≤cnt f l:=by
 unfold cnt cleanB
 rw [List.countP_map]
 apply List.countP_mono_left
 intro b hb h
 simp only [Function.comp] at h
 split at h
 ·rw [hf] at h; cases h
 ·exact h
theorem cnt_insB (f:Int→ByteArray→Bool→Bool) (l:List Bf) (b:Bf):cnt f (insB l b)=cnt f l+if f b.pos b.data b.dirty then 1 else 0:=by
 unfold cnt insB
 conv=>rhs; rw [← List.take_append_drop (posB l b.pos) l]
 simp only [List.countP_append,List.countP_cons]
 omega
theorem cnt_erase (f:Int→ByteArray→Bool→Bool):∀ (l:List Bf) (j:Nat) (x:Bf),l[j]?=some x→cnt f l=cnt f (l.eraseIdx j)+if f x.pos x.data x.dirty then 1 else 0
 | [],j,x,h=>by simp at h
 |y :: l,0,x,h=>by simp at h; subst h; unfold cnt; rw [List.countP_cons]; rfl
 |y :: l,j+1,x,h=>by
  have:=cnt_erase f l j x (by simpa using h)
  unfold cnt at *
  rw [List.eraseIdx_cons_succ,List.countP_cons,List.countP_cons,this]
  omega
theorem cnt_map (f:Int→ByteArray→Bool→Bool) (b:Bf):∀ (l:List Bf) (x:Bf),Rises l→x ∈ l→x.pos=b.pos→cnt f (l.map fun y=>if y.pos=b.pos then b else y)+(if f x.pos x.data x.dirty then 1 else 0)=cnt f l+if f b.pos b.data b.dirty then 1 else 0:=by
 intro l x hr hx hp
 obtain ⟨j,hj⟩:=List.mem_iff_getElem?.1 hx
 obtain ⟨hlt,hxe⟩:=List.getElem?_eq_some_iff.1 hj
 have e:(l.map fun y=>if y.pos=b.pos then b else y)=l.set j b:=by
  have:=map_one hr hj hp (fun y=>if y.pos=b.pos then b else y) (fun y hy=>if_neg hy)
  rw [if_pos hp] at this; exact this
 rw [e,cnt_erase f l j x hj]
 have h2:=cnt_erase f (l.set j b) j b (by rw [List.getElem?_set,if_pos rfl,if_pos hlt])
 rw [List.eraseIdx_set_eq] at h2
 rw [h2]; omega
theorem cnt_put (f:Int→ByteArray→Bool→Bool) (hf:∀ p d,f p d false=false) {l m:List Bf} {b:Bf} {held:Int→Bool} (hr:Rises l) (hp:putB l b held=some m) :
  cnt f m≤cnt f l+(if f b.pos b.data b.dirty then 1 else 0)∧∀ x ∈ l,x.pos=b.pos→cnt f m+(if f x.pos x.data x.dirty then 1 else 0)=cnt f l+if f b.pos b.data b.dirty then 1 else 0:=by
 unfold putB at hp
 cases hi:isB l b.pos with
 |true =>
  rw [hi,if_pos rfl] at hp
  cases hp
  obtain ⟨c,hc,hcp⟩:=isB_iff.1 hi
  have:=cnt_map f b l c hr hc hcp
  exact ⟨by omega,fun x hx hxp=>cnt_map f b l x hr hx hxp⟩
 |false =>
  have hno:=isB_false.1 hi
  rw [hi,if_neg (by simp)] at hp
  refine ⟨?_,fun x hx hxp=>absurd hxp (hno x hx)⟩
  split at hp
  ·split at hp
   ·cases hp
   ·rename_i hv
    cases hp
    obtain ⟨j,hj⟩:∃ j:Nat,leastB l false held=(j:Int):=⟨(leastB l false held).toNat,by omega⟩
    obtain ⟨x,hx,hox,_⟩:=bestB_some hj
    rw [hj,Int.toNat_natCast,cnt_insB,cnt_erase f l j x hx]
    omega
  ·cases hp
   rw [cnt_insB]; omega
theorem dirty_cnt (l:List Bf):dirtyB l=cnt (fun _ _ y=>y) l:=rfl
end Go.Proofs.YtaeadmlgffaegaaGreatDoor
namespace Go.Proofs.YtaeadmlgffaegaaGreatDoor
theorem joined_span {p q x:Rq} (h:joinedM p q=some x):p.lo+p.many=q.lo∧x.lo=p.lo∧x.many=p.many+q.many:=by
 unfold joinedM at h
 split at h
 ·rename_i hk
  obtain ⟨h1,_⟩:=hk
  cases h
  exact ⟨h1,rfl,rfl⟩
 ·cases h
theorem merge_span {a b x:Rq} (h:mergeM a b=some x):(a.lo+a.many=b.lo∧x.lo=a.lo∧x.many=a.many+b.many)∨(b.lo+b.many=a.lo∧x.lo=b.lo∧x.many=a.many+b.many):=by
 unfold mergeM swapM at h
 split at h
 ·right
  obtain ⟨h1,h2,h3⟩:=joined_span h
  exact ⟨h1,h2,by rw [h3,Int.add_comm]⟩
 ·left; exact joined_span h
theorem meetB_iff {a b c d:Int}:meetB a b c d=false↔¬ (a<c+d∧c<a+b):=by
 unfold meetB
 by_cases h1:a<c+d <;> by_cases h2:c<a+b <;> simp [h1,h2]
def sumMany (l:List Rq):Int:=(l.map (·.many)).sum
theorem sum_set {m:Rq}:∀ {l:List Rq} {k:Nat} {x:Rq},l[k]?=some x→sumMany (l.set k m)=sumMany l - x.many+m.many
 | [],k,x,h=>by simp at h
 |a :: l,0,x,h=>by
  simp at h; subst h
  simp [sumMany]; omega
 |a :: l,k+1,x,h=>by
  have ih:=sum_set (m:=m) (l:=l) (k:=k) (x:=x) (by simpa using h)
  unfold sumMany at *
  simp only [List.set_cons_succ,List.map_cons,List.sum_cons]
  omega
theorem good_two {l:List Rq} (h:goodReqs l=true) {i j:Nat} {a b:Rq} (hij:i<j) (ha:l[i]?=some a) (hb:l[j]?=some b):Apart a b:=by
 have hp:=((good_iff l).1 h).2
 rw [List.pairwise_iff_getElem] at hp
 obtain ⟨h1,e1⟩:=List.getElem?_eq_some_iff.1 ha
 obtain ⟨h2,e2⟩:=List.getElem?_eq_some_iff.1 hb
 rw [← e1,← e2]
 exact hp i j h1 h2 hij
structure Added (l:List Rq) (r:Rq) (q:List Rq):Prop where
 good:goodReqs q=true
 len:q.length≤l.length+1
 sum:sumMany q=r.many+sumMany l
 one:∃ (i:Nat) (x:Rq),q[i]?=some x∧hasB x.lo x.many r.lo=true∧x.write=r.write∧(q.length=l.length+1∨r.tags.length<x.tags.length)
theorem set_rel {α:Type} (R:α→α→Prop) {l:List α} {k:Nat} {m:α} (hp:l.Pairwise R) (h1:∀ (j:Nat) (y:α),j<k→l[j]?=some y→R y m) (h2:∀ (j:Nat) (y:α),k<j→l[j]?=some y→R m y):(l.set k m).Pairwise R:=by
 rw [List.pairwise_iff_getElem] at hp ⊢
 intro i j hi hj hij
 rw [List.getElem_set,List.getElem_set]
 simp only [List.length_set] at hi hj
 split
 ·rename_i e
  subst e
  rw [if_neg (by omega)]
  exact h2 j _ hij (List.getElem?_eq_getElem hj)
 ·split
  ·rename_i e
   subst e
   exact h1 i _ hij (List.getElem?_eq_getElem hi)
  ·exact hp i j hi hj hij
theorem mergeIn_some {r:Rq}:∀ {l q:List Rq},mergeIn l r=some q→∃ k x m,l[k]?=some x∧mergeM x r=some m∧q=l.set k m
 | [],q,h=>by simp [mergeIn] at h
 |a :: l,q,h=>by
  unfold mergeIn at h
  split at h
  ·rename_i m hm
   cases h
   exact ⟨0,a,m,rfl,hm,rfl⟩
  ·obtain ⟨q',hq,rfl⟩:=Option.map_eq_some_iff.1 h
   obtain ⟨k,x,m,h1,h2,rfl⟩:=mergeIn_some hq
   exact ⟨k+1,x,m,by simpa using h1,h2,rfl⟩
theorem meets_no {l:List Rq} {r:Rq} (h:l.any (meetsR r.lo r.many)=false) {y:Rq} (hy:y ∈ l):meetB y.lo y.many r.lo r.many=false:=by
 rw [List.any_eq_false] at h
 have:=h y hy
 simpa [meetsR] using this
theorem add_facts {l:List Rq} {r:Rq} {q:List Rq} (hg:goodReqs l=true) (h:addM l r=(q,0)):Added l r q:=by
 by_cases h0:reqF r=0
 rotate_left
 ·rw [addM_bad h0] at h
  exact absurd (congrArg Prod.snd h) h0
 cases h1:l.any (meetsR r.lo r.many) with
 |true=>rw [addM_meets h0 h1] at h; cases h
 |false =>
  have hr:=reqF_zero h0
  obtain ⟨a1,a2,a3,a4,a5⟩:=hr.span
  obtain ⟨hf,hp⟩:=(good_iff l).1 hg
  have hmem:∀ (j:Nat) (y:Rq),l[j]?=some y→meetB y.lo y.many r.lo r.many=false:=fun j y hy=>meets_no h1 (List.mem_of_getElem? hy)
  cases h2:mergeIn l r with
  |some q' =>
   rw [addM_merge h0 h1 h2] at h
   cases h
   obtain ⟨k,x,m,hx,hm,rfl⟩:=mergeIn_some h2
   have hxo:ReqOk x:=reqF_zero (hf x (List.mem_of_getElem? hx))
   obtain ⟨b1,b2,b3,b4,b5⟩:=hxo.span
   have hj:=merge_some hxo hr hm
   have hs:=merge_span hm
   have hxr:=hmem k x hx
   have hkl:k<l.length:=(List.getElem?_eq_some_iff.1 hx).1
   have key:∀ y,1≤y.many→meetB y.lo y.many r.lo r.many=false→Apart y x→Apart y m:=by
    intro y hy0 hy1 hy2
    unfold Apart at *
    rw [meetB_iff] at *
    omega
   refine ⟨(good_iff _).2 ⟨fun y hy=>?_,set_rel _ hp (fun j y hjk hy=>?_) (fun j y hjk hy=>?_)⟩,by simp,?_,k,m,?_,?_,?_,.inr ?_⟩
   ·rcases List.mem_or_eq_of_mem_set hy with h | rfl
    ·exact hf y h
    ·exact reqF_ok hj.ok
   ·exact key y (reqF_zero (hf y (List.mem_of_getElem? hy))).span.2.2.1 (hmem j y hy) (good_two hg hjk hy hx)
   ·exact (key y (reqF_zero (hf y (List.mem_of_getElem? hy))).span.2.2.1 (hmem j y hy) (good_two hg hjk hx hy).symm).symm
   ·rw [sum_set hx,hj.many]; omega
   ·rw [List.getElem?_set,if_pos rfl,if_pos hkl]
   ·rw [hj.has,Bool.or_eq_true]; right; rw [hasB_iff]; omega
   ·rw [hj.write,hj.kind]
   ·rw [hj.tags]; have:=hxo.tags.1; omega
  |none =>
   by_cases h3:6≤l.length
   ·rw [addM_full h0 h1 h2 h3] at h; cases h
   ·rw [addM_new h0 h1 h2 h3] at h
    cases h
    refine ⟨(good_iff _).2 ⟨fun y hy=>?_,?_⟩,by simp,?_,l.length,r,by simp,?_,rfl,.inl (by simp)⟩
    ·rcases List.mem_append.1 hy with h | h
     ·exact hf y h
     ·simp at h; subst h; exact h0
    ·rw [List.pairwise_append]
     refine ⟨hp,by simp,fun y hy z hz=>?_⟩
     simp at hz; subst hz
     unfold Apart
     rw [meetB_comm]
     exact meets_no h1 hy
    ·unfold sumMany; simp; omega
    ·rw [hasB_iff]; omega
theorem add_ok {l:List Rq} {r:Rq} {q:List Rq} (h:addM l r=(q,0)):ReqOk r:=by
 by_cases h0:reqF r=0
 ·exact reqF_zero h0
 ·rw [addM_bad h0] at h
  exact absurd (congrArg Prod.snd h) h0
end Go.Proofs.YtaeadmlgffaegaaGreatDoor
