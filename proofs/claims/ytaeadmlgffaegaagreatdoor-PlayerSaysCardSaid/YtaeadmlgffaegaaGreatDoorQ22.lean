/- slices.DeleteFunc over what a sync waits for. -/
import Derived.Test.YtaeadmlgffaegaaGreatDoorQ21
set_option linter.unusedSimpArgs false
set_option linter.unusedVariables false
set_option maxRecDepth 100000
set_option maxHeartbeats 8000000
namespace Go.Proofs.YtaeadmlgffaegaaGreatDoor
open Go.RowKit Go.Sort
def stay (L:List Bf) (l:List Int):List Int:=l.filter (St.still L)
theorem stay_all {L:List Bf} {l:List Int} (h:l.any (gone1 L)=false):stay L l=l:=by
 unfold stay
 rw [List.filter_eq_self]
 intro p hp
 have:=List.any_eq_false.1 h p hp
 unfold gone1 at this
 simpa using this
theorem stay_succ {L:List Bf} {l:List Int} {q:Nat} {p:Int} (h:l[q]?=some p):stay L (l.take (q+1))=stay L (l.take q) ++ (if St.still L p then [p] else []):=by
 unfold stay
 rw [List.take_add_one,h,List.filter_append]
 simp [List.filter_cons]
def RetLeft (F:Nat→Prop) (L:List Bf) (l:List Int) (w:World):Ending→World→Prop:=fun e w'=>∃ v',e=.returned v'∧Ow F w' 3 1 v' (stay L l).length ((stay L l).map (.int .i64))∧Chg F w w'
theorem delete_left (SB F:Nat→Prop) (w:World) (b B:Nat) (T:TypeId) (vb:Value) (L:List Bf) (l:List Int) (v:Value) (h2:w.cell? ⟨b,2,none⟩=some vb) (h:BufsAt SB w vb L) (hr:Rises L) (hn:L.length≤65536) (hB:w.heap[B]?=some (.cells #[.pointer (some ⟨b,0,none⟩)] T (0,0)))
  (hown:Ow F w 3 1 v l.length (l.map (.int .i64))) (hSB:∀ k,SB k→¬ F k) (hbF:¬ F b) (hBF:¬ F B) (h60:l.length≤60000) :
  Calls Tryz.prog 130 #[v,.func (.func 131) #[] #[.pointer (some ⟨B,0,none⟩)]] w (RetLeft F L l w):=by
 obtain ⟨A,cap,rfl,g1,g2⟩:=hown.form
 unfold maxLen at g2
 have Hown:=Lib.hid hown
 have HB:=Lib.hid hB
 have H:=Lib.hid h
 have HR:=Lib.hid hr
 have HN:=Lib.hid hn
 have H2:=Lib.hid h2
 have HSB:=Lib.hid hSB
 have HbF:=Lib.hid hbF
 have HBF:=Lib.hid hBF
 clear hown h hB hr hn h2 hSB hbF hBF
 go_enter Tryz.func130,Tryz.ntmps130
 go_wp2_with fail
 refine (index_left SB w b B T vb L F l _ H2.out H.out HR.out HN.out HB.out Hown.out.rd h60).mono ?_
 rintro e w1 ⟨n,rfl,hn,hb1⟩
 rcases hn with ⟨rfl,hany⟩ | ⟨k,p0,rfl,hx,hall,hg⟩
 ·have Hany:=Lib.hid hany
  have HB1:=Lib.hid hb1
  clear hany hb1
  go_wp2_with fail
  go_ret
  refine ⟨_,rfl,?_,Chg.of_below HB1.out⟩
  rw [stay_all Hany.out]
  exact Hown.out.keep (fun k _ hk=>HB1.out.block k hk)
 ·have hkl:k<l.length:=(List.getElem?_eq_some_iff.1 hx).1
  have hk1:((k:Int) == -1)=false:=by simp only [beq_eq_false_iff_ne]; omega
  obtain ⟨g,cur,eA,hgF,hcell,hsz,htk⟩:∃ g cur,A=some ⟨g,0,none⟩∧F g∧w1.heap[g]?=some (.cells cur 3 (0,0))∧cur.size=cap∧cur.toList.take l.length=l.map (.int .i64):=by
   rcases Hown.out.1.2 with ⟨hv,h0⟩ | ⟨g,cap',cur,hv,_,h2,_,_,h5,h6⟩
   ·omega
   ·cases hv
    exact ⟨g,cur,rfl,Hown.out.2 g rfl,(hb1.block _ (Array.getElem?_eq_some_iff.1 h2).1).trans h2,by simpa using h5,by simpa using h6⟩
  subst eA
  have Hx:=Lib.hid hx
  have Hall:=Lib.hid hall
  have Hg:=Lib.hid hg
  have HB1:=Lib.hid hb1
  have HgF:=Lib.hid hgF
  have Hcell:=Lib.hid hcell
  have Hsz:=Lib.hid hsz
  have Htk:=Lib.hid htk
  clear hx hall hg hb1 hgF hcell hsz htk
  go_wp2_with fail
  go_loopw [5,6] (fun i j wr=>∃ (a q:Nat) (cu:Array Value),i=.int .i64 a∧j=.int .i64 q∧a<q∧q≤l.length∧Hid (wr.heap[g]?=some (.cells cu 3 (0,0)))∧Hid (cu.size=cap)∧Hid (cu.toList.take a=(stay L (l.take q)).map (.int .i64))∧Hid (a=(stay L (l.take q)).length)∧Hid (∀ r p,q≤r→l[r]?=some p→cu[r]?=some (.int .i64 p))∧Hid (Chg F w wr)) (fun _ j _=>l.length - (intOf j).toNat)
  case atStart =>
   have e0:stay L (l.take (k+1))=l.take k:=by
    rw [stay_succ Hx.out,stay_all Hall.out]
    have:=Hg.out
    unfold gone1 at this
    rw [if_neg (by simpa using this),List.append_nil]
   have ht:cur.toList.take l.length=l.map (.int .i64):=Htk.out
   refine ⟨k,k+1,cur,rfl,by go_num,by omega,by omega,Hcell,Hsz,?_,?_,?_,Chg.of_below HB1.out⟩
   ·show _=_
    rw [e0,List.map_take,← ht,List.take_take,Nat.min_eq_left (by omega)]
   ·show _=_
    rw [e0,List.length_take,Nat.min_eq_left (by omega)]
   ·show ∀ r p,k+1≤r→l[r]?=some p→cur[r]?=some (.int .i64 p)
    intro r p _ hr
    have hrl:=(List.getElem?_eq_some_iff.1 hr).1
    have h1:(cur.toList.take l.length)[r]?=some (.int .i64 p):=by rw [ht,List.getElem?_map,hr]; rfl
    rw [List.getElem?_take_of_lt hrl] at h1
    simpa using h1
  case round =>
   obtain ⟨a,q,cu,rfl,rfl,haq,hq,hcu,hcs,hta,hla,hre,hch⟩:=hrel
   have hcl:wr.frozen? ⟨g,a,none⟩=false:=frozen_of_row _ _ a _ _ hcu.out
   have hgl:g<wr.heap.size:=(Array.getElem?_eq_some_iff.1 hcu.out).1
   by_cases hlt:q<l.length
   ·have hx:l[q]?=some l[q]:=List.getElem?_eq_getElem hlt
    have k0:wr.cell? ⟨g,q,none⟩=some (.int .i64 l[q]):=by rw [cell_of_row _ _ q _ _ _ hcu.out]; exact hre.out q _ (Nat.le_refl _) hx
    have HX:=Lib.hid hx
    clear hx
    generalize l[q]=p at *
    go_wp2_with fail
    refine (sync1_any SB wr b B T vb L p ?_ ?_ HR.out HN.out ?_).mono ?_
    ·exact (World.cell?_of_block (hch.out.block b (block_lt_of_cell H2.out) HbF.out)).trans H2.out
    ·exact H.out.keep (fun k hs hk=>hch.out.block k hk (HSB.out k hs))
    ·exact (hch.out.block B (Array.getElem?_eq_some_iff.1 HB.out).1 HBF.out).trans HB.out
    rintro e w2 ⟨rfl,hb2⟩
    have HB2:=Lib.hid hb2
    have hcu2:=Lib.hid ((hb2.block g hgl).trans hcu.out)
    have hch2:=Lib.hid (hch.out.step hb2)
    clear k0 hb2 hcl
    cases hs:St.still L p with
    |true =>
     have Hs:=Lib.hid hs
     have ka:w2.cell? ⟨g,a,none⟩=some cu[a]!:=by
      have:a<cu.size:=by have:=hcs.out; omega
      rw [cell_of_row _ _ a _ _ _ hcu2.out]; simp [this]
     have kf:w2.frozen? ⟨g,a,none⟩=false:=frozen_of_row _ _ a _ _ hcu2.out
     clear hs
     go_wp2_with fail
     go_roundw
     case rel =>
      refine ⟨a+1,q+1,cu.setIfInBounds a (.int .i64 p),by go_num,by go_num,by omega,by omega,heap_setCell_same _ _ a _ _ _ hcu2.out,?_,?_,?_,?_,hch2.out.setCell (.inl HgF.out) _⟩
      ·show _=_
       rw [Array.size_setIfInBounds]; exact hcs.out
      ·show _=_
       rw [stay_succ HX.out,Hs.out,if_pos rfl,List.map_append,← hta.out,Array.toList_setIfInBounds,List.take_add_one,List.getElem?_set_self (by have:=hcs.out; simp; omega),List.take_set_of_le (Nat.le_refl _)]
       rfl
      ·show _=_
       rw [stay_succ HX.out,Hs.out,if_pos rfl,List.length_append,← hla.out]; rfl
      ·show ∀ r p',q+1≤r→l[r]?=some p'→_
       intro r p' hr hx
       rw [Array.getElem?_setIfInBounds_ne (by omega)]
       exact hre.out r p' (by omega) hx
     case measure=>simp [intOf]; omega
    |false =>
     have Hs:=Lib.hid hs
     clear hs
     go_wp2_with fail
     go_roundw
     case rel =>
      refine ⟨a,q+1,cu,rfl,by go_num,by omega,by omega,hcu2,hcs,?_,?_,?_,hch2⟩
      ·show _=_
       rw [stay_succ HX.out,Hs.out,if_neg (by decide),List.append_nil]; exact hta.out
      ·show _=_
       rw [stay_succ HX.out,Hs.out,if_neg (by decide),List.append_nil]; exact hla.out
      ·show ∀ r p',q+1≤r→l[r]?=some p'→_
       intro r p' hr hx
       exact hre.out r p' (by omega) hx
     case measure=>simp [intOf]; omega
   ·have hql:q=l.length:=by omega
    subst hql
    obtain ⟨cur',hrun,hsz',htk'⟩:=run_clear_row (P:=Tryz.prog) wr 107 3 0 (.int .i64 0) 1 Tryz.underlying107 int_zero rfl
     (fun n u hu=>one_zeros (by decide) n u hu) g a (l.length - a) (cap - a) _ cu hcu.out (by rw [hcs.out]; omega)
    have Hs':=Lib.hid hsz'
    have Ht':=Lib.hid htk'
    clear hsz' htk'
    go_wp2_with fail
    go_ret
    have ht:=hta.out
    have hl':=hla.out
    rw [List.take_length] at ht hl'
    refine ⟨.slice (some ⟨g,0,none⟩) a cap,rfl,⟨?_,?_⟩,?_⟩
    ·refine ⟨by simp,.inr ⟨g,cap,cur',by rw [← hl'],Nat.zero_le _,setRow_heap _ _ _ _ _ _ hcu.out,by omega,by simp only [maxLen]; omega,by rw [Hs'.out,hcs.out]; simp,?_⟩⟩
     rw [Nat.mul_one,← hl',Ht'.out,ht]
    ·intro k hk
     have hk':g=k:=by simpa [Value.ownBlock] using hk
     subst hk'
     exact HgF.out
    ·exact ⟨hch.out.os,hch.out.tape,hch.out.output,by simpa using hch.out.size,fun k hk hn=>by rw [setRow_other _ _ _ _ (fun h=>hn (by rw [h]; exact HgF.out))]; exact hch.out.block k hk hn⟩
end Go.Proofs.YtaeadmlgffaegaaGreatDoor
namespace Go.Proofs.YtaeadmlgffaegaaGreatDoor
open Go.RowKit Go.Sort
def Ret4 (T:Tys) (col:Nat→Nat) (w:World) (b bd N:Nat) (x:Sv) (t:St) (v:Value):Ending→World→Prop:=fun e w'=>∃ y,e=.returned v∧StAt T col w' b bd N y t∧Chg (Fl col) w w'∧Avs x y t
section
variable {T:Tys} {col:Nat→Nat} {w w':World} {b bd N:Nat} {x:Sv} {s:St}
theorem StAt.chg1 (h:StAt T col w b bd N x s) {u u':World} (hc:Chg (fun k=>k=b) u u'):Chg (Fl col) u u':=hc.mono (fun k hk=>by subst hk; show col k≠0∧col k≠9; rw [h.cb]; decide)
theorem Fl.of_a {c:Nat} (hc:c<3):∀ k,Fa col c k→Fl col k:=fun k (hk:col k=5+c)=>show col k≠0∧col k≠9 by omega
theorem Fl.of_d:∀ k,Fd col k→Fl col k:=fun k (hk:col k=4)=>show col k≠0∧col k≠9 by omega
theorem Ret2.four (h:StAt T col w b bd N x s) {t:St} {v:Value} {e:Ending} {w':World} (hr:Ret2 T col w b bd N x t v e w'):Ret4 T col w b bd N x t v e w':=by
 obtain ⟨y,h1,h2,h3,h4⟩:=hr
 exact ⟨y,h1,h2,h.chg1 h3,h4⟩
theorem StAt.drvK (h:StAt T col w b bd N x s) (hs:w.heap.size≤w'.heap.size) (hk:∀ k,k<w.heap.size→(col k=0∨col k=2∨col k=3∨col k=4)→w'.heap[k]?=w.heap[k]?):DrvAt T.D T.P T.V (Im w' col) (Fd col) w' x.bv bd x.bt x.n s.v:=by
 obtain ⟨f,hf,hv⟩:=h.drv.map
 refine ⟨(hk _ (Array.getElem?_eq_some_iff.1 h.drv.row).1 (.inr (.inl h.cv))).trans h.drv.row,⟨f,hf.keep (hk _ hf.lt (.inr (.inr (.inl h.ct)))),hv⟩,?_,h.drv.nv,h.drv.nt,h.nv⟩
 exact (h.drv.dev.keep (fun k hf hl=>hk k hl (.inr (.inr (.inr hf)))) (fun k hS hl=>hk k hl (.inl hS.2))).more (Im.step hs)
theorem StAt.bufsK (h:StAt T col w b bd N x s) (hs:w.heap.size≤w'.heap.size) (hk:∀ k,k<w.heap.size→col k=0→w'.heap[k]?=w.heap[k]?):BufsAt (Im w' col) w' x.bufs s.bufs :=
 (h.bufs.keep (fun k hS hl=>hk k hl hS.2)).more (Im.step hs)
theorem StAt.waitK (h:StAt T col w b bd N x s) (hs:w.heap.size≤w'.heap.size) (hk:∀ k,k<w.heap.size→col k=0→w'.heap[k]?=w.heap[k]?):ReqsAt (Im w' col) w' x.wait s.wait :=
 (h.wait.keep (fun k hS hl=>hk k hl hS.2)).more (Im.step hs)
theorem StAt.askd (h:StAt T col w b bd N x s) {c:Nat} (hc:c<3) {a':Ak} (hch:Chg (Fa col c) w w') (hnew:AskAt T.A (Fa col c) w' (x.av c) (some a')):StAt T col w' b bd N x { s with asks:=s.asks.set c (some a') }:=by
 have hk:∀ k,k<w.heap.size→col k≠5+c→w'.heap[k]?=w.heap[k]?:=fun k hl hn=>hch.block k hl hn
 refine ⟨(hk b h.bl (by rw [h.cb]; omega)).trans h.row,h.drvK hch.size (fun k hl hc'=>hk k hl (by omega)),h.n,h.bufsK hch.size (fun k hl hc'=>hk k hl (by omega)),h.waitK hch.size (fun k hl hc'=>hk k hl (by omega)),by show (s.asks.set c _).length=3; rw [List.length_set]; exact h.asks,fun j hj=>?_,h.done,h.errs,h.cb,h.cv,h.ct,fun k hk'=>Nat.lt_of_lt_of_le (h.lt k hk') hch.size⟩
 by_cases e:j=c
 ·subst e
  have:({ s with asks:=s.asks.set j (some a') }:St).askAt j=some a':=by
   unfold St.askAt
   simp [List.getD_eq_getElem?_getD,List.getElem?_set,h.asks,hj]
  rw [this]; exact hnew
 ·have:({ s with asks:=s.asks.set c (some a') }:St).askAt j=s.askAt j:=by
   unfold St.askAt
   simp only [List.getD_eq_getElem?_getD]
   rw [List.getElem?_set_ne (Ne.symm e)]
  rw [this]
  exact (h.ask j hj).keep (fun k hf hl=>hk k hl (by have:col k=5+j:=hf; omega))
theorem StAt.devd (h:StAt T col w b bd N x s) {d':Dv} (hd:DevAt T.D T.P (Im w col) (Fd col) w' bd d') (hch:Chg (Fd col) w w'):StAt T col w' b bd N x { s with v:={ s.v with d:=d' } }:=by
 have hk:∀ k,k<w.heap.size→col k≠4→w'.heap[k]?=w.heap[k]?:=fun k hl hn=>hch.block k hl hn
 obtain ⟨f,hf,hv⟩:=h.drv.map
 refine ⟨(hk b h.bl (by rw [h.cb]; omega)).trans h.row,⟨(hk _ (Array.getElem?_eq_some_iff.1 h.drv.row).1 (by rw [h.cv]; omega)).trans h.drv.row,⟨f,hf.keep (hk _ hf.lt (by rw [h.ct]; omega)),hv⟩,hd.more (Im.step hch.size),h.drv.nv,h.drv.nt,h.nv⟩,h.n,
  h.bufsK hch.size (fun k hl hc'=>hk k hl (by omega)),h.waitK hch.size (fun k hl hc'=>hk k hl (by omega)),h.asks,fun j hj=>?_,h.done,h.errs,h.cb,h.cv,h.ct,fun k hk'=>Nat.lt_of_lt_of_le (h.lt k hk') hch.size⟩
 exact (h.ask j hj).keep (fun k hf hl=>hk k hl (by have:col k=5+j:=hf; omega))
theorem StAt.imfd:∀ k,Im w col k→¬ Fd col k:=fun k hk hf=>by have h1:=hk.2; have h2:col k=4:=hf; omega
theorem Chg.two {F:Nat→Prop} {a b c:World} (h:Chg F a b) (k:Chg F b c):Chg F a c:=h.trans (k.mono (fun _ hk=>.inl hk))
end
theorem sync_any (col:Nat→Nat) (w:World) (b bd N c:Nat) (x:Sv) (s:St) (a:Ak) (ba:Nat) (h:StAt Ts col w b bd N x s) (hI:Inv s) (hc:c<3) (ha:s.askAt c=some a) (hv:x.av c=.pointer (some ⟨ba,0,none⟩)) :
  Calls Tryz.prog 96 #[.pointer (some ⟨b,0,none⟩),.int .i64 (c:Int),.pointer (some ⟨ba,0,none⟩)] w (Ret4 Ts col w b bd N x (s.sync c a) (.tuple #[])):=by
 obtain ⟨lv,hrow,hfa,how⟩:=h.askc hc ha hv
 have Hv:=Lib.hid hv
 have Hne:=Lib.hid (h.ask_ne hfa)
 have Hfa:=Lib.hid hfa
 have H0:=Lib.hid h
 have HI:=Lib.hid hI
 have Hrow:=Lib.hid hrow
 have How:=Lib.hid how
 have Ha:=Lib.hid (hI.ask c a ha)
 have hb0:∀ o,Below w.heap.size w (w.alloc o):=fun o=>(Below.refl _ _).alloc (Nat.le_refl _) o
 have Hbox:Hid (col w.heap.size=0):=show _=_ by
  rcases Nat.eq_zero_or_pos (col w.heap.size) with h1 | h1
  ·exact h1
  ·have:=h.lt w.heap.size (by omega); omega
 clear h hI hrow how ha hv hfa
 go_enter Tryz.func96,Tryz.ntmps96
 have HB:Hid ((w.alloc (.cells #[.pointer (some ⟨b,0,none⟩)] 36)).heap[w.heap.size]?=some (.cells #[.pointer (some ⟨b,0,none⟩)] 36 (0,0))):=show _=_ from heap_alloc_new w _
 have H1:=Lib.hid (H0.out.below (hb0 (.cells #[.pointer (some ⟨b,0,none⟩)] 36)))
 have Hb1:=Lib.hid (hb0 (.cells #[.pointer (some ⟨b,0,none⟩)] 36))
 have c0:∀ o,(w.alloc o).cell? ⟨b,20,none⟩=some (.bool s.dead):=fun o=>cell_b (hb0 o) (H0.out.cell 20)
 have c3:∀ o,(w.alloc o).cell? ⟨ba,3,none⟩=some lv:=fun o=>cell_b (hb0 o) (cell_of_row _ _ 3 _ _ _ Hrow.out)
 clear hb0
 obtain ⟨B,hB⟩:∃ B,w.heap.size=B:=⟨_,rfl⟩
 rw [hB] at HB Hbox
 cases hd:s.dead with
 |true =>
  have Hsr:Hid (s.sync c a=s.answer c noB 9):=show _=_ by unfold St.sync; rw [hd,if_pos rfl]
  rw [hd] at c0
  clear hd
  go_wp2_with fail
  clear c0 c3
  generalize World.alloc _ _=w1 at HB H1 Hb1 ⊢
  refine (answer_any col _ b bd N _ _ c noB 9 H1.out hc).mono ?_
  rintro e w4 ⟨rfl,hS4,hst4⟩
  have HS4:=Lib.hid hS4
  have Hst4:=Lib.hid hst4
  clear hS4 hst4
  go_wp2_with fail
  go_end0
  rw [Hsr.out]
  exact ⟨_,rfl,Hst4.out,(Chg.of_below Hb1.out).two (H0.out.chg1 (HS4.out.chg (F:=fun k=>k=b) rfl)),Avs.ans .refl H0.out.asks hc⟩
 |false =>
  rw [hd] at c0
  have Hdd:=Lib.hid hd
  clear hd
  have Hlr:Hid (w.heap[ba]?=some (.cells #[.int .i64 a.kind,.int .i64 a.pos,.string a.data,lv] Ts.A (0,0))):=Hrow
  have Hown1:∀ o,Ow (Fa col c) (w.alloc o) 3 1 lv a.left.length (a.left.map (.int .i64)):=fun o=>How.out.keep (fun k _ hk=>((Below.refl w.heap.size w).alloc (Nat.le_refl _) o).block k hk)
  have How1:=Lib.hid Hown1
  clear Hown1
  obtain ⟨A,cap,hlv,_,_⟩:=How.out.form
  subst hlv
  go_wp2_with fail
  have HBw:Hid (Below w.heap.size w (w.alloc (.cells #[.pointer (some ⟨b,0,none⟩)] 36))):=Hb1
  have Hba:Hid ((w.alloc (.cells #[.pointer (some ⟨b,0,none⟩)] 36)).heap[ba]?=some (.cells #[.int .i64 a.kind,.int .i64 a.pos,.string a.data,.slice A a.left.length cap] Ts.A (0,0))):=show _=_ from (Hb1.out.block _ (Array.getElem?_eq_some_iff.1 Hrow.out).1).trans Hrow.out
  have Hown:=Lib.hid (How1.out (.cells #[.pointer (some ⟨b,0,none⟩)] 36))
  clear c0 c3 How1
  generalize World.alloc _ _=w1 at HB H1 Hb1 HBw Hba Hown ⊢
  obtain ⟨F,hF⟩:∃ F:Nat→Prop,F=fun k=>(Value.slice A a.left.length cap).ownBlock=some k:=⟨_,rfl⟩
  have HFa:Hid (∀ k,F k→Fa col c k):=show ∀ k,_→_ from fun k hk=>Hown.out.2 k (by rw [hF] at hk; exact hk)
  have HFb:Hid (¬ F ba):=show ¬ _ from fun hk=>own_ne Hown.out.1 Hba.out (by decide) ba (by rw [hF] at hk; exact hk) rfl
  have HoF:Hid (Ow F w1 3 1 (.slice A a.left.length cap) a.left.length (a.left.map (.int .i64))):=show _ from ⟨Hown.out.1,fun k hk=>by rw [hF]; exact hk⟩
  clear hF
  refine (delete_left (Im w1 col) F w1 b B _ x.bufs s.bufs a.left _ (H1.out.cell 2) H1.out.bufs HI.out.rises (by have:=HI.out.len8; omega) HB.out HoF.out (fun k hk hf=>by have h1:=hk.2; have h2:col k=5+c:=HFa.out k hf; omega) (fun hf=>by have h2:col b=5+c:=HFa.out b hf; rw [H1.out.cb] at h2; omega) (fun hf=>by have h2:col B=5+c:=HFa.out B hf; rw [Hbox.out] at h2; omega) (by have:=Ha.out.len; omega)).mono ?_
  rintro e w2 ⟨v2,rfl,how2,hc2⟩
  obtain ⟨A2,cap2,hlv2,_,_⟩:=how2.form
  subst hlv2
  have How2:=Lib.hid how2
  have HC2:=Lib.hid hc2
  have hba2:w2.heap[ba]?=some (.cells #[.int .i64 a.kind,.int .i64 a.pos,.string a.data,.slice A a.left.length cap] Ts.A (0,0)):=(hc2.block ba (Array.getElem?_eq_some_iff.1 Hba.out).1 HFb.out).trans Hba.out
  have f3:w2.frozen? ⟨ba,3,none⟩=false:=frozen_of_row _ _ 3 _ _ hba2
  have k3:w2.cell? ⟨ba,3,none⟩=some (.slice A a.left.length cap):=cell_of_row _ _ 3 _ _ _ hba2
  have hba3:=heap_setCell_same _ _ 3 _ _ (.slice A2 (stay s.bufs a.left).length cap2) hba2
  have HA3:Hid (StAt Ts col (w2.setCell ⟨ba,3,none⟩ (.slice A2 (stay s.bufs a.left).length cap2)) b bd N x { s with asks:=s.asks.set c (some { a with left:=stay s.bufs a.left }) }):=show StAt .. from
   H1.out.askd hc ((HC2.out.mono HFa.out).setCell (.inl Hfa.out) _) ⟨ba,_,Hv.out,Hfa.out,hba3,(How2.out.keep (fun k hk hl=>heap_setCell_other _ _ _ _ (fun e=>HFb.out (by subst e; exact hk)))).mono HFa.out⟩
  have HB3:Hid ((w2.setCell ⟨ba,3,none⟩ (.slice A2 (stay s.bufs a.left).length cap2)).heap[B]?=some (.cells #[.pointer (some ⟨b,0,none⟩)] 36 (0,0))):=show _=_ from
   (((HC2.out.mono HFa.out).setCell (.inl Hfa.out) _).block B (Array.getElem?_eq_some_iff.1 HB.out).1 (fun hf=>by have h2:col B=5+c:=hf; rw [Hbox.out] at h2; omega)).trans HB.out
  have HC3:Hid (Chg (Fl col) w (w2.setCell ⟨ba,3,none⟩ (.slice A2 (stay s.bufs a.left).length cap2))):=show Chg .. from (Chg.of_below Hb1.out).two (((HC2.out.mono HFa.out).setCell (.inl Hfa.out) _).mono (Fl.of_a hc))
  have kB:w2.cell? ⟨B,0,none⟩=some (.pointer (some ⟨b,0,none⟩)):=cell_of_row _ _ 0 _ _ _ ((hc2.block B (Array.getElem?_eq_some_iff.1 HB.out).1 (fun hf=>by have h2:col B=5+c:=HFa.out B hf; rw [Hbox.out] at h2; omega)).trans HB.out)
  have kb:w2.cell? ⟨b,0,none⟩=some (.pointer (some ⟨bd,0,none⟩)):=(World.cell?_of_block (hc2.block b H1.out.bl (fun hf=>by have h2:col b=5+c:=HFa.out b hf; rw [H1.out.cb] at h2; omega))).trans (H1.out.cell 0)
  clear how2 hc2 hba2 hba3
  have Hst:Hid (a.left.filter (St.still s.bufs)=stay s.bufs a.left):=show _=_ from rfl
  by_cases hl:stay s.bufs a.left=[]
  ·have Hl:=Lib.hid hl
   have hln:(stay s.bufs a.left).length=0:=by rw [hl]; rfl
   have Hsr:Hid (s.sync c a=({ s with v:={ s.v with d:=s.v.d.flush } }:St).answer c noB 0):=show _=_ by unfold St.sync; rw [Hdd.out,if_neg (by decide),Hst.out,if_pos hl]
   rw [hln] at HA3 HB3 HC3 ⊢
   clear hl hln
   go_wp2_with fail
   clear f3 k3 kB kb
   generalize World.setCell _ _ _=w3 at HA3 HB3 HC3 ⊢
   refine (devflush_any (Im w3 col) (Fd col) w3 bd s.v.d HA3.out.drv.dev StAt.imfd).mono ?_
   rintro e w4 ⟨rfl,hd4,hc4,_⟩
   have HC4:=Lib.hid hc4
   have H4:=Lib.hid (HA3.out.devd hd4 hc4)
   have kB4:w4.cell? ⟨B,0,none⟩=some (.pointer (some ⟨b,0,none⟩)):=cell_of_row _ _ 0 _ _ _ ((hc4.block B (Array.getElem?_eq_some_iff.1 HB3.out).1 (fun hf=>by have h2:col B=4:=hf; rw [Hbox.out] at h2; omega)).trans HB3.out)
   clear hd4 hc4
   go_wp2_with fail
   refine (answer_any col w4 b bd N _ _ c noB 0 H4.out hc).mono ?_
   rintro e w5 ⟨rfl,hS5,hst5⟩
   have HS5:=Lib.hid hS5
   have Hst5:=Lib.hid hst5
   clear hS5 hst5
   go_wp2_with fail
   go_end0
   rw [Hsr.out]
   have e5:({ { s with asks:=s.asks.set c (some { a with left:=stay s.bufs a.left }) } with v:={ s.v with d:=s.v.d.flush } }:St).answer c noB 0=({ s with v:={ s.v with d:=s.v.d.flush } }:St).answer c noB 0:=by
    unfold St.answer
    simp only [List.set_set]
   exact ⟨_,rfl,e5▸Hst5.out,(HC3.out.two (HC4.out.mono Fl.of_d)).two (H0.out.chg1 (HS5.out.chg (F:=fun k=>k=b) rfl)),Avs.ans .refl H0.out.asks hc⟩
  ·have Hsr:Hid (s.sync c a={ s with asks:=s.asks.set c (some { a with left:=stay s.bufs a.left }) }):=show _=_ by unfold St.sync; rw [Hdd.out,if_neg (by decide),Hst.out,if_neg hl]
   have hln:(((stay s.bufs a.left).length:Nat) == 0)=false:=by simpa using hl
   clear hl
   go_wp2_with fail
   go_end0
   rw [Hsr.out]
   exact ⟨_,rfl,HA3.out,HC3.out,.refl⟩
end Go.Proofs.YtaeadmlgffaegaaGreatDoor
