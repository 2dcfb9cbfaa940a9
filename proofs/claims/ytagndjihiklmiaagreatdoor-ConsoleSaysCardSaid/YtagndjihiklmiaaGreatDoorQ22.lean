/- sync: what is no longer dirty goes from the list; when nothing is left it is flushed. -/
import Derived.Test.YtagndjihiklmiaaGreatDoorQ21
set_option linter.unusedSimpArgs false
set_option linter.unusedVariables false
set_option maxRecDepth 100000
set_option maxHeartbeats 8000000
namespace Go.Proofs.YtagndjihiklmiaaGreatDoor
open Go.RowKit Go.Sort
def Ret4 (T:Tys) (col:Nat→Nat) (w:World) (b bd N:Nat) (x:Sv) (t:St) (v:Value):Ending→World→Prop:=fun e w'=>∃ y,e=.returned v∧StAt T col w' b bd N y t∧Chg (Fl col) w w'∧Avs x y t
section
variable {T:Tys} {col:Nat→Nat} {w w':World} {b bd N:Nat} {x:Sv} {s:St}
theorem StAt.chg1 (h:StAt T col w b bd N x s) {u u':World} (hc:Chg (fun k=>k=b) u u'):Chg (Fl col) u u':=hc.mono (fun k hk=>by subst hk; show col k≠0∧col k≠9; rw [h.cb]; decide)
theorem Fl.of_a {c:Nat} (hc:c<3):∀ k,Fa col c k→Fl col k:=fun k (hk:col k=5+c)=>show col k≠0∧col k≠9 by omega
theorem Fl.of_d:∀ k,Fd col k→Fl col k:=fun k (hk:col k=4)=>show col k≠0∧col k≠9 by omega
theorem Ret2.four (h:StAt T col w b bd N x s) {t:St} {v:Value} {e:Ending} {w':World} (hr:Ret2 T col w b bd N x t v e w'):Ret4 T col w b bd N x t v e w':=by
 obtain ⟨y,h1,h2,h3,h4⟩:=hr;exact ⟨y,h1,h2,h.chg1 h3,h4⟩
theorem StAt.drvK (h:StAt T col w b bd N x s) (hs:w.heap.size≤w'.heap.size) (hk:∀ k,k<w.heap.size→(col k=0∨col k=2∨col k=3∨col k=4)→w'.heap[k]?=w.heap[k]?):DrvAt T.D T.P T.V (Im w' col) (Fd col) w' x.bv bd x.bt x.n s.v:=by
 obtain ⟨f,hf,hv⟩:=h.drv.map;refine ⟨(hk _ (Array.getElem?_eq_some_iff.1 h.drv.row).1 (.inr (.inl h.cv))).trans h.drv.row,⟨f,hf.keep (hk _ hf.lt (.inr (.inr (.inl h.ct)))),hv⟩,?_,h.drv.nv,h.drv.nt,h.nv⟩;exact (h.drv.dev.keep (fun k hf hl=>hk k hl (.inr (.inr (.inr hf)))) (fun k hS hl=>hk k hl (.inl hS.2))).more (Im.step hs)
theorem StAt.bufsK (h:StAt T col w b bd N x s) (hs:w.heap.size≤w'.heap.size) (hk:∀ k,k<w.heap.size→col k=0→w'.heap[k]?=w.heap[k]?):BufsAt (Im w' col) w' x.bufs s.bufs :=
 (h.bufs.keep (fun k hS hl=>hk k hl hS.2)).more (Im.step hs)
theorem StAt.waitK (h:StAt T col w b bd N x s) (hs:w.heap.size≤w'.heap.size) (hk:∀ k,k<w.heap.size→col k=0→w'.heap[k]?=w.heap[k]?):ReqsAt (Im w' col) w' x.wait s.wait :=
 (h.wait.keep (fun k hS hl=>hk k hl hS.2)).more (Im.step hs)
theorem StAt.askd (h:StAt T col w b bd N x s) {c:Nat} (hc:c<3) {a':Ak} (hch:Chg (Fa col c) w w') (hnew:AskAt T.A (Fa col c) w' (x.av c) (some a')):StAt T col w' b bd N x { s with asks:=s.asks.set c (some a') }:=by
 have hk:∀ k,k<w.heap.size→col k≠5+c→w'.heap[k]?=w.heap[k]?:=fun k hl hn=>hch.block k hl hn
 refine ⟨(hk b h.bl (by rw [h.cb]; omega)).trans h.row,h.drvK hch.size (fun k hl hc'=>hk k hl (by omega)),h.n,h.bufsK hch.size (fun k hl hc'=>hk k hl (by omega)),h.waitK hch.size (fun k hl hc'=>hk k hl (by omega)),by show (s.asks.set c _).length=3; rw [List.length_set]; exact h.asks,fun j hj=>?_,h.done,h.errs,h.cb,h.cv,h.ct,fun k hk'=>Nat.lt_of_lt_of_le (h.lt k hk') hch.size⟩;by_cases e:j=c
 ·subst e
  have:({ s with asks:=s.asks.set j (some a') }:St).askAt j=some a':=by
   unfold St.askAt;simp [List.getD_eq_getElem?_getD,List.getElem?_set,h.asks,hj]
  rw [this]; exact hnew
 ·have:({ s with asks:=s.asks.set c (some a') }:St).askAt j=s.askAt j:=by
   unfold St.askAt;simp only [List.getD_eq_getElem?_getD];rw [List.getElem?_set_ne (Ne.symm e)]
  rw [this];exact (h.ask j hj).keep (fun k hf hl=>hk k hl (by have:col k=5+j:=hf; omega))
theorem StAt.devd (h:StAt T col w b bd N x s) {d':Dv} (hd:DevAt T.D T.P (Im w col) (Fd col) w' bd d') (hch:Chg (Fd col) w w'):StAt T col w' b bd N x { s with v:={ s.v with d:=d' } }:=by
 have hk:∀ k,k<w.heap.size→col k≠4→w'.heap[k]?=w.heap[k]?:=fun k hl hn=>hch.block k hl hn
 obtain ⟨f,hf,hv⟩:=h.drv.map
 refine ⟨(hk b h.bl (by rw [h.cb]; omega)).trans h.row,⟨(hk _ (Array.getElem?_eq_some_iff.1 h.drv.row).1 (by rw [h.cv]; omega)).trans h.drv.row,⟨f,hf.keep (hk _ hf.lt (by rw [h.ct]; omega)),hv⟩,hd.more (Im.step hch.size),h.drv.nv,h.drv.nt,h.nv⟩,h.n,
  h.bufsK hch.size (fun k hl hc'=>hk k hl (by omega)),h.waitK hch.size (fun k hl hc'=>hk k hl (by omega)),h.asks,fun j hj=>?_,h.done,h.errs,h.cb,h.cv,h.ct,fun k hk'=>Nat.lt_of_lt_of_le (h.lt k hk') hch.size⟩
 exact (h.ask j hj).keep (fun k hf hl=>hk k hl (by have:col k=5+j:=hf; omega))
theorem StAt.imfd:∀ k,Im w col k→¬ Fd col k:=fun k hk hf=>by have h1:=hk.2; have h2:col k=4:=hf; omega
theorem Chg.two {F:Nat→Prop} {a b c:World} (h:Chg F a b) (k:Chg F b c):Chg F a c:=h.trans (k.mono (fun _ hk=>.inl hk))
end
theorem sync_any (col:Nat→Nat) (w:World) (b bd N c:Nat) (x:Sv) (s:St) (a:Ak) (ba:Nat) (h:StAt Ts col w b bd N x s) (hI:Inv s) (hc:c<3) (ha:s.askAt c=some a) (hv:x.av c=.pointer (some ⟨ba,0,none⟩)) :
  Calls Tryz.prog 117 #[.pointer (some ⟨b,0,none⟩),.int .i64 (c:Int),.pointer (some ⟨ba,0,none⟩)] w (Ret4 Ts col w b bd N x (s.sync c a) (.tuple #[])):=by
 obtain ⟨lv,hrow,hfa,how⟩:=h.askc hc ha hv;have Hv:=Lib.hid hv;have Hne:=Lib.hid (h.ask_ne hfa);have Hfa:=Lib.hid hfa;have H0:=Lib.hid h;have HI:=Lib.hid hI;have Hrow:=Lib.hid hrow;have How:=Lib.hid how;have Ha:=Lib.hid (hI.ask c a ha);have hb0:∀ o,Below w.heap.size w (w.alloc o):=fun o=>(Below.refl _ _).alloc (Nat.le_refl _) o
 have Hbox:Hid (col w.heap.size=0):=show _=_ by
  rcases Nat.eq_zero_or_pos (col w.heap.size) with h1 | h1
  ·exact h1
  ·have:=h.lt w.heap.size (by omega); omega
 clear h hI hrow how ha hv hfa;go_enter Tryz.func117,Tryz.ntmps117;have HB:Hid ((w.alloc (.cells #[.pointer (some ⟨b,0,none⟩)] 86)).heap[w.heap.size]?=some (.cells #[.pointer (some ⟨b,0,none⟩)] 86 (0,0))):=show _=_ from heap_alloc_new w _;have H1:=Lib.hid (H0.out.below (hb0 (.cells #[.pointer (some ⟨b,0,none⟩)] 86)));have Hb1:=Lib.hid (hb0 (.cells #[.pointer (some ⟨b,0,none⟩)] 86));have c0:∀ o,(w.alloc o).cell? ⟨b,20,none⟩=some (.bool s.dead):=fun o=>cell_b (hb0 o) (H0.out.cell 20)
 have c3:∀ o,(w.alloc o).cell? ⟨ba,3,none⟩=some lv:=fun o=>cell_b (hb0 o) (cell_of_row _ _ 3 _ _ _ Hrow.out)
 clear hb0
 obtain ⟨B,hB⟩:∃ B,w.heap.size=B:=⟨_,rfl⟩
 rw [hB] at HB Hbox
 cases hd:s.dead with
 |true =>
  have Hsr:Hid (s.sync c a=s.answer c noB 9):=show _=_ by unfold St.sync; rw [hd,if_pos rfl]
  rw [hd] at c0;clear hd;go_wp2_with fail;clear c0 c3;generalize World.alloc _ _=w1 at HB H1 Hb1 ⊢;refine (answer_any col _ b bd N _ _ c noB 9 H1.out hc).mono ?_;rintro e w4 ⟨rfl,hS4,hst4⟩;have HS4:=Lib.hid hS4;have Hst4:=Lib.hid hst4;clear hS4 hst4;go_wp2_with fail;go_end0;rw [Hsr.out];exact ⟨_,rfl,Hst4.out,(Chg.of_below Hb1.out).two (H0.out.chg1 (HS4.out.chg (F:=fun k=>k=b) rfl)),Avs.ans .refl H0.out.asks hc⟩
 |false =>
  rw [hd] at c0;have Hdd:=Lib.hid hd;clear hd;have Hlr:Hid (w.heap[ba]?=some (.cells #[.int .i64 a.kind,.int .i64 a.pos,.string a.data,lv] Ts.A (0,0))):=Hrow;have Hown1:∀ o,Ow (Fa col c) (w.alloc o) 3 1 lv a.left.length (a.left.map (.int .i64)):=fun o=>How.out.keep (fun k _ hk=>((Below.refl w.heap.size w).alloc (Nat.le_refl _) o).block k hk)
  have How1:=Lib.hid Hown1;clear Hown1;obtain ⟨A,cap,hlv,_,_⟩:=How.out.form;subst hlv;go_wp2_with fail;have HBw:Hid (Below w.heap.size w (w.alloc (.cells #[.pointer (some ⟨b,0,none⟩)] 86))):=Hb1;have Hba:Hid ((w.alloc (.cells #[.pointer (some ⟨b,0,none⟩)] 86)).heap[ba]?=some (.cells #[.int .i64 a.kind,.int .i64 a.pos,.string a.data,.slice A a.left.length cap] Ts.A (0,0))):=show _=_ from (Hb1.out.block _ (Array.getElem?_eq_some_iff.1 Hrow.out).1).trans Hrow.out;have Hown:=Lib.hid (How1.out (.cells #[.pointer (some ⟨b,0,none⟩)] 86));clear c0 c3 How1;generalize World.alloc _ _=w1 at HB H1 Hb1 HBw Hba Hown ⊢;obtain ⟨F,hF⟩:∃ F:Nat→Prop,F=fun k=>(Value.slice A a.left.length cap).ownBlock=some k:=⟨_,rfl⟩;have HFa:Hid (∀ k,F k→Fa col c k):=show ∀ k,_→_ from fun k hk=>Hown.out.2 k (by rw [hF] at hk; exact hk);have HFb:Hid (¬ F ba):=show ¬ _ from fun hk=>own_ne Hown.out.1 Hba.out (by decide) ba (by rw [hF] at hk; exact hk) rfl;have HoF:Hid (Ow F w1 3 1 (.slice A a.left.length cap) a.left.length (a.left.map (.int .i64))):=show _ from ⟨Hown.out.1,fun k hk=>by rw [hF]; exact hk⟩;clear hF;refine (delete_left (Im w1 col) F w1 b B _ x.bufs s.bufs a.left _ (H1.out.cell 2) H1.out.bufs HI.out.rises (by have:=HI.out.len8; omega) HB.out HoF.out (fun k hk hf=>by have h1:=hk.2; have h2:col k=5+c:=HFa.out k hf; omega) (fun hf=>by have h2:col b=5+c:=HFa.out b hf; rw [H1.out.cb] at h2; omega) (fun hf=>by have h2:col B=5+c:=HFa.out B hf; rw [Hbox.out] at h2; omega) (by have:=Ha.out.len; omega)).mono ?_;rintro e w2 ⟨v2,rfl,how2,hc2⟩;obtain ⟨A2,cap2,hlv2,_,_⟩:=how2.form;subst hlv2;have How2:=Lib.hid how2;have HC2:=Lib.hid hc2;have hba2:w2.heap[ba]?=some (.cells #[.int .i64 a.kind,.int .i64 a.pos,.string a.data,.slice A a.left.length cap] Ts.A (0,0)):=(hc2.block ba (Array.getElem?_eq_some_iff.1 Hba.out).1 HFb.out).trans Hba.out;have f3:w2.frozen? ⟨ba,3,none⟩=false:=frozen_of_row _ _ 3 _ _ hba2;have k3:w2.cell? ⟨ba,3,none⟩=some (.slice A a.left.length cap):=cell_of_row _ _ 3 _ _ _ hba2;have hba3:=heap_setCell_same _ _ 3 _ _ (.slice A2 (stay s.bufs a.left).length cap2) hba2
  have HA3:Hid (StAt Ts col (w2.setCell ⟨ba,3,none⟩ (.slice A2 (stay s.bufs a.left).length cap2)) b bd N x { s with asks:=s.asks.set c (some { a with left:=stay s.bufs a.left }) }):=show StAt .. from
   H1.out.askd hc ((HC2.out.mono HFa.out).setCell (.inl Hfa.out) _) ⟨ba,_,Hv.out,Hfa.out,hba3,(How2.out.keep (fun k hk hl=>heap_setCell_other _ _ _ _ (fun e=>HFb.out (by subst e; exact hk)))).mono HFa.out⟩
  have HB3:Hid ((w2.setCell ⟨ba,3,none⟩ (.slice A2 (stay s.bufs a.left).length cap2)).heap[B]?=some (.cells #[.pointer (some ⟨b,0,none⟩)] 86 (0,0))):=show _=_ from
   (((HC2.out.mono HFa.out).setCell (.inl Hfa.out) _).block B (Array.getElem?_eq_some_iff.1 HB.out).1 (fun hf=>by have h2:col B=5+c:=hf; rw [Hbox.out] at h2; omega)).trans HB.out
  have HC3:Hid (Chg (Fl col) w (w2.setCell ⟨ba,3,none⟩ (.slice A2 (stay s.bufs a.left).length cap2))):=show Chg .. from (Chg.of_below Hb1.out).two (((HC2.out.mono HFa.out).setCell (.inl Hfa.out) _).mono (Fl.of_a hc));have kB:w2.cell? ⟨B,0,none⟩=some (.pointer (some ⟨b,0,none⟩)):=cell_of_row _ _ 0 _ _ _ ((hc2.block B (Array.getElem?_eq_some_iff.1 HB.out).1 (fun hf=>by have h2:col B=5+c:=HFa.out B hf; rw [Hbox.out] at h2; omega)).trans HB.out);have kb:w2.cell? ⟨b,0,none⟩=some (.pointer (some ⟨bd,0,none⟩)):=(World.cell?_of_block (hc2.block b H1.out.bl (fun hf=>by have h2:col b=5+c:=HFa.out b hf; rw [H1.out.cb] at h2; omega))).trans (H1.out.cell 0);clear how2 hc2 hba2 hba3;have Hst:Hid (a.left.filter (St.still s.bufs)=stay s.bufs a.left):=show _=_ from rfl;by_cases hl:stay s.bufs a.left=[]
  ·have Hl:=Lib.hid hl
   have hln:(stay s.bufs a.left).length=0:=by rw [hl]; rfl
   have Hsr:Hid (s.sync c a=({ s with v:={ s.v with d:=s.v.d.flush } }:St).answer c noB 0):=show _=_ by unfold St.sync; rw [Hdd.out,if_neg (by decide),Hst.out,if_pos hl]
   rw [hln] at HA3 HB3 HC3 ⊢;clear hl hln;go_wp2_with fail;clear f3 k3 kB kb;generalize World.setCell _ _ _=w3 at HA3 HB3 HC3 ⊢;refine (devflush_any (Im w3 col) (Fd col) w3 bd s.v.d HA3.out.drv.dev StAt.imfd).mono ?_;rintro e w4 ⟨rfl,hd4,hc4,_⟩;have HC4:=Lib.hid hc4;have H4:=Lib.hid (HA3.out.devd hd4 hc4);have kB4:w4.cell? ⟨B,0,none⟩=some (.pointer (some ⟨b,0,none⟩)):=cell_of_row _ _ 0 _ _ _ ((hc4.block B (Array.getElem?_eq_some_iff.1 HB3.out).1 (fun hf=>by have h2:col B=4:=hf; rw [Hbox.out] at h2; omega)).trans HB3.out);clear hd4 hc4;go_wp2_with fail;refine (answer_any col w4 b bd N _ _ c noB 0 H4.out hc).mono ?_;rintro e w5 ⟨rfl,hS5,hst5⟩;have HS5:=Lib.hid hS5;have Hst5:=Lib.hid hst5;clear hS5 hst5;go_wp2_with fail;go_end0;rw [Hsr.out]
   have e5:({ { s with asks:=s.asks.set c (some { a with left:=stay s.bufs a.left }) } with v:={ s.v with d:=s.v.d.flush } }:St).answer c noB 0=({ s with v:={ s.v with d:=s.v.d.flush } }:St).answer c noB 0:=by
    unfold St.answer;simp only [List.set_set]
   exact ⟨_,rfl,e5▸Hst5.out,(HC3.out.two (HC4.out.mono Fl.of_d)).two (H0.out.chg1 (HS5.out.chg (F:=fun k=>k=b) rfl)),Avs.ans .refl H0.out.asks hc⟩
  ·have Hsr:Hid (s.sync c a={ s with asks:=s.asks.set c (some { a with left:=stay s.bufs a.left }) }):=show _=_ by unfold St.sync; rw [Hdd.out,if_neg (by decide),Hst.out,if_neg hl]
   have hln:(((stay s.bufs a.left).length:Nat) == 0)=false:=by simpa using hl
   clear hl;go_wp2_with fail;go_end0;rw [Hsr.out];exact ⟨_,rfl,HA3.out,HC3.out,.refl⟩
end Go.Proofs.YtagndjihiklmiaaGreatDoor
namespace Go.Proofs.YtagndjihiklmiaaGreatDoor
namespace St
def again (s:St) (k:Nat) (r:Rq):St:={ s with v:=⟨{ s.v.d with l:=s.v.d.l.eraseIdx k ++ [r] },upd s.v.tries (tagOf r) (s.v.tries (tagOf r)+1)⟩ }
def gone (s:St) (k:Nat) (r:Rq):St:={ s with v:=⟨s.v.d.drop k,upd s.v.tries (tagOf r) 0⟩ }
def did (s:St) (k:Nat) (r:Rq):St:={ s with v:=⟨(s.v.d.ended r k false).1,upd s.v.tries (tagOf r) 0⟩ }
def outs (s:St) (r:Rq):List ByteArray:=if r.write then r.data else s.v.d.reads r.lo.toNat r.many.toNat
theorem end_none (s:St) {i:Int} (f:Bool) (h:i<0∨(s.v.d.l.length:Int)≤i):s.end_ i f=(s,5):=by
 unfold St.end_;rw [drvEndAt_none _ _ _ h];rfl
theorem start_again {d:Dv} {k:Nat} {r:Rq} (h:d.l[k]?=some r) (h2:d.l.length≤2):((d.drop k).start r).1={ d with l:=d.l.eraseIdx k ++ [r] }:=by
 have hk:=(List.getElem?_eq_some_iff.1 h).1;have:(d.drop k).l.length≤1:=by unfold Dv.drop; rw [List.length_eraseIdx]; split <;> omega
 unfold Dv.start;rw [if_neg (by omega)];rfl
theorem end_again {s:St} {k:Nat} {r:Rq} (h:s.v.d.l[k]?=some r) (h2:s.v.d.l.length≤2) (h3:s.v.tries (tagOf r)+1<3):s.end_ (k:Int) true=(s.again k r,0):=by
 unfold St.end_;rw [drvEndAt_again _ _ _ h h2 h3];simp only [start_again h h2,if_true];rfl
theorem end_gone {s:St} {k:Nat} {r:Rq} (h:s.v.d.l[k]?=some r) (h3:¬ s.v.tries (tagOf r)+1<3):s.end_ (k:Int) true=(((s.gone k r).wrong r).serve,0):=by
 unfold St.end_;rw [drvEndAt_gone _ _ _ h h3];rfl
theorem ended_res (d:Dv) (r:Rq) (k:Nat):(d.ended r k false).2=⟨r,if r.write then [] else d.reads r.lo.toNat r.many.toNat,0⟩:=by
 unfold Dv.ended;rw [if_neg (by simp)]
 split <;> rfl
theorem end_ok {s:St} {k:Nat} {r:Rq} (h:s.v.d.l[k]?=some r):s.end_ (k:Int) false=(((s.did k r).endedN r.write r.lo (s.outs r) r.many.toNat).serve,0):=by
 unfold St.end_;rw [drvEndAt_ok _ _ _ h];simp only [ended_res];rw [if_neg (by decide),if_neg (by decide)]
 have:(if r.write=true then r.data else if r.write=true then [] else s.v.d.reads r.lo.toNat r.many.toNat)=s.outs r:=by
  unfold outs; split <;> rfl
 rw [this];rfl
inductive Ended (s:St) (i:Int) (f:Bool):St→Nat→Prop
 |none (h:i<0∨(s.v.d.l.length:Int)≤i):Ended s i f s 5
 |again (k:Nat) (r:Rq) (h:s.v.d.l[k]?=some r) (hi:i=(k:Int)) (hf:f=true) (h3:s.v.tries (tagOf r)+1<3):Ended s i f (s.again k r) 0
 |gone (k:Nat) (r:Rq) (h:s.v.d.l[k]?=some r) (hi:i=(k:Int)) (hf:f=true) (h3:¬ s.v.tries (tagOf r)+1<3):Ended s i f ((s.gone k r).wrong r).serve 0
 |ok (k:Nat) (r:Rq) (h:s.v.d.l[k]?=some r) (hi:i=(k:Int)) (hf:f=false):Ended s i f ((s.did k r).endedN r.write r.lo (s.outs r) r.many.toNat).serve 0
theorem ended_of (s:St) (i:Int) (f:Bool) (h2:s.v.d.l.length≤2):Ended s i f (s.end_ i f).1 (s.end_ i f).2:=by
 rcases endAt_split s.v.d i with hi | ⟨k,r,rfl,hk⟩
 ·rw [end_none s f hi]; exact .none hi
 ·cases f with
  |true =>
   by_cases h3:s.v.tries (tagOf r)+1<3
   ·rw [end_again hk h2 h3]; exact .again k r hk rfl rfl h3
   ·rw [end_gone hk h3]; exact .gone k r hk rfl rfl h3
  |false=>rw [end_ok hk]; exact .ok k r hk rfl rfl
end St
structure Keeps (s t:St):Prop where
 wait:t.wait=s.wait
 l:t.v.d.l=s.v.d.l
theorem Keeps.refl (s:St):Keeps s s:=⟨rfl,rfl⟩
theorem Keeps.trans {a b c:St} (h:Keeps a b) (k:Keeps b c):Keeps a c:=⟨k.wait.trans h.wait,k.l.trans h.l⟩
theorem Keeps.answer (s:St) (c:Nat) (d:ByteArray) (e:Nat):Keeps s (s.answer c d e):=⟨rfl,rfl⟩
theorem Keeps.tell1 (p:Int) (d:ByteArray) (s:St) (c:Nat):Keeps s (St.tell1 p d s c):=by
 unfold St.tell1; split
 ·exact .refl s
 ·split
  ·exact .answer ..
  ·exact .refl s
theorem Keeps.tell (s:St) (p:Int) (d:ByteArray):Keeps s (s.tell p d):=((Keeps.tell1 p d s 0).trans (.tell1 p d _ 1)).trans (.tell1 p d _ 2)
theorem Keeps.wrong1 (r:Rq) (s:St) (c:Nat):Keeps s (St.wrong1 r s c):=by
 unfold St.wrong1; split
 ·exact .refl s
 ·split
  ·exact .answer ..
  ·exact .refl s
theorem Keeps.ended1 (s:St) (w:Bool) (p:Int) (d:ByteArray):Keeps s (s.ended1 w p d):=by
 unfold St.ended1; split
 ·exact ⟨rfl,rfl⟩
 ·split
  ·exact .refl s
  ·exact Keeps.trans (b:={ s with use:=s.use+1,bufs:=(putB s.bufs ⟨p,d,false,s.use+1⟩ s.heldP).getD s.bufs }) ⟨rfl,rfl⟩ (.tell ..)
theorem Keeps.endedN (s:St) (w:Bool) (lo:Int) (l:List ByteArray):∀ n,Keeps s (s.endedN w lo l n)
 |0=>.refl s
 |n+1=>(Keeps.endedN s w lo l n).trans (.ended1 ..)
theorem Keeps.held {s t:St} (h:Keeps s t) (p:Int):t.heldP p=s.heldP p:=by unfold St.heldP; rw [h.wait,h.l]
theorem getD_size {l:List ByteArray} {B:Nat} (h:∀ d ∈ l,d.size≤B) (k:Nat):(l.getD k noB).size≤B:=by
 rw [List.getD_eq_getElem?_getD]
 cases hk:l[k]? with
 |none=>exact Nat.zero_le _
 |some d=>exact h d (List.mem_of_getElem? hk)
theorem reads_size {d:Dv} (h:DvOk d) (p n:Nat):∀ s ∈ d.reads p n,s.size≤16:=fun s hs=>h.nowS s (List.mem_of_mem_drop (List.mem_of_mem_take hs))
theorem wrote_l (d:Dv) (p:Nat) (l:List ByteArray):(d.wrote p l).l=d.l:=(Dv.wrote_same l d p).2.1
theorem ended_l (d:Dv) (r:Rq) (k:Nat) (f:Bool):(d.ended r k f).1.l=d.l.eraseIdx k:=by
 unfold Dv.ended
 split
 ·rfl
 ·split
  ·exact wrote_l _ _ _
  ·rfl
theorem mem_er {α:Type} {a:α} {l:List α} {k:Nat} (h:a ∈ l.eraseIdx k):a ∈ l:=List.mem_of_mem_eraseIdx h
theorem pair_er {R:Rq→Rq→Prop} {a b:List Rq} (k:Nat) (h:(a ++ b).Pairwise R):(a ++ b.eraseIdx k).Pairwise R:=h.sublist (List.Sublist.append_left (List.eraseIdx_sublist ..) _)
theorem good_er {a b:List Rq} {k:Nat} (h:goodReqs (a ++ b)=true):goodReqs (a ++ b.eraseIdx k)=true:=by
 rw [good_iff] at h ⊢;exact ⟨fun r hr=>h.1 r ((List.mem_append.1 hr).elim (fun h=>List.mem_append.2 (.inl h)) (fun h=>List.mem_append.2 (.inr (mem_er h)))),pair_er k h.2⟩
theorem InW.er {a b:List Rq} {k:Nat} {p:Int} {e:ByteArray} (h:InW (a ++ b.eraseIdx k) p e):InW (a ++ b) p e:=by
 obtain ⟨r,hr,hx⟩:=h;exact ⟨r,(List.mem_append.1 hr).elim (fun h=>List.mem_append.2 (.inl h)) (fun h=>List.mem_append.2 (.inr (mem_er h))),hx⟩
theorem apart_rest {a b:List Rq} {k:Nat} {r:Rq} (h:goodReqs (a ++ b)=true) (hk:b[k]?=some r):∀ y ∈ a ++ b.eraseIdx k,Apart y r:=by
 intro y hy;have hr:=List.mem_of_getElem? hk;rcases List.mem_append.1 hy with h1 | h1
 ·exact (good_app.1 h).2.2 y h1 r hr
 ·obtain ⟨hg1,hg2,_⟩:=good_app.1 h
  obtain ⟨j,hj⟩:=List.mem_iff_getElem?.1 h1;rw [List.getElem?_eraseIdx] at hj
  split at hj
  ·exact good_two hg2 (by omega) hj hk
  ·exact (good_two hg2 (by omega) hk hj).symm
theorem not_held {a b:List Rq} {k:Nat} {r:Rq} (h:goodReqs (a ++ b)=true) (hk:b[k]?=some r) {p:Int} (hp:hasB r.lo r.many p=true):heldL' (a ++ b.eraseIdx k) p=false:=by
 have hg:=good_er (k:=k) h;have hr:=good_oks h r (List.mem_append.2 (.inr (List.mem_of_getElem? hk)));rw [Bool.eq_false_iff];intro hh;obtain ⟨y,hy,hyp⟩:=held_iff.1 hh;exact (apart_iff (good_oks hg y hy) hr).1 (apart_rest h hk y hy) p ⟨hyp,hp⟩
namespace Inv
variable {s:St}
theorem upd_ok (h:Inv s) (j:Int) {n:Int} (hn:0≤n∧n≤2):∀ i,0≤upd s.v.tries j n i∧upd s.v.tries j n i≤2:=fun i=>by
 unfold upd
 split
 ·exact hn
 ·exact h.tries i
theorem again (h:Inv s) {k:Nat} {r:Rq} (hk:s.v.d.l[k]?=some r) (h3:s.v.tries (tagOf r)+1<3):Inv (s.again k r):=by
 have hrl:=List.mem_of_getElem? hk;have hp:(s.v.d.l.eraseIdx k ++ [r]).Perm s.v.d.l:=(perm_back hk).symm;have hpp:(s.wait ++ (s.v.d.l.eraseIdx k ++ [r])).Perm (s.wait ++ s.v.d.l):=List.Perm.append_left _ hp
 exact { h with
  dv:=⟨h.dv.kept,h.dv.now,h.dv.keptS,h.dv.nowS,h.dv.waits,fun y hy=>h.dv.l y (hp.mem_iff.1 hy),by
   show (s.v.d.l.eraseIdx k ++ [r]).length≤2
   rw [hp.length_eq]; exact h.dv.two⟩
  tries:=h.upd_ok _ (by have:=h.tries (tagOf r); omega)
  good:=good_perm hpp.symm h.good
  hand:=fun p e hi=>h.hand p e ((InW.perm hpp).1 hi) }
theorem gone (h:Inv s) {k:Nat} {r:Rq} (hk:s.v.d.l[k]?=some r):Inv (s.gone k r) :=
 { h with
  dv:=h.dv.drop k
  tries:=h.upd_ok _ (by omega)
  good:=good_er h.good
  hand:=fun p e hi=>h.hand p e (InW.er hi) }
theorem did (h:Inv s) {k:Nat} {r:Rq} (hk:s.v.d.l[k]?=some r):Inv (s.did k r):=by
 have hr:=reqF_zero (h.dv.l r (List.mem_of_getElem? hk))
 exact { h with
  dv:=(h.dv.ended hr k false).1
  tries:=h.upd_ok _ (by omega)
  good:=by show goodReqs (s.wait ++ (s.v.d.ended r k false).1.l)=true; rw [ended_l]; exact good_er h.good
  hand:=fun p e hi=>h.hand p e (by
   have hi':InW (s.wait ++ (s.v.d.ended r k false).1.l) p e:=hi
   rw [ended_l] at hi'; exact InW.er hi') }
theorem outs_size (h:Inv s) {k:Nat} {r:Rq} (hk:s.v.d.l[k]?=some r):∀ d ∈ s.outs r,d.size≤16:=by
 have hr:=reqF_zero (h.dv.l r (List.mem_of_getElem? hk));unfold St.outs
 split
 ·exact fun d hd=>Nat.le_trans (hr.size d hd) (by omega)
 ·exact reads_size h.dv _ _
theorem did_free (h:Inv s) {k:Nat} {r:Rq} (hk:s.v.d.l[k]?=some r) {p:Int} (hp:hasB r.lo r.many p=true):(s.did k r).heldP p=false:=by
 rw [heldP_eq];show heldL' (s.wait ++ (s.v.d.ended r k false).1.l) p=false;rw [ended_l]; exact not_held h.good hk hp
theorem endedN (h:Inv s) {k:Nat} {r:Rq} (hk:s.v.d.l[k]?=some r):∀ n,n≤r.many.toNat→Inv ((s.did k r).endedN r.write r.lo (s.outs r) n)
 |0,_=>h.did hk
 |n+1,hn=>by
  have hr:=reqF_zero (h.dv.l r (List.mem_of_getElem? hk));obtain ⟨a1,a2,a3,a4,a5⟩:=hr.span;refine (Inv.endedN h hk n (by omega)).ended1 (by omega) (getD_size (h.outs_size hk) n) (fun _=>?_);rw [(Keeps.endedN _ _ _ _ n).held];exact h.did_free hk (by rw [hasB_iff]; omega)
theorem ended (h:Inv s) {i:Int} {f:Bool} {t:St} {e:Nat} (hE:St.Ended s i f t e):Inv t:=by
 cases hE with
 |none _=>exact h
 |again k r hk _ _ h3=>exact h.again hk h3
 |gone k r hk _ _ _=>exact ((h.gone hk).wrong r).serve
 |ok k r hk _ _=>exact (h.endedN hk _ (Nat.le_refl _)).serve
theorem end_ (h:Inv s) (i:Int) (f:Bool):Inv (s.end_ i f).1:=h.ended (St.ended_of s i f h.dv.two)
theorem round (h:Inv s):Inv s.round:=h.tick.clean.go.end_ 0 false
theorem settle:∀ {n:Nat} {s:St},Inv s→Inv (St.settle n s).1
 |0,_,h=>h
 |n+1,s,h=>by
  unfold St.settle
  split
  ·exact h
  ·exact Inv.settle h.round
end Inv
structure Bd (K:Int) (s:St):Prop where
 use:s.use≤K
 tag:s.tag≤K
 waits:(s.v.d.waits.length:Int)≤K
namespace Bd
variable {K:Int} {s:St}
theorem mono {L:Int} (h:Bd K s) (hl:K≤L):Bd L s:=⟨Int.le_trans h.use hl,Int.le_trans h.tag hl,Int.le_trans h.waits hl⟩
theorem answer (h:Bd K s) (c:Nat) (d:ByteArray) (e:Nat):Bd K (s.answer c d e):=⟨h.use,h.tag,h.waits⟩
theorem queue (h:Bd K s) (w:Bool) (p:Int) (d:ByteArray):Bd (K+1) (s.queue w p d).1:=by
 unfold St.queue
 split
 ·exact ⟨by have:=h.use; show s.use≤_; omega,by have:=h.tag; show s.tag+1≤_; omega,by have:=h.waits; show (s.v.d.waits.length:Int)≤_; omega⟩
 ·exact h.mono (by omega)
theorem useN (h:Bd K s) (m:List Bf):Bd (K+1) { s with use:=s.use+1,bufs:=m }:=⟨by have:=h.use; show s.use+1≤_; omega,by have:=h.tag; show s.tag≤_; omega,by have:=h.waits; show (s.v.d.waits.length:Int)≤_; omega⟩
theorem read (h:Bd K s) (c:Nat) (a:Ak):Bd (K+1) (s.read c a):=by
 unfold St.read
 split
 ·exact (h.useN _).answer _ _ _
 ·split
  ·exact h.mono (by omega)
  ·exact h.queue _ _ _
theorem write (h:Bd K s) (c:Nat) (a:Ak):Bd (K+1) (s.write c a):=by
 unfold St.write
 split
 ·exact (h.answer _ _ _).mono (by omega)
 ·split
  ·exact h.mono (by omega)
  ·split
   ·exact (h.useN _).answer _ _ _
   ·exact h.useN s.bufs
theorem sync (h:Bd K s) (c:Nat) (a:Ak) (h0:0≤K):Bd K (s.sync c a):=by
 unfold St.sync
 split
 ·exact h.answer _ _ _
 ·split
  ·exact ⟨h.use,h.tag,by show ((0:Nat):Int)≤K; omega⟩
  ·exact ⟨h.use,h.tag,h.waits⟩
theorem serve1 (h:Bd K s) (c:Nat) (h0:0≤K):Bd (K+1) (s.serve1 c):=by
 unfold St.serve1
 split
 ·exact h.mono (by omega)
 ·split
  ·exact h.read _ _
  ·split
   ·exact h.write _ _
   ·split
    ·exact (h.sync _ _ h0).mono (by omega)
    ·exact h.mono (by omega)
theorem serve (h:Bd K s) (h0:0≤K):Bd (K+3) s.serve:=(((h.serve1 0 h0).serve1 1 (by omega)).serve1 2 (by omega)).mono (by omega)
theorem ask (h:Bd K s) (h0:0≤K) (client kind p:Int) (d:ByteArray):Bd (K+3) (s.ask client kind p d).1:=by
 unfold St.ask
 split
 ·exact h.mono (by omega)
 ·split
  ·exact h.mono (by omega)
  ·split
   ·exact h.mono (by omega)
   ·exact Bd.serve (s:={ s with asks:=s.asks.set client.toNat _ }) ⟨h.use,h.tag,h.waits⟩ h0
theorem tick (h:Bd K s) (h0:0≤K):Bd (K+3) s.tick:=Bd.serve (s:={ s with now:=min (s.now+1) 1000000000 }) ⟨h.use,h.tag,h.waits⟩ h0
theorem clean (h:Bd K s):Bd (K+1) s.clean.1:=by
 unfold St.clean
 split
 ·exact h.mono (by omega)
 ·split
  ·exact h.mono (by omega)
  ·exact h.queue _ _ _
theorem dispatch (h:Bd K s):Bd K s.dispatch.1:=by
 unfold St.dispatch
 split
 ·exact h
 ·exact ⟨h.use,h.tag,by show ((s.v.d.start _).1.waits.length:Int)≤K; rw [start_waits]; exact h.waits⟩
theorem tell1 (h:Bd K s) (p:Int) (d:ByteArray) (c:Nat):Bd K (St.tell1 p d s c):=by
 unfold St.tell1
 split
 ·exact h
 ·split
  ·exact h.answer ..
  ·exact h
theorem tell (h:Bd K s) (p:Int) (d:ByteArray):Bd K (s.tell p d):=((h.tell1 p d 0).tell1 p d 1).tell1 p d 2
theorem wrong1 (h:Bd K s) (r:Rq) (c:Nat):Bd K (St.wrong1 r s c):=by
 unfold St.wrong1
 split
 ·exact h
 ·split
  ·exact h.answer ..
  ·exact h
theorem wrong (h:Bd K s) (r:Rq):Bd K (s.wrong r):=(((Bd.mk (s:={ s with dead:=s.dead || r.write }) h.use h.tag h.waits).wrong1 r 0).wrong1 r 1).wrong1 r 2
theorem ended1 (h:Bd K s) (w:Bool) (p:Int) (d:ByteArray):Bd (K+1) (s.ended1 w p d):=by
 unfold St.ended1
 split
 ·exact ⟨by have:=h.use; show s.use≤_; omega,by have:=h.tag; show s.tag≤_; omega,by have:=h.waits; show (s.v.d.waits.length:Int)≤_; omega⟩
 ·split
  ·exact h.mono (by omega)
  ·exact (h.useN _).tell _ _
theorem endedN (h:Bd K s) (w:Bool) (lo:Int) (l:List ByteArray):∀ n:Nat,Bd (K+n) (s.endedN w lo l n)
 |0=>h.mono (by omega)
 |n+1=>((Bd.endedN h w lo l n).ended1 _ _ _).mono (by omega)
theorem ended (h:Bd K s) (h0:0≤K) (hI:Inv s) {i:Int} {f:Bool} {t:St} {e:Nat} (hE:St.Ended s i f t e):Bd (K+11) t:=by
 cases hE with
 |none _=>exact h.mono (by omega)
 |again k r hk _ _ h3=>exact (Bd.mk (s:=s.again k r) h.use h.tag h.waits).mono (by omega)
 |gone k r hk _ _ _=>exact ((Bd.wrong (s:=s.gone k r) ⟨h.use,h.tag,h.waits⟩ r).serve h0).mono (by omega)
 |ok k r hk _ _ =>
  have hr:=reqF_zero (hI.dv.l r (List.mem_of_getElem? hk));obtain ⟨a1,a2,a3,a4,a5⟩:=hr.span;have h1:=(hI.dv.ended hr k false).2
  have h2:Bd (K+4) (s.did k r):=⟨by have:=h.use; show s.use≤_; omega,by have:=h.tag; show s.tag≤_; omega,by have:=h.waits; show ((s.v.d.ended r k false).1.waits.length:Int)≤_; omega⟩
  exact ((h2.endedN r.write r.lo (s.outs r) r.many.toNat).serve (by omega)).mono (by omega)
theorem end_ (h:Bd K s) (h0:0≤K) (hI:Inv s) (i:Int) (f:Bool):Bd (K+11) (s.end_ i f).1:=h.ended h0 hI (St.ended_of s i f hI.dv.two)
theorem round (h:Bd K s) (h0:0≤K) (hI:Inv s):Bd (K+15) s.round:=((((h.tick h0).clean).dispatch.dispatch).end_ (by omega) hI.tick.clean.go 0 false).mono (by omega)
theorem settle:∀ {n:Nat} {K:Int} {s:St},Bd K s→0≤K→Inv s→Bd (K+15 * n) (St.settle n s).1
 |0,K,s,h,_,_=>h.mono (by omega)
 |n+1,K,s,h,h0,hI=>by
  unfold St.settle
  split
  ·exact h.mono (by omega)
  ·exact (Bd.settle (h.round h0 hI) (by omega) hI.round).mono (by omega)
end Bd
theorem ans_ne {s:St} {c j:Nat} (h:j≠c) (d:ByteArray) (e:Nat):(s.answer c d e).askAt j=s.askAt j:=by
 unfold St.askAt St.answer;simp only [List.getD_eq_getElem?_getD];rw [List.getElem?_set_ne (Ne.symm h)]
theorem read_ne (s:St) {c j:Nat} (hj:j≠c) (a:Ak):(s.read c a).askAt j=s.askAt j:=by
 unfold St.read
 split
 ·exact ans_ne hj _ _
 ·split
  ·rfl
  ·unfold St.queue; split <;> rfl
theorem write_ne (s:St) {c j:Nat} (hj:j≠c) (a:Ak):(s.write c a).askAt j=s.askAt j:=by
 unfold St.write
 split
 ·exact ans_ne hj _ _
 ·split
  ·rfl
  ·split
   ·exact ans_ne hj _ _
   ·rfl
theorem set_ne {l:List (Option Ak)} {c j:Nat} (hj:j≠c) (o:Option Ak):(l.set c o).getD j none=l.getD j none:=by
 simp only [List.getD_eq_getElem?_getD];rw [List.getElem?_set_ne (Ne.symm hj)]
theorem sync_ne (s:St) {c j:Nat} (hj:j≠c) (a:Ak):(s.sync c a).askAt j=s.askAt j:=by
 unfold St.sync
 split
 ·exact ans_ne hj _ _
 ·split
  ·exact ans_ne hj _ _
  ·exact set_ne hj _
theorem serve1_ne (s:St) {c j:Nat} (hj:j≠c):(s.serve1 c).askAt j=s.askAt j:=by
 unfold St.serve1
 split
 ·rfl
 ·split
  ·exact read_ne s hj _
  ·split
   ·exact write_ne s hj _
   ·split
    ·exact sync_ne s hj _
    ·rfl
theorem serve1_none {s:St} {c:Nat} (h:s.askAt c=none):s.serve1 c=s:=by unfold St.serve1; rw [h]
theorem serve1_nn (s:St) (c:Nat) {j:Nat} (h:s.askAt j=none):(s.serve1 c).askAt j=none:=by
 by_cases hj:j=c
 ·subst hj; rw [serve1_none h]; exact h
 ·rw [serve1_ne s hj]; exact h
def serveN (s:St):Nat→St
 |0=>s
 |n+1=>(serveN s n).serve1 n
theorem serveN_3 (s:St):serveN s 3=s.serve:=rfl
theorem serveN_ge (s:St):∀ (n j:Nat),n≤j→(serveN s n).askAt j=s.askAt j
 |0,_,_=>rfl
 |n+1,j,h=>by rw [serveN,serve1_ne _ (by omega),serveN_ge s n j (by omega)]
theorem serveN_nn (s:St):∀ (n j:Nat),s.askAt j=none→(serveN s n).askAt j=none
 |0,_,h=>h
 |n+1,j,h=>by rw [serveN]; exact serve1_nn _ _ (serveN_nn s n j h)
theorem Inv.serveN {s:St} (h:Inv s):∀ n,Inv (Go.Proofs.YtagndjihiklmiaaGreatDoor.serveN s n)
 |0=>h
 |n+1=>(Inv.serveN h n).serve1 n
theorem Bd.serveN {K:Int} {s:St} (h:Bd K s) (h0:0≤K):∀ n:Nat,Bd (K+n) (Go.Proofs.YtagndjihiklmiaaGreatDoor.serveN s n)
 |0=>h.mono (by omega)
 |n+1=>((Bd.serveN h h0 n).serve1 n (by omega)).mono (by omega)
theorem tell1_none {s:St} {c:Nat} {p:Int} {d:ByteArray} (h:s.askAt c=none):St.tell1 p d s c=s:=by unfold St.tell1; rw [h]
theorem wrong1_none {s:St} {c:Nat} {r:Rq} (h:s.askAt c=none):St.wrong1 r s c=s:=by unfold St.wrong1; rw [h]
theorem tell1_ne (s:St) {c j:Nat} (hj:j≠c) (p:Int) (d:ByteArray):(St.tell1 p d s c).askAt j=s.askAt j:=by
 unfold St.tell1; split
 ·rfl
 ·split
  ·exact ans_ne hj _ _
  ·rfl
theorem wrong1_ne (s:St) {c j:Nat} (hj:j≠c) (r:Rq):(St.wrong1 r s c).askAt j=s.askAt j:=by
 unfold St.wrong1; split
 ·rfl
 ·split
  ·exact ans_ne hj _ _
  ·rfl
end Go.Proofs.YtagndjihiklmiaaGreatDoor
