/- The laws StackSays, PumpSays: their walks. -/
import Derived.Test.YtlomdfbnicbceaaGreatM47
set_option linter.unusedSimpArgs false
set_option linter.unusedVariables false
set_option maxRecDepth 100000
set_option maxHeartbeats 8000000
namespace Go.Proofs.YtlomdfbnicbceaaGreat
open Go.RowKit Go.Sort
theorem rzcells:(Tryz.zeroCells36:Array Value)=(devCells Dv.new (.slice none 0 0) (.slice none 0 0)).toArray:=by kernel_rfl
theorem samereqs_self (S:Nat→Prop) (a:List Rq) (va vb:Value) (w:World) (ha:ReqsAt S w va a) (hb:ReqsAt S w vb a):Calls Tryz.prog 37 #[va,vb] w (Ret (.bool true) w) :=
 (sameLB_true.2 rfl:sameLB a a=true)▸samereqs_any S a a va vb w ha hb
theorem asstack_any (W0 w:World) (b bd b2 bd2 N:Nat) (s:St) (h:Pair W0 w b bd b2 bd2 N s s []) (hI:Inv s) :
  Calls Tryz.prog 11 #[.pointer (some ⟨b,0,none⟩),.pointer (some ⟨b2,0,none⟩)] w (fun e w'=>e=.returned (.bool true)∧Pair W0 w' b bd b2 bd2 N s s []):=by
 have HP:=Lib.hid h
 have HI:=Lib.hid hI
 clear h hI
 go_enter Tryz.func11,Tryz.ntmps11
 go_wp2_with fail
 go_loopw [5,6,7,8,9] (fun i _ _ _ _ wr=>∃ c:Nat,c≤3∧i=.int .i64 c∧Hid (Pair W0 wr b bd b2 bd2 N s s [])) (fun i _ _ _ _ _=>3 - (intOf i).toNat)
 case atStart=>exact ⟨0,by omega,rfl,HP.out⟩
 case round =>
  obtain ⟨c,hc,rfl,HR⟩:=hrel
  obtain ⟨c1,c2,x,y,hp⟩:=HR.out
  by_cases h3:c<3
  ·have hk3:(c:Int)<3:=by omega
   have hk0:¬ (c:Int)<0:=by omega
   obtain ⟨p,ep,hn,hq⟩:=hp.st2.ptr c h3
   have cA:wr.cell? ⟨b2,11+c,none⟩=some (.pointer p):=(hp.st2.cellA h3).trans (congrArg some ep)
   have gA:∀ d os,(grow (redrawn wr d) os).cell? ⟨b2,11+c,none⟩=some (.pointer p):=fun _ _=>cell_regrown cA _ _
   have hw:∀ d os,Calls Tryz.prog 33 #[.pointer (some ⟨b,0,none⟩),.int .i64 (c:Int)] (grow (redrawn wr d) os) (RetSame (.bool (s.askAt c).isSome) (grow (redrawn wr d) os)):=fun d os=>waits_any c1 _ b bd N x s c (hp.st1.below (below_regrown wr d os)) h3
   have key:((s.askAt c).isSome=false∧p=none)∨((s.askAt c).isSome=true∧∃ ba:Nat,p=some ⟨ba,0,none⟩):=by
    cases ho:s.askAt c with
    |none=>exact .inl ⟨rfl,hn ho⟩
    |some a=>exact .inr ⟨rfl,hq a ho⟩
   clear hp ep hn hq cA
   rcases key with ⟨e1,rfl⟩ | ⟨e1,ba,rfl⟩
   all_goals
    rw [e1] at hw
    have HW:=Lib.hid hw
    clear e1 hw
    go_wp2_with fail
    refine wp_region_quiet_below mixed (by kernel_rfl) ?_
    repeat (first | go_big_quiet_step ((go_at_call 33; exact Calls.rgSame (HW.out _ _))) | quiet_step ((go_at_call 33; exact Calls.rgSame (HW.out _ _))))
    refine wpQuiet_nil ?_
    intro _ hw'
    obtain ⟨⟨dq,osq⟩,hw''⟩:=hw'
    subst hw''
    have H4:=Lib.hid (HR.out.below (below_regrown wr dq osq))
    clear gA HW
    generalize grow (redrawn wr dq) osq=w4 at H4 ⊢
    go_wp2_with fail
    refine (H4.out.rd1 (fun c1 x h=>got_any c1 w4 b bd N x s c h h3)).mono ?_
    rintro e w5 ⟨rfl,hp5⟩
    have H5:=Lib.hid hp5
    clear hp5
    go_wp2_with fail
    refine (H5.out.rd2 (fun c1 x h=>rgot_any c1 w5 b2 bd2 N x s c h h3)).mono ?_
    rintro e w6 ⟨rfl,hp6⟩
    have H6:=Lib.hid hp6
    clear hp6
    go_wp2_with fail
    refine (same_any _ _ w6).mono ?_
    rintro e w7 ⟨rfl,rfl⟩
    go_wp2_with fail
    go_roundw
    case rel=>exact ⟨c+1,by omega,by go_num,H6.out⟩
    case measure=>simp [intOf]; omega
  ·obtain rfl:c=3:=by omega
   have hi:((3:Nat):Int)=3:=rfl
   clear h3
   go_wp2_with fail
   obtain ⟨_,hk32,hn32,wv,lv,ds,hrowd,_,hld,hds,hokd⟩:=hp.st2.drv.dev
   have Hld:Hid (ReqsAt (fun _=>True) wr lv s.v.d.l):=show ReqsAt _ _ _ _ from ⟨ds,hds,(show ds.length=s.v.d.l.length by rw [← hds,List.length_map])▸hld.rd.more (fun _ _=>trivial),fun c hc=>(hokd c hc).more (fun _ _=>trivial)⟩
   have c65:wr.cell? ⟨bd2,65,none⟩=some lv:=by rw [cell_of_row _ _ _ _ _ _ hrowd]; simpa using devCells_at_l s.v.d wv _ hk32 hn32
   have H1:=Lib.hid hp.st1
   have H2:=Lib.hid hp.st2
   have K0:wr.drew.cell? ⟨b2,2,none⟩=some y.bufs∧wr.drew.cell? ⟨b2,20,none⟩=some (.bool s.dead)∧wr.drew.cell? ⟨b2,3,none⟩=some y.wait∧wr.drew.cell? ⟨b2,0,none⟩=some (.pointer (some ⟨bd2,0,none⟩))∧wr.drew.cell? ⟨bd2,65,none⟩=some lv:=⟨hp.st2.cell 2,hp.st2.cell 20,hp.st2.cell 3,hp.st2.cell 0,c65⟩
   have HB0:Hid (Below wr.heap.size wr wr.drew):=show Below _ _ _ from (Below.refl _ _).drew
   clear hk32 hn32 hrowd hld hds hokd c65 hp
   go_region_held3 (fun q=>q.cell? ⟨b2,2,none⟩=some y.bufs∧q.cell? ⟨b2,20,none⟩=some (.bool s.dead)∧q.cell? ⟨b2,3,none⟩=some y.wait∧q.cell? ⟨b2,0,none⟩=some (.pointer (some ⟨bd2,0,none⟩))∧q.cell? ⟨bd2,65,none⟩=some lv)
    (first | exact K7 | exact K6 | exact K5 | exact K4 | exact K3 | exact K2 | exact K1 | exact K0)
    (first
     |((with_reducible refine (stdirty_any c1 wr.drew b bd N x s (H1.out.below HB0.out) HI.out.len8).mono ?_); rintro e u1 ⟨rfl,hb⟩; have HB1:=Lib.hid (HB0.out.trans (hb.mono HB0.out.size)); have K1:u1.cell? ⟨b2,2,none⟩=some y.bufs∧u1.cell? ⟨b2,20,none⟩=some (.bool s.dead)∧u1.cell? ⟨b2,3,none⟩=some y.wait∧u1.cell? ⟨b2,0,none⟩=some (.pointer (some ⟨bd2,0,none⟩))∧u1.cell? ⟨bd2,65,none⟩=some lv:=⟨cell_b hb K0.1,cell_b hb K0.2.1,cell_b hb K0.2.2.1,cell_b hb K0.2.2.2.1,cell_b hb K0.2.2.2.2⟩; clear hb)
     |((with_reducible refine (rdirty_any (Im u1 c2) s.bufs y.bufs u1 (H2.out.below HB1.out).bufs (by have:=HI.out.len8; omega)).mono ?_); rintro e u2 ⟨rfl,hb⟩; have HB2:=Lib.hid (HB1.out.trans (hb.mono HB1.out.size)); have K2:u2.cell? ⟨b2,2,none⟩=some y.bufs∧u2.cell? ⟨b2,20,none⟩=some (.bool s.dead)∧u2.cell? ⟨b2,3,none⟩=some y.wait∧u2.cell? ⟨b2,0,none⟩=some (.pointer (some ⟨bd2,0,none⟩))∧u2.cell? ⟨bd2,65,none⟩=some lv:=⟨cell_b hb K1.1,cell_b hb K1.2.1,cell_b hb K1.2.2.1,cell_b hb K1.2.2.2.1,cell_b hb K1.2.2.2.2⟩; clear hb)
     |((with_reducible refine ((dead_any c1 u2 b bd N x s (H1.out.below HB2.out)).mono fun _ _ h=>h.ret).mono ?_); rintro e u3 ⟨rfl,hb⟩; have HB3:=Lib.hid (HB2.out.trans (hb.mono HB2.out.size)); have K3:u3.cell? ⟨b2,2,none⟩=some y.bufs∧u3.cell? ⟨b2,20,none⟩=some (.bool s.dead)∧u3.cell? ⟨b2,3,none⟩=some y.wait∧u3.cell? ⟨b2,0,none⟩=some (.pointer (some ⟨bd2,0,none⟩))∧u3.cell? ⟨bd2,65,none⟩=some lv:=⟨cell_b hb K2.1,cell_b hb K2.2.1,cell_b hb K2.2.2.1,cell_b hb K2.2.2.2.1,cell_b hb K2.2.2.2.2⟩; clear hb)
     |((with_reducible refine (stqueue_any c1 u3 b bd N x s (H1.out.below HB3.out) HI.out.wait6).mono ?_); rintro e u4 ⟨vq,rfl,hq,hb⟩; have HQ:=Lib.hid (hq.more (S':=fun _=>True) (fun _ _=>trivial)); clear hq; have HB4:=Lib.hid (HB3.out.trans (hb.mono HB3.out.size)); have K4:u4.cell? ⟨b2,2,none⟩=some y.bufs∧u4.cell? ⟨b2,20,none⟩=some (.bool s.dead)∧u4.cell? ⟨b2,3,none⟩=some y.wait∧u4.cell? ⟨b2,0,none⟩=some (.pointer (some ⟨bd2,0,none⟩))∧u4.cell? ⟨bd2,65,none⟩=some lv:=⟨cell_b hb K3.1,cell_b hb K3.2.1,cell_b hb K3.2.2.1,cell_b hb K3.2.2.2.1,cell_b hb K3.2.2.2.2⟩; clear hb)
     |((with_reducible refine (samereqs_self (fun _=>True) s.wait vq y.wait u4 HQ.out ((H2.out.below HB4.out).wait.more (fun _ _=>trivial))).mono ?_); rintro e u5 ⟨rfl,hb⟩; have HB5:=Lib.hid (HB4.out.trans (hb.mono HB4.out.size)); have K5:u5.cell? ⟨b2,2,none⟩=some y.bufs∧u5.cell? ⟨b2,20,none⟩=some (.bool s.dead)∧u5.cell? ⟨b2,3,none⟩=some y.wait∧u5.cell? ⟨b2,0,none⟩=some (.pointer (some ⟨bd2,0,none⟩))∧u5.cell? ⟨bd2,65,none⟩=some lv:=⟨cell_b hb K4.1,cell_b hb K4.2.1,cell_b hb K4.2.2.1,cell_b hb K4.2.2.2.1,cell_b hb K4.2.2.2.2⟩; clear hb)
     |((with_reducible refine (stbusy_any c1 u5 b bd N x s (H1.out.below HB5.out) HI.out.dv.two).mono ?_); rintro e u6 ⟨vb,rfl,hq,hb⟩; have HQb:=Lib.hid (hq.more (S':=fun _=>True) (fun _ _=>trivial)); clear hq; have HB6:=Lib.hid (HB5.out.trans (hb.mono HB5.out.size)); have K6:u6.cell? ⟨b2,2,none⟩=some y.bufs∧u6.cell? ⟨b2,20,none⟩=some (.bool s.dead)∧u6.cell? ⟨b2,3,none⟩=some y.wait∧u6.cell? ⟨b2,0,none⟩=some (.pointer (some ⟨bd2,0,none⟩))∧u6.cell? ⟨bd2,65,none⟩=some lv:=⟨cell_b hb K5.1,cell_b hb K5.2.1,cell_b hb K5.2.2.1,cell_b hb K5.2.2.2.1,cell_b hb K5.2.2.2.2⟩; clear hb)
     |((with_reducible refine (samereqs_self (fun _=>True) s.v.d.l vb lv u6 HQb.out (Hld.out.below HB6.out)).mono ?_); rintro e u7 ⟨rfl,hb⟩; have HB7:=Lib.hid (HB6.out.trans (hb.mono HB6.out.size)); have K7:u7.cell? ⟨b2,2,none⟩=some y.bufs∧u7.cell? ⟨b2,20,none⟩=some (.bool s.dead)∧u7.cell? ⟨b2,3,none⟩=some y.wait∧u7.cell? ⟨b2,0,none⟩=some (.pointer (some ⟨bd2,0,none⟩))∧u7.cell? ⟨bd2,65,none⟩=some lv:=⟨cell_b hb K6.1,cell_b hb K6.2.1,cell_b hb K6.2.2.1,cell_b hb K6.2.2.2.1,cell_b hb K6.2.2.2.2⟩; clear hb)
     |fail)
   all_goals
    try go_wp2_with fail
    go_ret
    exact ⟨by simp,HR.out.below HB7.out⟩
theorem stacks_any (w:World):Calls Tryz.prog 5 #[] w (Ret (.bool true) w):=by
 go_enter Tryz.func5,Tryz.ntmps5
 go_wp2_with fail
 refine (devnew_any w).mono ?_
 rintro e w1 ⟨rfl,hd1,hb1,hs1⟩
 go_wp2_with fail
 refine (stnew_any (fun _=>False) (fun k=>k=w.heap.size) w1 w.heap.size Dv.new (hd1 _) (fun k hk=>by omega) (fun k hk=>hk.elim) (fun k hk=>hk.elim)).mono ?_
 rintro e w2 ⟨b,col,y,rfl,hst,hb2,hfl,_⟩
 have H2:=Lib.hid (Lst.begin (Below.refl _ _) (hd1 _) hb1 hs1 hst hb2 hfl)
 clear hd1 hb1 hs1 hst hb2 hfl
 go_wp2_with fail
 refine (ask_any col w2 b _ 0 y st0 0 2 3 wkX 0 H2.out.st H2.out.inv H2.out.bnd (by omega) (by omega)).mono ?_
 rintro e w3 hr
 obtain ⟨rfl,col3,y3,h3⟩:=H2.out.five (t:=wk1) hr (inv0.ask_ ..) (bd0.ask (by omega) ..) (by omega)
 have H3:=Lib.hid h3
 rw [wk_e1]
 clear hr h3
 go_wp2_with fail
 refine (ask_any col3 w3 b _ 0 y3 wk1 1 1 3 noB _ H3.out.st H3.out.inv H3.out.bnd (by omega) (by omega)).mono ?_
 rintro e w4 hr
 obtain ⟨rfl,col4,y4,h4⟩:=H3.out.five (t:=wk2) hr (H3.out.inv.ask_ ..) (H3.out.bnd.ask (by omega) ..) (by omega)
 have H4:=Lib.hid h4
 rw [wk_e2]
 clear hr h4
 go_wp2_with fail
 refine (got_any col4 w4 b _ 0 y4 wk2 1 H4.out.st (by omega)).mono ?_
 rintro e w5 ⟨rfl,hb5⟩
 rw [wk_got]
 have H5:=Lib.hid (H4.out.step hb5)
 clear hb5
 unfold wkX
 go_wp2_with (refine (same_any 0 0 _).mono ?_; rintro e w6 ⟨rfl,rfl⟩)
 refine (stdirty_any col4 w5 b _ 0 y4 wk2 H5.out.st H5.out.inv.len8).mono ?_
 rintro e w6 ⟨rfl,hb6⟩
 rw [wk_dirty]
 have H6:=Lib.hid (H5.out.step hb6)
 clear hb6
 go_wp2_with fail
 go_ret
 exact ⟨rfl,H6.out.below⟩
def pm1:St:=(st0.ask 0 1 3 noB).1
theorem pm_e:(st0.ask 0 1 3 noB).2=0:=by decide
theorem pm_n:(St.settle 5 pm1).2=1:=by rfl
theorem pm_q:(St.settle 5 pm1).1.quiet=true:=by rfl
theorem pumps_any (w:World):Calls Tryz.prog 12 #[] w (Ret (.bool true) w):=by
 go_enter Tryz.func12,Tryz.ntmps12
 go_wp2_with fail
 refine (devnew_any w).mono ?_
 rintro e w1 ⟨rfl,hd1,hb1,hs1⟩
 go_wp2_with fail
 refine (stnew_any (fun _=>False) (fun k=>k=w.heap.size) w1 w.heap.size Dv.new (hd1 _) (fun k hk=>by omega) (fun k hk=>hk.elim) (fun k hk=>hk.elim)).mono ?_
 rintro e w2 ⟨b,col,y,rfl,hst,hb2,hfl,_⟩
 have H2:=Lib.hid (Lst.begin (Below.refl _ _) (hd1 _) hb1 hs1 hst hb2 hfl)
 clear hd1 hb1 hs1 hst hb2 hfl
 go_wp2_with fail
 refine (ask_any col w2 b _ 0 y st0 0 1 3 noB 0 H2.out.st H2.out.inv H2.out.bnd (by omega) (by omega)).mono ?_
 rintro e w3 hr
 obtain ⟨rfl,col3,y3,h3⟩:=H2.out.five (t:=pm1) hr (inv0.ask_ ..) (bd0.ask (by omega) ..) (by omega)
 have H3:=Lib.hid h3
 rw [pm_e]
 clear hr h3
 go_wp2_with fail
 refine (settle_any col3 w3 b _ 0 y3 pm1 _ 5 H3.out.st H3.out.inv H3.out.bnd (by omega) (by omega) (by omega) (by omega)).mono ?_
 rintro e w4 hr
 obtain ⟨rfl,col4,y4,h4⟩:=H3.out.five (t:=(St.settle 5 pm1).1) hr H3.out.inv.settle (H3.out.bnd.settle (by omega) H3.out.inv) (by omega)
 have H4:=Lib.hid h4
 rw [pm_n,pm_q]
 clear hr h4
 go_wp2_with (refine (same_any 0 0 _).mono ?_; rintro e w6 ⟨rfl,rfl⟩)
 refine (quiet_any col4 w4 b _ _ y4 _ H4.out.st H4.out.inv).mono ?_
 rintro e w5 ⟨rfl,hb5⟩
 rw [pm_q]
 have H5:=Lib.hid (H4.out.step hb5)
 clear hb5
 go_wp2_with fail
 go_ret
 exact ⟨rfl,H5.out.below⟩
theorem stacksays_walk (l:List Sp) (v:Value) (w:World) (h:StepsAt (fun _=>True) w v l):Calls Tryz.prog 3 #[v] w (Ret (.bool true) w):=by
 obtain ⟨A,cap,rfl,hcl,hcap⟩:=h.form
 have H:=Lib.hid h.lt
 unfold maxLen at hcap
 clear h
 go_enter Tryz.func3,Tryz.ntmps3
 go_wp2_with fail
 refine (stacks_any w).mono ?_
 rintro e w0 ⟨rfl,hb0⟩
 have HB0:=Lib.hid hb0
 clear hb0
 go_wp2_with fail
 refine (lightsteps_any _ l _ 120 w0 (H.out.below HB0.out) (by omega)).mono ?_
 rintro e w1 ⟨rfl,rfl⟩
 cases hl:lightSp l 120 with
 |false =>
  clear hl
  go_wp2_with fail
  go_ret
  exact ⟨rfl,HB0.out⟩
 |true =>
  have hlen:l.length≤120:=by
   unfold lightSp at hl
   rw [Bool.and_eq_true,decide_eq_true_eq] at hl
   exact hl.1
  clear hl
  go_wp2_with fail
  refine (devnew_any w0).mono ?_
  rintro e w1 ⟨rfl,hd1,hb1,hs1⟩
  go_wp2_with fail
  refine (stnew_any (fun _=>False) (fun k=>k=w0.heap.size) w1 w0.heap.size Dv.new (hd1 _) (fun k hk=>by omega) (fun k hk=>hk.elim) (fun k hk=>hk.elim)).mono ?_
  rintro e w2 ⟨b,c1,x,rfl,hst,hb2,hfl,_⟩
  have Hst:=Lib.hid hst
  have Hb2:=Lib.hid (hb1.trans (hb2.mono hb1.size))
  have Hfl:Hid (∀ k,Fl c1 k→w0.heap.size≤k):=show ∀ k,_→_ from fun k hk=>(hfl k hk).elim (fun e=>by omega) (fun h=>by have:=hb1.size; omega)
  obtain ⟨bd,hbd⟩:∃ n,w0.heap.size=n:=⟨_,rfl⟩
  rw [hbd] at Hst ⊢
  clear hd1 hb1 hs1 hst hb2 hfl hbd
  go_wp2_with fail
  have hd3:∀ S,DevAt TDr TPr S (fun k=>k=w2.heap.size) (w2.alloc (Obj.cells Tryz.zeroCells36 TDr)) w2.heap.size Dv.new:=fun S=>dev_new _ _ _ _ (by rw [← rzcells]; exact heap_alloc_new _ _) rfl
  have hb3:=(Below.refl w2.heap.size w2).alloc (Nat.le_refl _) (Obj.cells Tryz.zeroCells36 TDr)
  have hs3:(w2.alloc (Obj.cells Tryz.zeroCells36 TDr)).heap.size=w2.heap.size+1:=by simp
  have HA:=Lib.hid (And.intro hd3 (And.intro hb3 hs3))
  clear hd3 hb3 hs3
  generalize World.alloc _ _=w3 at HA ⊢
  obtain ⟨bd2,hbd2⟩:∃ n,w2.heap.size=n:=⟨_,rfl⟩
  rw [hbd2] at HA ⊢
  refine (rstnew_any (fun _=>False) (fun k=>k=bd2) w3 bd2 Dv.new (HA.out.1 _) (fun k hk=>by have:=HA.out.2.2; omega) (fun k hk=>hk.elim) (fun k hk=>hk.elim)).mono ?_
  rintro e w4 ⟨b2,c2,y,rfl,hst2,hb4,hfl2,_⟩
  have hP:=Pair.start (W0:=w) Hst.out hst2 rfl ((hbd2▸HA.out.2.1).trans (hb4.mono (by have:=HA.out.2.2; omega))) (HB0.out.trans (Hb2.out.mono HB0.out.size)) (fun k hk=>Nat.le_trans HB0.out.size (Hfl.out k hk)) (fun k hk=>(hfl2 k hk).elim (fun e=>by omega) (fun h=>by have:=HA.out.2.2; omega))
  have HP:=Lib.hid hP
  clear hP hst2 hb4 hfl2 HA hbd2
  go_wp2_with fail
  go_loopw [6,7] (fun i _ wr=>∃ (k:Nat) (t:St),k≤l.length∧i=.int .i64 k∧Hid (Pair w wr b bd b2 bd2 (600 * k) t t [])∧Hid (Inv t)∧Hid (Bd (3100 * (k:Int)) t)) (fun i _ _=>l.length - (intOf i).toNat)
  case atStart=>exact ⟨0,st0,by omega,rfl,HP.out,inv0,bd0⟩
  case round =>
   obtain ⟨k,t,hk,rfl,HT,HI,HBd⟩:=hrel
   by_cases hlt:k<l.length
   ·have hlt2:(k:Int)<(l.length:Int):=by omega
    have hk0:¬ (k:Int)<0:=by omega
    have hk1:(k:Int)<200:=by omega
    have HLT:=Lib.hid hlt
    have hS:=(H.out.more (S':=fun k=>k<w.heap.size) (fun k hk=>hk.2)).below HT.out.base
    obtain ⟨g,off,rfl,_,hgl,hc⟩:=hS.at_ (by omega)
    have hx:l[k]?=some l[k]:=List.getElem?_eq_getElem hlt
    obtain ⟨_,q0,q1,q2,q3⟩:=hc k _ hx
    generalize l[k]=z at *
    clear hc hx hS hlt
    have key:(z.word.toList == [114,111,117,110,100])=true∨((z.word.toList == [114,111,117,110,100])=false∧(z.word.toList == [115,101,116,116,108,101])=true)∨((z.word.toList == [114,111,117,110,100])=false∧(z.word.toList == [115,101,116,116,108,101])=false):=by
     cases (z.word.toList == [114,111,117,110,100]) <;> cases (z.word.toList == [115,101,116,116,108,101]) <;> simp
    rcases key with e1 | ⟨e1,e2⟩ | ⟨e1,e2⟩
    iterate 2
     go_wp2_with fail
     go_roundw
     case rel=>exact ⟨k+1,t,by have:=HLT.out; omega,by go_num,HT.out.moreN (by omega),HI.out,HBd.out.mono (by omega)⟩
     case measure=>simp [intOf]; have:=HLT.out; omega
    go_wp2_with fail
    refine (stepped2_any w wr b bd b2 bd2 (600 * k) t z (3100 * (k:Int)) HT.out HI.out HBd.out (by omega) (by omega) (by omega)).mono ?_
    rintro e w5 ⟨rfl,hp5⟩
    have H5:=Lib.hid hp5
    have HI5:=Lib.hid (HI.out.stepL z)
    have HB5:=Lib.hid (HBd.out.stepL (by omega) HI.out z)
    clear hp5 q0 q1 q2 q3
    go_wp2_with fail
    refine (asstack_any w w5 b bd b2 bd2 (600 * k+600) _ H5.out HI5.out).mono ?_
    rintro e w6 ⟨rfl,hp6⟩
    have H6:=Lib.hid hp6
    clear hp6
    go_wp2_with fail
    go_roundw
    case rel=>exact ⟨k+1,_,by have:=HLT.out; omega,by go_num,H6.out.moreN (by omega),HI5.out,HB5.out.mono (by omega)⟩
    case measure=>simp [intOf]; have:=HLT.out; omega
   ·obtain rfl:k=l.length:=by omega
    have hlt2:¬ (l.length:Int)<(l.length:Int):=by omega
    clear hlt
    go_wp2_with fail
    go_ret
    exact ⟨rfl,HT.out.base⟩
theorem pumpsays_walk (l:List Sp) (v:Value) (w:World) (h:StepsAt (fun _=>True) w v l):Calls Tryz.prog 4 #[v] w (Ret (.bool true) w):=by
 obtain ⟨A,cap,rfl,hcl,hcap⟩:=h.form
 have H:=Lib.hid h.lt
 unfold maxLen at hcap
 clear h
 go_enter Tryz.func4,Tryz.ntmps4
 go_wp2_with fail
 refine (pumps_any w).mono ?_
 rintro e w0 ⟨rfl,hb0⟩
 have HB0:=Lib.hid hb0
 clear hb0
 go_wp2_with fail
 refine (lightsteps_any _ l _ 80 w0 (H.out.below HB0.out) (by omega)).mono ?_
 rintro e w1 ⟨rfl,rfl⟩
 cases hl:lightSp l 80 with
 |false =>
  clear hl
  go_wp2_with fail
  go_ret
  exact ⟨rfl,HB0.out⟩
 |true =>
  have hlen:l.length≤80:=by
   unfold lightSp at hl
   rw [Bool.and_eq_true,decide_eq_true_eq] at hl
   exact hl.1
  clear hl
  go_wp2_with fail
  refine (devnew_any w0).mono ?_
  rintro e w1 ⟨rfl,hd1,hb1,hs1⟩
  go_wp2_with fail
  refine (stnew_any (fun _=>False) (fun k=>k=w0.heap.size) w1 w0.heap.size Dv.new (hd1 _) (fun k hk=>by omega) (fun k hk=>hk.elim) (fun k hk=>hk.elim)).mono ?_
  rintro e w2 ⟨b,c1,x,rfl,hst,hb2,hfl,_⟩
  have Hst:=Lib.hid hst
  have Hb2:=Lib.hid (hb1.trans (hb2.mono hb1.size))
  have Hfl:Hid (∀ k,Fl c1 k→w0.heap.size≤k):=show ∀ k,_→_ from fun k hk=>(hfl k hk).elim (fun e=>by omega) (fun h=>by have:=hb1.size; omega)
  obtain ⟨bd,hbd⟩:∃ n,w0.heap.size=n:=⟨_,rfl⟩
  rw [hbd] at Hst ⊢
  clear hd1 hb1 hs1 hst hb2 hfl hbd
  go_wp2_with fail
  have hd3:∀ S,DevAt TDr TPr S (fun k=>k=w2.heap.size) (w2.alloc (Obj.cells Tryz.zeroCells36 TDr)) w2.heap.size Dv.new:=fun S=>dev_new _ _ _ _ (by rw [← rzcells]; exact heap_alloc_new _ _) rfl
  have hb3:=(Below.refl w2.heap.size w2).alloc (Nat.le_refl _) (Obj.cells Tryz.zeroCells36 TDr)
  have hs3:(w2.alloc (Obj.cells Tryz.zeroCells36 TDr)).heap.size=w2.heap.size+1:=by simp
  have HA:=Lib.hid (And.intro hd3 (And.intro hb3 hs3))
  clear hd3 hb3 hs3
  generalize World.alloc _ _=w3 at HA ⊢
  obtain ⟨bd2,hbd2⟩:∃ n,w2.heap.size=n:=⟨_,rfl⟩
  rw [hbd2] at HA ⊢
  refine (rstnew_any (fun _=>False) (fun k=>k=bd2) w3 bd2 Dv.new (HA.out.1 _) (fun k hk=>by have:=HA.out.2.2; omega) (fun k hk=>hk.elim) (fun k hk=>hk.elim)).mono ?_
  rintro e w4 ⟨b2,c2,y,rfl,hst2,hb4,hfl2,_⟩
  have hP:=Pair.start (W0:=w) Hst.out hst2 rfl ((hbd2▸HA.out.2.1).trans (hb4.mono (by have:=HA.out.2.2; omega))) (HB0.out.trans (Hb2.out.mono HB0.out.size)) (fun k hk=>Nat.le_trans HB0.out.size (Hfl.out k hk)) (fun k hk=>(hfl2 k hk).elim (fun e=>by omega) (fun h=>by have:=HA.out.2.2; omega))
  have HP:=Lib.hid hP
  clear hP hst2 hb4 hfl2 HA hbd2
  go_wp2_with fail
  go_loopw [6,7] (fun i _ wr=>∃ (k:Nat) (t:St),k≤l.length∧i=.int .i64 k∧Hid (Pair w wr b bd b2 bd2 (600 * k) t t [])∧Hid (Inv t)∧Hid (Bd (3100 * (k:Int)) t)) (fun i _ _=>l.length - (intOf i).toNat)
  case atStart=>exact ⟨0,st0,by omega,rfl,HP.out,inv0,bd0⟩
  case round =>
   obtain ⟨k,t,hk,rfl,HT,HI,HBd⟩:=hrel
   by_cases hlt:k<l.length
   ·have hlt2:(k:Int)<(l.length:Int):=by omega
    have hk0:¬ (k:Int)<0:=by omega
    have hk1:(k:Int)<200:=by omega
    have HLT:=Lib.hid hlt
    have hS:=(H.out.more (S':=fun k=>k<w.heap.size) (fun k hk=>hk.2)).below HT.out.base
    obtain ⟨g,off,rfl,_,hgl,hc⟩:=hS.at_ (by omega)
    have hx:l[k]?=some l[k]:=List.getElem?_eq_getElem hlt
    obtain ⟨_,q0,q1,q2,q3⟩:=hc k _ hx
    generalize l[k]=z at *
    clear hc hx hS hlt
    go_wp2_with fail
    refine (stepped2_any w wr b bd b2 bd2 (600 * k) t z (3100 * (k:Int)) HT.out HI.out HBd.out (by omega) (by omega) (by omega)).mono ?_
    rintro e w5 ⟨rfl,hp5⟩
    have H5:=Lib.hid hp5
    have HI5:=Lib.hid (HI.out.stepL z)
    have HB5:=Lib.hid (HBd.out.stepL (by omega) HI.out z)
    clear hp5 q0 q1 q2 q3
    go_wp2_with fail
    refine (asstack_any w w5 b bd b2 bd2 (600 * k+600) _ H5.out HI5.out).mono ?_
    rintro e w6 ⟨rfl,hp6⟩
    have H6:=Lib.hid hp6
    clear hp6
    go_wp2_with fail
    refine (H6.out.rd1 (fun c x h=>quiet_any c w6 b bd _ x _ h HI5.out)).mono ?_
    rintro e w7 ⟨rfl,hp7⟩
    have H7:=Lib.hid hp7
    clear hp7
    go_wp2_with fail
    refine (H7.out.rd2 (fun c x h=>rquiet_any c w7 b2 bd2 _ x _ h)).mono ?_
    rintro e w8 ⟨rfl,hp8⟩
    have H8:=Lib.hid hp8
    clear hp8
    go_wp2_with fail
    go_roundw
    case rel=>exact ⟨k+1,_,by have:=HLT.out; omega,by go_num,H8.out.moreN (by omega),HI5.out,HB5.out.mono (by omega)⟩
    case measure=>simp [intOf]; have:=HLT.out; omega
   ·obtain rfl:k=l.length:=by omega
    have hlt2:¬ (l.length:Int)<(l.length:Int):=by omega
    clear hlt
    go_wp2_with fail
    go_ret
    exact ⟨rfl,HT.out.base⟩
end Go.Proofs.YtlomdfbnicbceaaGreat
