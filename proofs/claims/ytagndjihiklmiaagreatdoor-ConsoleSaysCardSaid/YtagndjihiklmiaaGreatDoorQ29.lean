/- The reference's Added. -/
import Derived.Test.YtagndjihiklmiaaGreatDoorQ28
import Derived.StillTailTactics
set_option linter.unusedSimpArgs false
set_option linter.unusedVariables false
set_option maxRecDepth 100000
set_option maxHeartbeats 8000000
namespace Go.Proofs.YtagndjihiklmiaaGreatDoor
open Go.RowKit Go.Sort
theorem CV.mono {o:Option Rq} {base base':Nat} {v:Value} {w:World} (h:CV o base v w) (hb:base'≤base):CV o base' v w:=by
 cases o with
 |none=>exact h
 |some m=>obtain ⟨hp,p,q,e,h1,h2⟩:=h; exact ⟨hp,p,q,e,own_mono h1 hb,own_mono h2 hb⟩
theorem CV.form {o:Option Rq} {base:Nat} {v:Value} {w:World} (h:CV o base v w):∃ (b:Bool) (lo many:Int) (A:Option Addr) (n c:Nat) (A':Option Addr) (n' c':Nat) (born:Int),v=.agg #[.bool b,.int .i64 lo,.int .i64 many,.slice A n c,.slice A' n' c',.int .i64 born]:=by
 cases o with
 |none=>exact ⟨_,_,_,_,_,_,_,_,_,_,h⟩
 |some m =>
  obtain ⟨hp,p,q,rfl,h1,h2⟩:=h;obtain ⟨A,n,c,rfl,_⟩:=own_slice' h1;obtain ⟨A',n',c',rfl,_⟩:=own_slice' h2;exact ⟨_,_,_,_,_,_,_,_,_,_,rfl⟩
def BoxR (k:Nat) (u:World):Prop:=∃ c0 c1 c2 c3 c4 c5,u.heap[k]?=some (.cells #[c0,c1,c2,c3,c4,c5] 117 (0,0))
def FullR (o:Option Rq) (base k:Nat) (u:World):Prop:=∃ c0 c1 c2 c3 c4 c5,u.heap[k]?=some (.cells #[c0,c1,c2,c3,c4,c5] 117 (0,0))∧CV o base (.agg #[c0,c1,c2,c3,c4,c5]) u
structure AR (o:Option Rq) (base:Nat) (u u':World):Prop where
 size:u.heap.size≤u'.heap.size
 keep:∀ k,k<u.heap.size→u'.heap[k]?=u.heap[k]?∨(base≤k∧BoxR k u∧FullR o base k u')
section
variable {o:Option Rq} {base:Nat} {u u':World} {v:Value}
theorem AR.refl (u:World):AR o base u u:=⟨Nat.le_refl _,fun _ _=>.inl rfl⟩
theorem AR.below (hb:Below u.heap.size u u'):AR o base u u':=⟨hb.size,fun k hk=>.inl (hb.block k hk)⟩
theorem own_typed {e:TypeId} {size n:Nat} {xs:List Value} (h:u.ownsRow base e size v n xs) (he:e≠117) (hr:AR o base u u'):u'.ownsRow base e size v n xs:=by
 have hl:=h.lt;obtain ⟨h1,h2⟩:=h;refine ⟨h1,?_⟩
 rcases h2 with h2 | ⟨g',cap',cur,hv,hb,hh,h3⟩
 ·exact .inl h2
 ·subst hv
  refine .inr ⟨g',cap',cur,rfl,hb,?_,h3⟩
  rcases hr.keep g' (hl g' rfl).2 with h | ⟨_,⟨_,_,_,_,_,_,hx⟩,_⟩
  ·exact h.trans hh
  ·rw [hh] at hx
   injection hx with hx
   injection hx with _ hx
   exact absurd hx he
theorem CV.step (h:CV o base v u) (hr:AR o base u u'):CV o base v u':=by
 cases o with
 |none=>exact h
 |some m=>obtain ⟨hp,p,q,e,h1,h2⟩:=h; exact ⟨hp,p,q,e,own_typed h1 (by decide) hr,own_typed h2 (by decide) hr⟩
theorem FullR.box {k:Nat} (h:FullR o base k u):BoxR k u:=by
 obtain ⟨_,_,_,_,_,_,h,_⟩:=h;exact ⟨_,_,_,_,_,_,h⟩
theorem BoxR.lt {k:Nat} (h:BoxR k u):k<u.heap.size:=by
 obtain ⟨_,_,_,_,_,_,h⟩:=h;rcases Nat.lt_or_ge k u.heap.size with h1 | h1
 ·exact h1
 ·rw [Array.getElem?_eq_none h1] at h; cases h
theorem BoxR.step {k:Nat} (h:BoxR k u) (hr:AR o base u u'):BoxR k u':=by
 rcases hr.keep k h.lt with h1 | ⟨_,_,h2⟩
 ·obtain ⟨_,_,_,_,_,_,h⟩:=h
  exact ⟨_,_,_,_,_,_,h1.trans h⟩
 ·exact h2.box
theorem FullR.step {k:Nat} (h:FullR o base k u) (hr:AR o base u u'):FullR o base k u':=by
 rcases hr.keep k h.box.lt with h1 | ⟨_,_,h2⟩
 ·obtain ⟨_,_,_,_,_,_,h,hc⟩:=h
  exact ⟨_,_,_,_,_,_,h1.trans h,hc.step hr⟩
 ·exact h2
def FMr (o:Option Rq) (base:Nat):SlotFact:=fun v u=>∃ vm,v=.tuple #[vm,.bool o.isSome]∧CV o base vm u
def FBr (base:Nat):SlotFact:=fun v u=>∃ b,v=.pointer (some ⟨b,0,none⟩)∧base≤b∧BoxR b u
def EvA (o:Option Rq) (base:Nat) (k:Nat) (vs:List Value) (u:World):Prop:=k=10→∀ b,vs.head?=some (.pointer (some ⟨b,0,none⟩))→FullR o base b u
theorem FMr.step (h:FMr o base v u) (hr:AR o base u u'):FMr o base v u':=by
 obtain ⟨vm,e,h⟩:=h;exact ⟨vm,e,h.step hr⟩
theorem FBr.step (h:FBr base v u) (hr:AR o base u u'):FBr base v u':=by
 obtain ⟨b,e,h1,h2⟩:=h;exact ⟨b,e,h1,h2.step hr⟩
theorem EvA.step {k:Nat} {vs:List Value} (h:EvA o base k vs u) (hr:AR o base u u'):EvA o base k vs u':=fun hk b hb=>(h hk b hb).step hr
theorem box_put {b:Nat} {wb:Bool} {lo many:Int} {A:Option Addr} {n c:Nat} {A':Option Addr} {n' c':Nat} {born:Int} (hbase:base≤b) (hx:BoxR b u) (hc:CV o base (.agg #[.bool wb,.int .i64 lo,.int .i64 many,.slice A n c,.slice A' n' c',.int .i64 born]) u) (u':World)
  (hu:u'=(((((u.setCell ⟨b,0,none⟩ (.bool wb)).setCell ⟨b,1,none⟩ (.int .i64 lo)).setCell ⟨b,2,none⟩ (.int .i64 many)).setCell ⟨b,3,none⟩ (.slice A n c)).setCell ⟨b,4,none⟩ (.slice A' n' c')).setCell ⟨b,5,none⟩ (.int .i64 born)) :
  AR o base u u'∧FullR o base b u'∧Below base u u':=by
 obtain ⟨z0,z1,z2,z3,z4,z5,hz⟩:=hx;have k0:=heap_setCell_same _ _ 0 _ _ (.bool wb) hz;have k1:=heap_setCell_same _ _ 1 _ _ (.int .i64 lo) k0;have k2:=heap_setCell_same _ _ 2 _ _ (.int .i64 many) k1;have k3:=heap_setCell_same _ _ 3 _ _ (.slice A n c) k2;have k4:=heap_setCell_same _ _ 4 _ _ (.slice A' n' c') k3;have k5:=heap_setCell_same _ _ 5 _ _ (.int .i64 born) k4;rw [← hu] at k5;have hko:=put6_keep u b (.bool wb) (.int .i64 lo) (.int .i64 many) (.slice A n c) (.slice A' n' c') (.int .i64 born);rw [← hu] at hko;have hsz:u'.heap.size=u.heap.size:=by rw [hu]; simp
 have hct:CV o base (.agg #[.bool wb,.int .i64 lo,.int .i64 many,.slice A n c,.slice A' n' c',.int .i64 born]) u':=by
  cases o with
  |none=>exact hc
  |some m =>
   obtain ⟨hp,p,q,e,h1,h2⟩:=hc
   have hne:∀ {e:TypeId} {v:Value} {size n:Nat} {xs:List Value},u.ownsRow base e size v n xs→e≠117→u'.ownsRow base e size v n xs:=by
    intro e v size n xs h he;obtain ⟨h1,h2⟩:=h;refine ⟨h1,?_⟩
    rcases h2 with h2 | ⟨g',cap',cur,hv,hb,hh,h3⟩
    ·exact .inl h2
    ·refine .inr ⟨g',cap',cur,hv,hb,(hko g' (fun e'=>?_)).trans hh,h3⟩
     rw [e',hz] at hh;injection hh with hh
     injection hh with _ hh
     exact he hh.symm
   exact ⟨hp,p,q,e,hne h1 (by decide),hne h2 (by decide)⟩
 have hF:FullR o base b u':=⟨_,_,_,_,_,_,k5,hct⟩
 refine ⟨⟨by omega,fun k _=>?_⟩,hF,?_⟩
 ·by_cases hk:k=b
  ·subst hk; exact .inr ⟨hbase,⟨_,_,_,_,_,_,hz⟩,hF⟩
  ·exact .inl (hko k hk)
 ·rw [hu]
  exact ((((((Below.refl _ _).setCell hbase _).setCell hbase _).setCell hbase _).setCell hbase _).setCell hbase _).setCell hbase _
end
theorem full_at {o:Option Rq} {base:Nat} {u':World} {ρ:Operand→Value} {op:Oper} {T:TypeId} {p q:Tmp} {bb b':Nat} (e1:ρ (.tmp p)=.pointer (some ⟨bb,0,none⟩)) (hb':(argsOf (fun d=>ρ (.tmp d)) op).head?=some (.pointer (some ⟨b',0,none⟩))) (h:op.op=Op.store T (.tmp p) (.tmp q)) (g:FullR o base bb u'):FullR o base b' u':=by
 rw [argsOf_store h] at hb';simp only [List.head?_cons,Option.some.injEq] at hb';rw [e1] at hb';simp only [Value.pointer.injEq,Option.some.injEq,Addr.mk.injEq] at hb';rw [← hb'.1];exact g
def RetRAdd (S:Nat→Prop) (o:List Rq × Nat) (w:World):Ending→World→Prop:=fun E w'=>∃ v,E=.returned (.tuple #[v,.int .i64 o.2])∧ReqsAt S w' v o.1∧Below w.heap.size w w'
theorem radd_any (S:Nat→Prop) (l:List Rq) (r:Rq) (v rv:Value) (w:World) (hS:∀ b,w.heap.size≤b→S b) (h:ReqsAt S w v l) (hr:ReqAt S w rv r) (hl:∀ x ∈ l,ReqOk x) (hn:l.length≤60000) :
  Calls Tryz.prog 105 #[v,rv] w (RetRAdd S (addM l r) w):=by
 obtain ⟨Ad,cd,At,ct,rfl,_,_,_,_,_,_,_⟩:=hr.opened;obtain ⟨A,cap,rfl,_,hcap⟩:=h.form;unfold maxLen at hcap;have HS:=Lib.hid hS;have H:=Lib.hid h;have Hr:=Lib.hid hr;have Hl:=Lib.hid hl;clear h hr hS hl;go_enter Tryz.func105,Tryz.ntmps105;go_wp2_with fail;have L:=(Lay.refl w).alloc' w.heap.size #[Value.bool r.write,Value.int IntKind.i64 r.lo,Value.int IntKind.i64 r.many,Value.slice Ad r.data.length cd,Value.slice At r.tags.length ct,Value.int IntKind.i64 r.born] 117 rfl;generalize World.alloc _ _=W1 at L ⊢;refine (reqfault_any S r _ _ (Hr.out.below L.below)).mono ?_;rintro e w2 ⟨rfl,hb2⟩;have L2:=L.step hb2;clear L hb2;by_cases g1:reqF r=0;rotate_left
 ·have G1:=Lib.hid g1
  have g1':decide (0<reqF r)=true:=by simp; omega
  clear g1;go_wp2;refine bodyPost_ret (v:=.tuple #[.slice none 0 0,.int .i64 (reqF r)]) (by simp [results,Tryz.results105,go_sem]) rfl ?_;rw [addM_bad G1.out];exact ⟨_,rfl,reqs_nil,L2.below⟩
 rw [g1];have G1:=Lib.hid g1;have Gr:=Lib.hid (reqF_zero g1);clear g1;go_wp2_with fail;have HL:=Lib.hid L2;clear L2;go_loopw [7] (fun i wr=>∃ k:Nat,k≤l.length∧i=.int .i64 k∧Below w2.heap.size w2 wr∧Hid ((l.take k).any (meetsR r.lo r.many)=false)) (fun i _=>l.length - (intOf i).toNat)
 case atStart=>exact ⟨0,by omega,rfl,Below.refl _ _,rfl⟩
 case round =>
  obtain ⟨k,hk,rfl,hw,hall⟩:=hrel;by_cases hlt:k<l.length
  ·obtain ⟨b,off,rfl,_,_,hc⟩:=((H.out.below HL.out.below).below hw).at_ (by omega)
   have hx:l[k]?=some l[k]:=List.getElem?_eq_getElem hlt;obtain ⟨_,_,_,_,_,k0,k1,k2,k3,k4,k5⟩:=hc k _ hx;have Hsx:=Lib.hid (Hl.out _ (List.mem_of_getElem? hx)).span;have Hx:=Lib.hid hx;clear hc hx;generalize l[k]=x at *;obtain ⟨c0,c1,c2,c3,c4,c5⟩:=(HL.out.step hw).c6 0 rfl;have k1:=cell_regrown k1;have k2:=cell_regrown k2;have c1:=cell_regrown c1;have c2:=cell_regrown c2;have hk1:(k:Int)<(l.length:Int):=by omega
   clear k0 k3 k4 k5 c0 c3 c4 c5;go_wp2_with fail;refine wp_region_quiet_below mixed (by kernel_rfl) ?_;repeat (quiet_step (first | (go_at_call 142; exact Calls.rg (rmeet_any _ _ _ _ _ (Hsx.out.more (by omega)) (Gr.out.span.more (by omega))))))
   refine wpQuiet_nil ?_;intro _ hw';obtain ⟨⟨dq,osq⟩,hw''⟩:=hw';subst hw'';have hbq:=below_regrown wr dq osq;generalize grow (redrawn wr dq) osq=w8 at hbq ⊢;have hw8:=hw.trans (hbq.mono hw.size);clear k1 k2 c1 c2
   cases hm:meetB x.lo x.many r.lo r.many with
   |true =>
    have Hm:=Lib.hid hm;clear hm;go_wp2;refine bodyPost_ret (v:=.tuple #[.slice none 0 0,.int .i64 6]) (by simp [results,Tryz.results105,go_sem]) rfl ?_;rw [addM_meets G1.out (any_yes _ _ _ _ Hx.out Hm.out)];exact ⟨_,rfl,reqs_nil,HL.out.below.trans (hw8.mono HL.out.size)⟩
   |false =>
    have Hm:=Lib.hid hm;clear hm;go_wp2;go_roundw
    case rel=>exact ⟨k+1,by omega,by go_num,hw8,by show _=false; rw [any_take_succ _ _ _ _ Hx.out,hall.out]; exact Hm.out⟩
    case measure=>simp [intOf]; omega
  ·obtain rfl:k=l.length:=by omega
   have G2:=Lib.hid (any_end _ _ _ (Nat.le_refl _) hall.out);clear hlt hk hall;obtain ⟨i0,hi0,hz0,hz1,hz2⟩:=info_parts reqInfo;obtain ⟨cs,hcs,hrd,hok⟩:=H.out;have hlen:cs.length=l.length:=by rw [← hcs,List.length_map]
   have Hone:=Lib.hid (cells_one hok);have hL3:=HL.out.step hw;have Hrd:=Lib.hid (hrd.below hL3.below);rw [hlen] at Hrd;have Hok:=Lib.hid (fun c hc=>(hok c hc).lt);have Hcs:=Lib.hid hcs;have Hlen:=Lib.hid hlen;clear hrd hok hcs hlen;go_wp2_with (at_builtin; refine wpList_append_rd (S:=S) _ rfl (.const (.slice none 0 0)) (.tmp 33) _ rfl wr.heap.size 117 i0 _ 6 80 Tryz.underlying50 hi0 hz0 hz1 hz2 rfl (by omega) (.slice none 0 0) 0 [] rfl (World.ownsRow_nil _ _ _ _) _ l.length (cs.flatMap Rc.cells) rfl Hrd.out Hone.out (by simp only [maxLen]; omega) (by omega) (by omega) ?_; intro v4 w4 hown4 hg4 hat4);have hB4:Below w.heap.size w w4:=hL3.below.grown hg4 (by have:=hL3.size; omega) (fun k hk=>by simp [Value.ownBlock] at hk);have hb4:Below wr.heap.size wr w4:=(Below.refl _ _).grown hg4 (Nat.le_refl _) (fun k hk=>by simp [Value.ownBlock] at hk);have hL4:=hL3.step hb4;simp only [Nat.zero_add,List.nil_append] at hown4;obtain ⟨A4,cp4,rfl⟩:=own_slice hown4;obtain ⟨hcp1,hcp2⟩:=own_cap hown4;have Hown:=Lib.hid hown4;have HL4:=Lib.hid hL4;have Hbase:=Lib.hid hL3.size;have H34:=Lib.hid hb4.size;have HB4:=Lib.hid hB4;clear hown4 hg4 hat4 hL3 hL4 hB4 hw;clear hb4;go_loopw [10] (fun i wq=>∃ k:Nat,k≤l.length∧i=.int .i64 k∧Below w4.heap.size w4 wq∧Hid (NoMerge l r k)) (fun i _=>l.length - (intOf i).toNat)
   case atStart=>exact ⟨0,by omega,rfl,Below.refl _ _,fun j x h=>by omega⟩
   case round =>
    obtain ⟨k,hk,rfl,hw,hno⟩:=hrel;by_cases hlt:k<l.length
    ·have HR:=Lib.hid ((H.out.lt.below HB4.out).below hw)
     obtain ⟨b,off,rfl,_,hbl,hc⟩:=HR.out.at_ (by omega);have hx:l[k]?=some l[k]:=List.getElem?_eq_getElem hlt;obtain ⟨Xd,xd,Xt,xt,hreq,k0,k1,k2,k3,k4,k5⟩:=hc k _ hx;have Hxr:=Lib.hid hreq;clear hreq;have Gx:=Lib.hid (Hl.out _ (List.mem_of_getElem? hx));have Hx:=Lib.hid hx;clear hc hx;have hkc:k<cs.length:=by have:=Hlen.out; omega
     generalize l[k]=x at *;obtain ⟨g,cp,e,hg1,hg2,_,_⟩:=own_form Hown.out (by omega);injection e with e1 e2 e3
     subst e1 e3;have hLq:=HL4.out.step hw;have HLq:=Lib.hid hLq;obtain ⟨c0,c1,c2,c3,c4,c5⟩:=hLq.c6 0 rfl;have hbl2:=hLq.lt (x:=(w.heap.size,_,_)) (List.mem_cons_self);have hk1:(k:Int)<(l.length:Int):=by omega
     clear hLq;generalize ho:mergeM x r=o at *;have Ho:=Lib.hid ho;clear ho;go_wp2_with fail;refine wp_region_ev mixed [(42,fun v _=>v=.slice (some ⟨b,off,none⟩) l.length cap),(43,fun v _=>v=.int .i64 (k:Int)),(44,fun v _=>v=.pointer (some ⟨b,off+k * 6,none⟩)),(45,fun v _=>v=.agg #[.bool x.write,.int .i64 x.lo,.int .i64 x.many,.slice Xd x.data.length xd,.slice Xt x.tags.length xt,.int .i64 x.born]),(46,fun v _=>v=.agg #[.bool r.write,.int .i64 r.lo,.int .i64 r.many,.slice Ad r.data.length cd,.slice At r.tags.length ct,.int .i64 r.born]),(47,FMr o wr.heap.size),(41,FMr o wr.heap.size),(48,CV o wr.heap.size),(49,fun v _=>v=.bool o.isSome),(11,FBr wr.heap.size),(12,fun v _=>v=.bool o.isSome)] (fun u=>Below wr.heap.size wr u) (AR o wr.heap.size) (EvA o wr.heap.size) (by kernel_rfl) rfl (by decide) (Below.refl _ _).drew ?st (fun k vs u u' h hr=>h.step hr) ?steps ?fin;case st=>exact ⟨fun v u u' h _=>h,fun v u u' h _=>h,fun v u u' h _=>h,fun v u u' h _=>h,fun v u u' h _=>h,fun v u u' h hr=>h.step hr,fun v u u' h hr=>h.step hr,fun v u u' h hr=>h.step hr,fun v u u' h _=>h,fun v u u' h hr=>h.step hr,fun v u u' h _=>h,trivial⟩
     case steps =>
      refine ⟨?_,?_,?_,?_,?_,?_,?_,?_,?_,?_,?_,?_,trivial⟩
      all_goals
       intro ρ u hp hJ hr
       try
        have r1:ρ _=_:=hr.1;try have r2:ρ _=_:=hr.2.1
        clear hr;refine gives_value (v:=_) (w':=u) ?_ ⟨rfl,hJ,AR.refl _,fun h=>absurd h (by decide)⟩;go_simp
        done
      ·have r1:ρ (.tmp 44)=.pointer (some ⟨b,off+k * 6,none⟩):=hr.1
       clear hr;have k0:=cell_below' hJ k0;have k1:=cell_below' hJ k1;have k2:=cell_below' hJ k2;have k3:=cell_below' hJ k3;have k4:=cell_below' hJ k4;have k5:=cell_below' hJ k5;refine gives_value (v:=.agg #[.bool x.write,.int .i64 x.lo,.int .i64 x.many,.slice Xd x.data.length xd,.slice Xt x.tags.length xt,.int .i64 x.born]) (w':=u) ?_ ⟨rfl,hJ,AR.refl _,fun h=>absurd h (by decide)⟩;go_simp
      ·have r1:ρ (.tmp 3)=.pointer (some ⟨w.heap.size,0,none⟩):=hr.1
       clear hr;have c0:=cell_below' hJ c0;have c1:=cell_below' hJ c1;have c2:=cell_below' hJ c2;have c3:=cell_below' hJ c3;have c4:=cell_below' hJ c4;have c5:=cell_below' hJ c5;refine gives_value (v:=.agg #[.bool r.write,.int .i64 r.lo,.int .i64 r.many,.slice Ad r.data.length cd,.slice At r.tags.length ct,.int .i64 r.born]) (w':=u) ?_ ⟨rfl,hJ,AR.refl _,fun h=>absurd h (by decide)⟩;go_simp
      ·have r1:ρ (.tmp 45)=.agg #[.bool x.write,.int .i64 x.lo,.int .i64 x.many,.slice Xd x.data.length xd,.slice Xt x.tags.length xt,.int .i64 x.born]:=hr.1
       have r2:ρ (.tmp 46)=.agg #[.bool r.write,.int .i64 r.lo,.int .i64 r.many,.slice Ad r.data.length cd,.slice At r.tags.length ct,.int .i64 r.born]:=hr.2.1;clear hr;refine gives_enter (f:=143) (args:=#[.agg #[.bool x.write,.int .i64 x.lo,.int .i64 x.many,.slice Xd x.data.length xd,.slice Xt x.tags.length xt,.int .i64 x.born],.agg #[.bool r.write,.int .i64 r.lo,.int .i64 r.many,.slice Ad r.data.length cd,.slice At r.tags.length ct,.int .i64 r.born]]) (w':=u) ?_ ((rmerge_own S x r _ _ _ ((Hxr.out.more (fun b hb=>hb.1)).below hJ) ((Hr.out.below HLq.out.below).below hJ) Gx.out Gr.out).mono ?_)
       ·have hpf:=hp.func 143
        go_simp
       rintro e u' ⟨v,rfl,hcv,hb⟩;rw [Ho.out] at hcv ⊢;exact ⟨_,rfl,⟨_,rfl,hcv.mono hJ.size⟩,hJ.trans (hb.mono hJ.size),AR.below hb,fun h=>absurd h (by decide)⟩
      ·have r1:FMr o wr.heap.size (ρ (.tmp 47)) u:=hr.1
       clear hr;obtain ⟨vm,e,hcv⟩:=r1;refine gives_value (v:=.tuple #[vm,.bool o.isSome]) (w':=u) ?_ ⟨⟨vm,rfl,hcv⟩,hJ,AR.refl _,fun h=>absurd h (by decide)⟩;clear hcv;go_simp
      ·have r1:FMr o wr.heap.size (ρ (.tmp 41)) u:=hr.1
       clear hr;obtain ⟨vm,e,hcv⟩:=r1;refine gives_value (v:=vm) (w':=u) ?_ ⟨hcv,hJ,AR.refl _,fun h=>absurd h (by decide)⟩;clear hcv;go_simp
      ·have r1:FMr o wr.heap.size (ρ (.tmp 41)) u:=hr.1
       clear hr;obtain ⟨vm,e,hcv⟩:=r1;refine gives_value (v:=.bool o.isSome) (w':=u) ?_ ⟨rfl,hJ,AR.refl _,fun h=>absurd h (by decide)⟩;clear hcv;go_simp
      ·clear hr
       refine gives_value (v:=.pointer (some ⟨u.heap.size,0,none⟩)) (w':=u.alloc (.cells #[.bool false,.int .i64 0,.int .i64 0,.slice none 0 0,.slice none 0 0,.int .i64 0] 117)) ?_ ⟨⟨_,rfl,hJ.size,⟨_,_,_,_,_,_,heap_alloc_new _ _⟩⟩,hJ.trans (((Below.refl _ _).alloc (Nat.le_refl _) _).mono hJ.size),AR.below ((Below.refl _ _).alloc (Nat.le_refl _) _),fun h=>absurd h (by decide)⟩;go_simp
      ·have r1:FBr wr.heap.size (ρ (.tmp 11)) u:=hr.1
       have r2:CV o wr.heap.size (ρ (.tmp 48)) u:=hr.2.1;clear hr;obtain ⟨bb,e1,hbb,hbx⟩:=r1;obtain ⟨wb,lo,many,A1,n1,cc1,A2,n2,cc2,born,e2⟩:=r2.form;rw [e2] at r2;obtain ⟨g1,g2,g3⟩:=box_put hbb hbx r2 _ rfl;refine gives_skip (w':=_) ?_ ⟨trivial,hJ.trans g3,g1,fun _ b' hb'=>?_⟩
       ·obtain ⟨z0,z1,z2,z3,z4,z5,hz⟩:=hbx
        have z0:u.cell? ⟨bb,0,none⟩=some _:=cell_of_row _ _ 0 _ _ _ hz;have z1:u.cell? ⟨bb,1,none⟩=some _:=cell_of_row _ _ 1 _ _ _ hz;have z2:u.cell? ⟨bb,2,none⟩=some _:=cell_of_row _ _ 2 _ _ _ hz;have z3:u.cell? ⟨bb,3,none⟩=some _:=cell_of_row _ _ 3 _ _ _ hz;have z4:u.cell? ⟨bb,4,none⟩=some _:=cell_of_row _ _ 4 _ _ _ hz;have z5:u.cell? ⟨bb,5,none⟩=some _:=cell_of_row _ _ 5 _ _ _ hz;have f0:∀ j,u.frozen? ⟨bb,j,none⟩=false:=fun j=>frozen_of_row _ _ j _ _ hz
        clear r2 g1 g2 g3 hz;go_simp
       ·exact full_at e1 hb' rfl g2
     intro f u hF hJ hU hE;have f11:∃ bb,f 11=.pointer (some ⟨bb,0,none⟩)∧wr.heap.size≤bb∧BoxR bb u:=hF.2.2.2.2.2.2.2.2.2.1;have f12:f 12=.bool o.isSome:=hF.2.2.2.2.2.2.2.2.2.2.1;obtain ⟨bb,e11,hbb,_⟩:=f11;have hfull:FullR o wr.heap.size bb u:=hE 10 _ rfl rfl bb (by rw [argsOf_store rfl,e11]; rfl);clear hF hU hE;obtain ⟨z0,z1,z2,z3,z4,z5,hz,hcv⟩:=hfull;obtain ⟨wb,lo,many,A1,n1,cc1,A2,n2,cc2,born,e2⟩:=hcv.form;simp only [Value.agg.injEq,Array.mk.injEq,List.cons.injEq,and_true] at e2;obtain ⟨rfl,rfl,rfl,rfl,rfl,rfl⟩:=e2;have Hcv:=Lib.hid hcv;have Hz:=Lib.hid hz;have HJ:=Lib.hid hJ;have Hbb:=Lib.hid hbb;clear hcv hz hJ hbb k0 k1 k2 k3 k4 k5 c0 c1 c2 c3 c4 c5;simp only [laid]
     cases o with
     |none =>
      simp only [Option.isSome] at *;go_wp2_with fail;go_roundw
      case rel=>exact ⟨k+1,by omega,by go_num,hw.trans (HJ.out.mono hw.size),fun j y hj hy=>by
       rcases Nat.lt_or_ge j k with h | h
       ·exact hno.out j y h hy
       ·obtain rfl:j=k:=by omega
        have h1:=Hx.out;rw [hy] at h1
        cases h1
        exact Ho.out⟩
      case measure=>simp [intOf]; omega
     |some m =>
      simp only [Option.isSome] at *;obtain ⟨hpm,p,q,em,hp1,hp2⟩:=Hcv.out;simp only [Value.agg.injEq,Array.mk.injEq,List.cons.injEq,and_true,Value.bool.injEq,Value.int.injEq,true_and] at em;obtain ⟨rfl,rfl,rfl,rfl,rfl,rfl⟩:=em;have Hp1:=Lib.hid hp1;have Hp2:=Lib.hid hp2;have Hpm:=Lib.hid hpm;have hwu:=hw.trans (HJ.out.mono hw.size);have hownu:=own_keep Hown.out (hwu.block _ hg2);obtain ⟨hgb,hgu,cur,hcur⟩:=own_row hownu;have hfz:∀ j,u.frozen? ⟨g,j,none⟩=false:=fun j=>frozen_of_row _ _ j _ _ hcur
      have hck:cs[k]?=some cs[k]:=List.getElem?_eq_getElem hkc;obtain ⟨_,_,_,_,_,y0,y1,y2,y3,y4,y5⟩:=own_req_at hownu hck ((Hok.out _ (List.mem_of_getElem? hck)).below (HB4.out.trans (hwu.mono HB4.out.size)));have Hownu:=Lib.hid hownu;have Hwu:=Lib.hid hwu;have z0:u.cell? ⟨bb,0,none⟩=some _:=cell_of_row _ _ 0 _ _ _ Hz.out;have z1:u.cell? ⟨bb,1,none⟩=some _:=cell_of_row _ _ 1 _ _ _ Hz.out;have z2:u.cell? ⟨bb,2,none⟩=some _:=cell_of_row _ _ 2 _ _ _ Hz.out;have z3:u.cell? ⟨bb,3,none⟩=some _:=cell_of_row _ _ 3 _ _ _ Hz.out;have z4:u.cell? ⟨bb,4,none⟩=some _:=cell_of_row _ _ 4 _ _ _ Hz.out;have z5:u.cell? ⟨bb,5,none⟩=some _:=cell_of_row _ _ 5 _ _ _ Hz.out;have hwr4:=hw.size;have hgb':=hgb;have hb34:=H34.out;have hbase':=Hbase.out;clear hownu hcur hwu hck hp1 hp2 hpm;go_wp2_with fail;clear y0 y1 y2 y3 y4 y5 z0 z1 z2 z3 z4 z5 hfz;refine bodyPost_ret (v:=.tuple #[.slice (some ⟨g,0,none⟩) l.length cp4,.int .i64 0]) (by simp [results,Tryz.results105,go_sem]) rfl ?_;have hP:=own_put Hownu.out ⟨m,.slice A1 n1 cc1,.slice A2 n2 cc2⟩ hkc Hlen.out;have hPo:=put6_other u g (k * 6) (.bool m.write) (.int .i64 m.lo) (.int .i64 m.many) (.slice A1 n1 cc1) (.slice A2 n2 cc2) (.int .i64 m.born);have hPb:=put6_below u g (k * 6) w.heap.size (.bool m.write) (.int .i64 m.lo) (.int .i64 m.many) (.slice A1 n1 cc1) (.slice A2 n2 cc2) (.int .i64 m.born) (by omega);simp only at hP;generalize World.setCell _ _ _=W7 at hP hPo hPb ⊢;have hB7:Below w.heap.size w W7:=(HB4.out.trans (Hwu.out.mono HB4.out.size)).trans hPb;have hbu:=HJ.out.size;rw [addM_merge G1.out G2.out (mergeIn_at hno.out Hx.out Ho.out)];refine ⟨_,rfl,⟨cs.set k ⟨m,.slice A1 n1 cc1,.slice A2 n2 cc2⟩,?_,?_,?_⟩,hB7⟩
      ·rw [List.map_set,Hcs.out]
      ·rw [List.length_set,Hlen.out]
       exact Rd.of_own _ (fun b hb=>HS.out b (by omega)) hP
      ·intro c' hc'
       rcases List.mem_or_eq_of_mem_set hc' with h | rfl
       ·exact ((Hok.out c' h).below hB7).more (fun b hb=>hb.1)
       ·have hq1:=own_keepL Hp1.out (w':=W7) (fun g' hg' _=>hPo g' (by omega))
        have hq2:=own_keepL Hp2.out (w':=W7) (fun g' hg' _=>hPo g' (by omega));exact ⟨strs_own (fun b hb=>HS.out b (by omega)) hq1 Hpm.out.data,ints_own (fun b hb=>HS.out b (by omega)) hq2 Hpm.out.tags,Hpm.out.lo,Hpm.out.many,Hpm.out.born⟩
    ·obtain rfl:k=l.length:=by omega
     have hnone:=Lib.hid (mergeIn_none hno.out);by_cases h6:6≤l.length
     ·have h6':decide ((6:Int)≤(l.length:Int))=true:=by simp; omega
      go_wp2_with fail;refine bodyPost_ret (v:=.tuple #[.slice none 0 0,.int .i64 7]) (by simp [results,Tryz.results105,go_sem]) rfl ?_;rw [addM_full G1.out G2.out hnone.out h6];exact ⟨_,rfl,reqs_nil,HB4.out.trans (hw.mono HB4.out.size)⟩
     ·have h6':decide ((6:Int)≤(l.length:Int))=false:=by simp; omega
      obtain ⟨c0,c1,c2,c3,c4,c5⟩:=(HL4.out.step hw).c6 0 rfl;have hbr:=(Below.refl wr.heap.size wr).alloc (Nat.le_refl _) (Obj.cells #[Value.bool r.write,Value.int IntKind.i64 r.lo,Value.int IntKind.i64 r.many,Value.slice Ad r.data.length cd,Value.slice At r.tags.length ct,Value.int IntKind.i64 r.born] 117);have hwb:=hw.trans (hbr.mono hw.size);have Hownr:=Lib.hid (own_keepL Hown.out (fun g _ hg=>hwb.block g hg));have Hrow:=Lib.hid (rd_row6 wr r.write r.lo r.many (.slice Ad r.data.length cd) (.slice At r.tags.length ct) r.born 117);have H1:=Lib.hid (one6 r.write r.lo r.many r.born Ad At r.data.length cd r.tags.length ct);clear hbr;go_wp2_with (at_builtin; refine wpList_append_rd (S:=fun _=>True) _ rfl (.tmp 59) (.tmp 61) _ rfl _ 117 i0 _ 6 80 Tryz.underlying50 hi0 hz0 hz1 hz2 rfl (by omega) _ l.length (cs.flatMap Rc.cells) rfl Hownr.out _ 1 _ rfl Hrow.out H1.out (by simp only [maxLen]; omega) (by omega) (by have h1:=hwb.size; have h2:=H34.out; omega) ?_; intro v9 w9 hown9 hg9 hat9);have hB9:Below w.heap.size w w9:=(HB4.out.trans (hwb.mono HB4.out.size)).grown hg9 (by have h1:=hwb.size; have h2:=HB4.out.size; omega) (fun k hk=>by have h1:=(Hownr.out.lt k hk).1; have h2:=Hbase.out; omega);refine bodyPost_ret (v:=.tuple #[v9,.int .i64 0]) (by simp [results,Tryz.results105,go_sem]) rfl ?_;rw [addM_new G1.out G2.out hnone.out h6];refine ⟨_,rfl,⟨cs ++ [⟨r,.slice Ad r.data.length cd,.slice At r.tags.length ct⟩],?_,?_,?_⟩,hB9⟩
      ·rw [List.map_append,Hcs.out]; rfl
      ·rw [List.length_append,Hlen.out,List.flatMap_append]
       have:=Rd.of_own (S:=S) _ (fun b hb=>HS.out b (by have:=Hbase.out; omega)) hown9
       simpa [Rc.cells] using this
      ·intro c' hc'
       rcases List.mem_append.1 hc' with h | h
       ·exact ((Hok.out c' h).below hB9).more (fun b hb=>hb.1)
       ·simp at h
        subst h;exact Hr.out.rc.below hB9
end Go.Proofs.YtagndjihiklmiaaGreatDoor
namespace Go.Proofs.YtagndjihiklmiaaGreatDoor
open Go.RowKit
theorem rqueue_any (col:Nat→Nat) (w:World) (b bd N:Nat) (x:Sv) (s:St) (wb:Bool) (p:Int) (d:ByteArray) (dv:Value) (h:StAt Tr col w b bd N x s) (hi:∀ r ∈ s.wait,ReqOk r) (h6:s.wait.length≤6) (ht:0≤s.tag∧s.tag≤1000000000) (hn:0≤s.now∧s.now≤1000000000) (hp:0≤p∧p≤31) (hd:d.size≤16) (hdv:StrsAt (S0 col) w dv (if wb then [d] else [])) :
  Calls Tryz.prog 61 #[.pointer (some ⟨b,0,none⟩),.agg #[.bool wb,.int .i64 p,.int .i64 1,dv,.slice none 0 0,.int .i64 0]] w (Ret2 Tr col w b bd N x (s.queue wb p d).1 (.bool (s.queue wb p d).2)):=by
 obtain ⟨Ad,cd,hdve,_,_⟩:=hdv.form
 obtain ⟨ds,hds⟩:∃ ds,(if wb then [d] else [])=ds:=⟨_,rfl⟩
 rw [hds] at hdv hdve;subst hdve;have H:=Lib.hid h;have Hi:=Lib.hid hi;have H6:=Lib.hid h6;have Hdv:=Lib.hid hdv;have Hds:=Lib.hid hds;have hb1:∀ o,Below w.heap.size w (w.alloc o):=fun o=>(Below.refl _ _).alloc (Nat.le_refl _) o
 have c8:∀ o o',((w.alloc o).alloc o').cell? ⟨b,8,none⟩=some (.int .i64 s.now):=fun o o'=>cell_b ((hb1 o).alloc (by simp) o') (h.cell 8)
 have c10:∀ o,(w.alloc o).cell? ⟨b,10,none⟩=some (.int .i64 s.tag):=fun o=>cell_b (hb1 o) (h.cell 10)
 have hw:IntKind.i64.wrap (s.tag+1)=s.tag+1:=by rw [IntKind.wrap_i64]; omega
 have hbl:=h.bl;have hne:¬ b=w.heap.size:=by omega
 have Hs0:=Lib.hid h.s0
 obtain ⟨rq,hrq⟩:∃ r,s.reqOf wb p d=r:=⟨_,rfl⟩
 have Hrq:=Lib.hid hrq;clear h hi h6 hrq hdv hds hb1;go_enter Tryz.func61,Tryz.ntmps61;go_wp2_with fail;have L0:=((Lay.refl w).alloc' w.heap.size #[.bool wb,.int .i64 p,.int .i64 1,.slice Ad ds.length cd,.slice (some ⟨w.heap.size+1,0,none⟩) 1 1,.int .i64 s.now] 117 rfl).alloc' (w.heap.size+1) #[.int .i64 (s.tag+1)] 3 (by simp);generalize World.alloc (World.alloc _ _) _=W0 at L0 ⊢;have L:=L0.step (Below.refl _ _).drew;have HB:Hid (Below w.heap.size w W0.drew):=L.below;have hdv2:=Hdv.out.below HB.out;have hq0:=L.at_ 0 rfl;have H3:=Lib.hid (H.out.below HB.out);obtain ⟨q0,q1,q2,q3,q4,q5⟩:=L0.c6 1 rfl;have c3:=(H.out.below L0.below).cell 3;rw [show (x.row s bd)[3]?=some x.wait from rfl] at c3;clear c8 c10 L L0
 have K0:W0.drew.cell? ⟨b,3,none⟩=some x.wait∧W0.drew.cell? ⟨w.heap.size,0,none⟩=some (.bool wb)∧W0.drew.cell? ⟨w.heap.size,1,none⟩=some (.int .i64 p)∧W0.drew.cell? ⟨w.heap.size,2,none⟩=some (.int .i64 1)∧W0.drew.cell? ⟨w.heap.size,3,none⟩=some (.slice Ad ds.length cd)∧W0.drew.cell? ⟨w.heap.size,4,none⟩=some (.slice (some ⟨w.heap.size+1,0,none⟩) 1 1)∧W0.drew.cell? ⟨w.heap.size,5,none⟩=some (.int .i64 s.now):=⟨c3,q0,q1,q2,q3,q4,q5⟩
 have hrq:ReqAt (S0 col) W0.drew (.agg #[.bool wb,.int .i64 p,.int .i64 1,.slice Ad ds.length cd,.slice (some ⟨w.heap.size+1,0,none⟩) 1 1,.int .i64 s.now]) rq:=by
  rw [← Hrq.out];refine ⟨⟨⟨wb,p,1,ds,[s.tag+1],s.now⟩,.slice Ad ds.length cd,.slice (some ⟨w.heap.size+1,0,none⟩) 1 1⟩,?_,rfl,hdv2,⟨rd_1 hq0 (Hs0.out _ (by omega)),fun y hy=>by simp at hy; subst hy; omega⟩,by unfold i64; simp only; omega,by unfold i64; simp only; omega,by unfold i64; simp only; omega⟩;unfold St.reqOf;rw [Hds.out]
 have Hrqa:=Lib.hid hrq;have HWt:Hid (ReqsAt (S0 col) W0.drew x.wait s.wait):=H3.out.wait.more (fun k hk=>hk.2);have Hsz0:=Lib.hid H3.out.s0;have H6':Hid (s.wait.length≤60000):=show _≤_ by have:=H6.out; omega
 clear hrq hdv2 hq0
 go_region_held3 (fun u=>u.cell? ⟨b,3,none⟩=some x.wait∧u.cell? ⟨w.heap.size,0,none⟩=some (.bool wb)∧u.cell? ⟨w.heap.size,1,none⟩=some (.int .i64 p)∧u.cell? ⟨w.heap.size,2,none⟩=some (.int .i64 1)∧u.cell? ⟨w.heap.size,3,none⟩=some (.slice Ad ds.length cd)∧u.cell? ⟨w.heap.size,4,none⟩=some (.slice (some ⟨w.heap.size+1,0,none⟩) 1 1)∧u.cell? ⟨w.heap.size,5,none⟩=some (.int .i64 s.now))
  (first | exact K1 | exact K0)
  (first
   |((with_reducible refine (radd_any (S0 col) s.wait rq _ _ _ Hsz0.out HWt.out Hrqa.out Hi.out H6'.out).mono ?_); rintro e u1 ⟨v1,rfl,hv1,hb1⟩; have HB1:=Lib.hid hb1; have Hv1:=Lib.hid hv1; have K1:u1.cell? ⟨b,3,none⟩=some x.wait∧u1.cell? ⟨w.heap.size,0,none⟩=some (.bool wb)∧u1.cell? ⟨w.heap.size,1,none⟩=some (.int .i64 p)∧u1.cell? ⟨w.heap.size,2,none⟩=some (.int .i64 1)∧u1.cell? ⟨w.heap.size,3,none⟩=some (.slice Ad ds.length cd)∧u1.cell? ⟨w.heap.size,4,none⟩=some (.slice (some ⟨w.heap.size+1,0,none⟩) 1 1)∧u1.cell? ⟨w.heap.size,5,none⟩=some (.int .i64 s.now):=⟨cell_b hb1 K0.1,cell_b hb1 K0.2.1,cell_b hb1 K0.2.2.1,cell_b hb1 K0.2.2.2.1,cell_b hb1 K0.2.2.2.2.1,cell_b hb1 K0.2.2.2.2.2.1,cell_b hb1 K0.2.2.2.2.2.2⟩)
   |fail)
 have H4:=Lib.hid (H3.out.below HB1.out);have c10:=H4.out.cell 10;have c3':=H4.out.cell 3;rw [show (x.row s bd)[10]?=some (.int .i64 s.tag) from rfl] at c10;rw [show (x.row s bd)[3]?=some x.wait from rfl] at c3';have f3:=H4.out.frozen 3;have f10:=H4.out.frozen 10;have HC:Hid (Chg (fun k=>k=b) w u1):=show Chg _ _ _ from Chg.of_below (HB.out.trans (HB1.out.mono HB.out.size));clear K0 K1 c3 q0 q1 q2 q3 q4 q5;have hqe:s.queue wb p d=if (addM s.wait rq).2=0 then ({ s with wait:=(addM s.wait rq).1,tag:=s.tag+1 },true) else (s,false):=by rw [← Hrq.out]; rfl
 by_cases h0:(addM s.wait rq).2=0
 ·rw [if_pos h0] at hqe
  have Hqe:=Lib.hid hqe;rw [h0];obtain ⟨A1,cp1,e1,_,_⟩:=Hv1.out.form;subst e1;clear hqe h0;go_wp2_with fail;go_ret;rw [Hqe.out];have hS:=((Same1.refl (b:=b) (w:=u1)).setCell 3 (.slice A1 (addM s.wait rq).1.length cp1)).setCell 10 (.int .i64 (s.tag+1));exact ⟨_,rfl,H4.out.queued hS Hv1.out (heap_setCell_same _ _ 10 _ _ _ (heap_setCell_same _ _ 3 _ _ _ H4.out.row)),HC.out.trans ((hS.chg (F:=fun k=>k=b) rfl).mono (fun k hk=>.inl hk)),.wait⟩
 ·rw [if_neg h0] at hqe
  have Hqe:=Lib.hid hqe;have hpos:0<(((addM s.wait rq).2:Nat):Int):=by omega
  clear hqe h0;go_wp2_with fail;go_ret;rw [Hqe.out];exact ⟨x,rfl,H4.out,HC.out,.refl⟩
end Go.Proofs.YtagndjihiklmiaaGreatDoor
