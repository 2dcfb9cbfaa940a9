/- queue.Add. -/
import Derived.Test.YtagndjihiklmiaaGreatDoorQ7
set_option linter.unusedSimpArgs false
set_option linter.unusedVariables false
set_option maxRecDepth 100000
set_option maxHeartbeats 8000000
namespace Go.Proofs.YtagndjihiklmiaaGreatDoor
open Go.RowKit Go.Sort
def mergeIn:List Rq→Rq→Option (List Rq)
 | [],_=>none
 |x :: l,r=>match mergeM x r with
  |some m=>some (m :: l)
  |none=>(mergeIn l r).map (x :: ·)
def addM (l:List Rq) (r:Rq):List Rq × Nat :=
 if reqF r≠0 then ([],reqF r) else if l.any (meetsR r.lo r.many) then ([],6) else match mergeIn l r with
  |some l'=>(l',0)
  |none=>if 6≤l.length then ([],7) else (l ++ [r],0)
theorem addM_bad {l:List Rq} {r:Rq} (h:reqF r≠0):addM l r=([],reqF r):=by unfold addM; rw [if_pos h]
theorem addM_meets {l:List Rq} {r:Rq} (h:reqF r=0) (hm:l.any (meetsR r.lo r.many)=true):addM l r=([],6):=by unfold addM; rw [if_neg (by simp [h]),if_pos hm]
theorem addM_merge {l l':List Rq} {r:Rq} (h:reqF r=0) (hm:l.any (meetsR r.lo r.many)=false) (hi:mergeIn l r=some l'):addM l r=(l',0):=by unfold addM; rw [if_neg (by simp [h]),if_neg (by simp [hm]),hi]
theorem addM_full {l:List Rq} {r:Rq} (h:reqF r=0) (hm:l.any (meetsR r.lo r.many)=false) (hi:mergeIn l r=none) (hl:6≤l.length):addM l r=([],7):=by unfold addM; rw [if_neg (by simp [h]),if_neg (by simp [hm]),hi]; simp [hl]
theorem addM_new {l:List Rq} {r:Rq} (h:reqF r=0) (hm:l.any (meetsR r.lo r.many)=false) (hi:mergeIn l r=none) (hl:¬ 6≤l.length):addM l r=(l ++ [r],0):=by unfold addM; rw [if_neg (by simp [h]),if_neg (by simp [hm]),hi]; simp [hl]
def NoMerge (l:List Rq) (r:Rq) (k:Nat):Prop:=∀ (j:Nat) (x:Rq),j<k→l[j]?=some x→mergeM x r=none
theorem mergeIn_at {r m:Rq}:∀ {l:List Rq} {k:Nat} {x:Rq},NoMerge l r k→l[k]?=some x→mergeM x r=some m→mergeIn l r=some (l.set k m)
 | [],k,x,_,h,_=>by simp at h
 |y :: l,0,x,_,h,hm=>by simp at h; subst h; unfold mergeIn; rw [hm]; rfl
 |y :: l,k+1,x,hn,h,hm=>by
  unfold mergeIn;rw [hn 0 y (by omega) rfl,mergeIn_at (l:=l) (k:=k) (x:=x) (fun j z hj hz=>hn (j+1) z (by omega) (by simpa using hz)) (by simpa using h) hm];rfl
theorem mergeIn_none {r:Rq}:∀ {l:List Rq},NoMerge l r l.length→mergeIn l r=none
 | [],_=>rfl
 |y :: l,hn=>by
  unfold mergeIn;rw [hn 0 y (by simp) rfl,mergeIn_none (l:=l) (fun j z hj hz=>hn (j+1) z (by simp; omega) (by simpa using hz))];rfl
theorem own_setCell {w:World} {base:Nat} {e:TypeId} {size n g cap:Nat} {xs:List Value} (h:w.ownsRow base e size (.slice (some ⟨g,0,none⟩) n cap) n xs) {i:Nat} (hi:i<n * size) (u:Value) :
  (w.setCell ⟨g,i,none⟩ u).ownsRow base e size (.slice (some ⟨g,0,none⟩) n cap) n (xs.set i u):=by
 obtain ⟨h1,h2⟩:=h;refine ⟨by simpa using h1,?_⟩
 rcases h2 with ⟨h2,h3⟩ | ⟨g',cap',cur,hv,hb,hh,hnc,hcm,hcs,htake⟩
 ·exact .inl ⟨h2,h3⟩
 ·cases hv
  refine .inr ⟨g,cap,cur.setIfInBounds i u,rfl,hb,heap_setCell_same _ _ i _ _ u hh,hnc,hcm,by simpa using hcs,?_⟩;rw [Array.toList_setIfInBounds,List.take_set,htake]
theorem flat_set (cs:List Rc) (c:Rc):∀ (k:Nat),k<cs.length→((((((cs.flatMap Rc.cells).set (k * 6) (.bool c.r.write)).set (k * 6+1) (.int .i64 c.r.lo)).set (k * 6+2) (.int .i64 c.r.many)).set (k * 6+3) c.dv).set (k * 6+4) c.tv).set (k * 6+5) (.int .i64 c.r.born)=(cs.set k c).flatMap Rc.cells:=by
 induction cs with
 |nil=>intro k h; simp at h
 |cons a cs ih =>
  intro k hk
  cases k with
  |zero=>simp [Rc.cells]
  |succ k =>
   rw [List.set_cons_succ,List.flatMap_cons,List.flatMap_cons,← ih k (by simpa using hk)];have e:a.cells.length=6:=rfl
   have s:∀ (X:List Value) (j:Nat) (u:Value),(a.cells ++ X).set ((k+1) * 6+j) u=a.cells ++ X.set (k * 6+j) u:=by
    intro X j u;rw [List.set_append_right _ _ (by rw [e]; omega)]
    congr 2
    rw [e]; omega
   have s0:∀ (X:List Value) (u:Value),(a.cells ++ X).set ((k+1) * 6) u=a.cells ++ X.set (k * 6) u:=fun X u=>s X 0 u
   rw [s0,s,s,s,s,s]
theorem own_cap {w:World} {base:Nat} {e:TypeId} {size n c:Nat} {A:Option Addr} {xs:List Value} (h:w.ownsRow base e size (.slice A n c) n xs):n≤c∧c≤9223372036854775807:=by
 rcases h.2 with ⟨hv,h0⟩ | ⟨g,cap,cur,hv,hb,hh,hnc,hcm,_⟩
 ·injection hv; omega
 ·injection hv; unfold maxLen at hcm; omega
theorem own_row {w:World} {base:Nat} {e:TypeId} {size n g cap:Nat} {xs:List Value} (h:w.ownsRow base e size (.slice (some ⟨g,0,none⟩) n cap) n xs):base≤g∧g<w.heap.size∧∃ cur:Array Value,w.heap[g]?=some (.cells cur e (0,0)):=by
 rcases h.2 with ⟨hv,h0⟩ | ⟨g',cap',cur,hv,hb,hh,hnc,hcm,_⟩
 ·injection hv with h1; cases h1
 ·cases hv; exact ⟨hb,(h.lt g rfl).2,cur,hh⟩
theorem own_req_at {S:Nat→Prop} {w:World} {base:Nat} {e:TypeId} {n g cap k:Nat} {cs:List Rc} {c:Rc} (h:w.ownsRow base e 6 (.slice (some ⟨g,0,none⟩) n cap) n (cs.flatMap Rc.cells)) (hc:cs[k]?=some c) (hok:RcOk S w c) :
  ∃ Ad cd At ct,ReqAt S w (rqV c.r (.slice Ad c.r.data.length cd) (.slice At c.r.tags.length ct)) c.r ∧
   w.cell? ⟨g,k * 6,none⟩=some (.bool c.r.write)∧w.cell? ⟨g,k * 6+1,none⟩=some (.int .i64 c.r.lo)∧w.cell? ⟨g,k * 6+2,none⟩=some (.int .i64 c.r.many) ∧
   w.cell? ⟨g,k * 6+3,none⟩=some (.slice Ad c.r.data.length cd)∧w.cell? ⟨g,k * 6+4,none⟩=some (.slice At c.r.tags.length ct)∧w.cell? ⟨g,k * 6+5,none⟩=some (.int .i64 c.r.born):=by
 have hg:=fun j hj=>flat_get cs k j c hc hj
 have hcell:∀ j u,(cs.flatMap Rc.cells)[j]?=some u→w.cell? ⟨g,j,none⟩=some u:=fun j u hu=>by
  have:=h.cells (g:=g) rfl j u hu
  simpa [Go.WideShapes.add_plain] using this
 obtain ⟨Ad,cd,e1,_,_⟩:=hok.data.form;obtain ⟨At,ct,e2,_,_⟩:=hok.tags.form;exact ⟨Ad,cd,At,ct,by rw [← e1,← e2]; exact hok.req,hcell _ _ (hg 0 (by omega)),hcell _ _ (hg 1 (by omega)),hcell _ _ (hg 2 (by omega)),by rw [← e1]; exact hcell _ _ (hg 3 (by omega)),by rw [← e2]; exact hcell _ _ (hg 4 (by omega)),hcell _ _ (hg 5 (by omega))⟩
theorem ReqAt.rc {S:Nat→Prop} {w:World} {r:Rq} {dv tv:Value} (h:ReqAt S w (rqV r dv tv) r):RcOk S w ⟨r,dv,tv⟩:=by
 obtain ⟨c,rfl,e,hok⟩:=h;simp only [rqV,Value.agg.injEq,Array.mk.injEq,List.cons.injEq] at e;obtain ⟨c1,c2,c3⟩:=c;simp only at e;rw [e.2.2.2.1,e.2.2.2.2.1];exact hok
theorem own_put {w:World} {base g n cap k:Nat} {e:TypeId} {cs:List Rc} (h:w.ownsRow base e 6 (.slice (some ⟨g,0,none⟩) n cap) n (cs.flatMap Rc.cells)) (c:Rc) (hk:k<cs.length) (hn:cs.length=n) :
  ((((((w.setCell ⟨g,k * 6,none⟩ (.bool c.r.write)).setCell ⟨g,k * 6+1,none⟩ (.int .i64 c.r.lo)).setCell ⟨g,k * 6+2,none⟩ (.int .i64 c.r.many)).setCell ⟨g,k * 6+3,none⟩ c.dv).setCell ⟨g,k * 6+4,none⟩ c.tv).setCell ⟨g,k * 6+5,none⟩ (.int .i64 c.r.born)).ownsRow base e 6 (.slice (some ⟨g,0,none⟩) n cap) n ((cs.set k c).flatMap Rc.cells):=by
 rw [← flat_set cs c k hk];exact own_setCell (own_setCell (own_setCell (own_setCell (own_setCell (own_setCell h (by omega) _) (by omega) _) (by omega) _) (by omega) _) (by omega) _) (by omega) _
theorem put6_other (w:World) (g k:Nat) (v0 v1 v2 v3 v4 v5:Value):∀ b,b≠g→((((((w.setCell ⟨g,k,none⟩ v0).setCell ⟨g,k+1,none⟩ v1).setCell ⟨g,k+2,none⟩ v2).setCell ⟨g,k+3,none⟩ v3).setCell ⟨g,k+4,none⟩ v4).setCell ⟨g,k+5,none⟩ v5).heap[b]?=w.heap[b]?:=by
 intro b hb;repeat (rw [heap_setCell_other _ _ b _ (by simpa using hb)])
theorem put6_below (w:World) (g k B:Nat) (v0 v1 v2 v3 v4 v5:Value) (hB:B≤g):Below B w ((((((w.setCell ⟨g,k,none⟩ v0).setCell ⟨g,k+1,none⟩ v1).setCell ⟨g,k+2,none⟩ v2).setCell ⟨g,k+3,none⟩ v3).setCell ⟨g,k+4,none⟩ v4).setCell ⟨g,k+5,none⟩ v5) :=
 ((((((Below.refl _ _).setCell hB _).setCell hB _).setCell hB _).setCell hB _).setCell hB _).setCell hB _
theorem rd_row6 (w:World) (b:Bool) (lo many:Int) (dv tv:Value) (born:Int) (T:TypeId):Rd (fun _=>True) (w.alloc (Obj.cells #[Value.bool b,Value.int IntKind.i64 lo,Value.int IntKind.i64 many,dv,tv,Value.int IntKind.i64 born] T)) 6 (.slice (some ⟨w.heap.size,0,none⟩) 1 1) 1 [.bool b,.int .i64 lo,.int .i64 many,dv,tv,.int .i64 born] :=
 ⟨_,1,rfl,Nat.le_refl _,by simp [maxLen],rfl,fun _=>⟨w.heap.size,0,rfl,trivial,fun j u hu=>by
  rw [Nat.zero_add,cell_of_row _ _ j _ _ _ (heap_alloc_new w _)]
  simpa using hu⟩⟩
theorem one6 (b:Bool) (lo many born:Int) (Ad At:Option Addr) (n cd m ct:Nat):∀ u ∈ [Value.bool b,.int .i64 lo,.int .i64 many,.slice Ad n cd,.slice At m ct,.int .i64 born],u.oneCell'=true:=by
 intro u hu;simp only [List.mem_cons,List.not_mem_nil,or_false] at hu;rcases hu with rfl | rfl | rfl | rfl | rfl | rfl <;> rfl
def RetAdd (S:Nat→Prop) (o:List Rq × Nat) (w:World):Ending→World→Prop:=fun E w'=>∃ v,E=.returned (.tuple #[v,errV o.2])∧ReqsAt S w' v o.1∧Below w.heap.size w w'
theorem reqs_nil {S:Nat→Prop} {w:World}:ReqsAt S w (.slice none 0 0) []:=⟨[],rfl,Rd.nil,by simp⟩
theorem add_any (S:Nat→Prop) (l:List Rq) (r:Rq) (v rv:Value) (w:World) (hS:∀ b,w.heap.size≤b→S b) (h:ReqsAt S w v l) (hr:ReqAt S w rv r) (hl:∀ x ∈ l,ReqOk x) (hn:l.length≤60000) :
  Calls Tryz.prog 124 #[v,rv] w (RetAdd S (addM l r) w):=by
 obtain ⟨Ad,cd,At,ct,rfl,_,_,_,_,_,_,_⟩:=hr.opened;obtain ⟨A,cap,rfl,_,hcap⟩:=h.form;unfold maxLen at hcap;have HS:=Lib.hid hS;have H:=Lib.hid h;have Hr:=Lib.hid hr;have Hl:=Lib.hid hl;clear h hr hS hl;go_enter Tryz.func124,Tryz.ntmps124;go_wp2_with fail;have L:=(Lay.refl w).alloc' w.heap.size #[Value.bool r.write,Value.int IntKind.i64 r.lo,Value.int IntKind.i64 r.many,Value.slice Ad r.data.length cd,Value.slice At r.tags.length ct,Value.int IntKind.i64 r.born] 117 rfl;generalize World.alloc _ _=W1 at L ⊢;refine (reqcheck_any S r _ _ (Hr.out.below L.below)).mono ?_;rintro e w2 ⟨rfl,hb2⟩;have L2:=L.step hb2;clear L hb2;by_cases g1:reqF r=0;rotate_left
 ·have g1':(reqF r == 0)=false:=by simpa using g1
  have G1:=Lib.hid g1;clear g1;go_wp2;refine bodyPost_ret (v:=.tuple #[.slice none 0 0,errV (reqF r)]) (by simp [results,Tryz.results124,go_sem]) rfl ?_;rw [addM_bad G1.out];exact ⟨_,rfl,reqs_nil,L2.below⟩
 rw [g1];have G1:=Lib.hid g1;have Gr:=Lib.hid (reqF_zero g1);clear g1;obtain ⟨c0,c1,c2,c3,c4,c5⟩:=L2.c6 0 rfl;go_wp2_with fail;refine (meets_any S l _ r.lo r.many _ (H.out.below L2.below) (fun x hx=>(Hl.out x hx).span) Gr.out.span).mono ?_;rintro e w3 ⟨rfl,hb3⟩;have L3:=L2.step hb3;clear L2 hb3 c0 c1 c2 c3 c4 c5
 cases g2:l.any (meetsR r.lo r.many) with
 |true =>
  have G2:=Lib.hid g2;clear g2;go_wp2;refine bodyPost_ret (v:=.tuple #[.slice none 0 0,.iface 38 (.int .i64 6)]) (by simp [results,Tryz.results124,go_sem]) rfl ?_;rw [addM_meets G1.out G2.out];exact ⟨_,rfl,reqs_nil,L3.below⟩
 |false =>
  have G2:=Lib.hid g2;clear g2;go_wp2_with fail;obtain ⟨cs,hcs,hrd,hok⟩:=H.out;have hlen:cs.length=l.length:=by rw [← hcs,List.length_map]
  have Hone:=Lib.hid (cells_one hok);refine (clone_any S _ cs.length (cs.flatMap Rc.cells) _ (hrd.below L3.below) Hone.out (by omega)).mono ?_;rintro e w4 ⟨v4,rfl,hown,hb4⟩;rw [hlen] at hown;have L4:=L3.step hb4;have Hok:=Lib.hid (fun c hc=>(hok c hc).lt);have Hcs:=Lib.hid hcs;have Hlen:=Lib.hid hlen;have Hbase:=Lib.hid L3.size;have H34:=Lib.hid hb4.size;clear hrd hok hcs hlen L3 hb4;obtain ⟨A4,cp4,rfl⟩:=own_slice hown;obtain ⟨hcp1,hcp2⟩:=own_cap hown;have Hown:=Lib.hid hown;clear hown;go_wp2_with fail;have HL:=Lib.hid L4;clear L4;go_loopw [25] (fun i wr=>∃ k:Nat,k≤l.length∧i=.int .i64 k∧Below w4.heap.size w4 wr∧Hid (NoMerge l r k)) (fun i _=>l.length - (intOf i).toNat)
  case atStart=>exact ⟨0,by omega,rfl,Below.refl _ _,fun j x h=>by omega⟩
  case round =>
   obtain ⟨k,hk,rfl,hw,hno⟩:=hrel;by_cases hlt:k<l.length
   ·obtain ⟨g,cp,e,hg1,hg2,_,_⟩:=own_form Hown.out (by omega)
    injection e with e1 e2 e3
    subst e1 e3;have hkc:k<cs.length:=by have:=Hlen.out; omega
    have hck:cs[k]?=some cs[k]:=List.getElem?_eq_getElem hkc;generalize cs[k]=c at hck;have hxk:l[k]?=some c.r:=by rw [← Hcs.out,List.getElem?_map,hck]; rfl
    have Hck:=Lib.hid hck;have Hxk:=Lib.hid hxk;have Gx:=Lib.hid (Hl.out _ (List.mem_of_getElem? hxk));have hownr:wr.ownsRow w3.heap.size 117 6 (.slice (some ⟨g,0,none⟩) l.length cp4) l.length (cs.flatMap Rc.cells):=own_keep Hown.out (hw.block _ hg2);have hLr:=HL.out.step hw;have hokr:=(Hok.out c (List.mem_of_getElem? hck)).below hLr.below;obtain ⟨Xd,xd,Xt,xt,hreq,k0,k1,k2,k3,k4,k5⟩:=own_req_at hownr hck hokr;have Hownr:=Lib.hid hownr;have Hx:=Lib.hid hreq;have HLr:=Lib.hid hLr;clear hck hxk hownr hokr hreq;obtain ⟨c0,c1,c2,c3,c4,c5⟩:=hLr.ca6 0 rfl;clear hLr;go_wp2_with fail;have hLa:=HLr.out.alloc' wr.heap.size #[Value.bool c.r.write,Value.int IntKind.i64 c.r.lo,Value.int IntKind.i64 c.r.many,Value.slice Xd c.r.data.length xd,Value.slice Xt c.r.tags.length xt,Value.int IntKind.i64 c.r.born] 117 rfl;have hba:=(Below.refl wr.heap.size wr).alloc (Nat.le_refl _) (Obj.cells #[Value.bool c.r.write,Value.int IntKind.i64 c.r.lo,Value.int IntKind.i64 c.r.many,Value.slice Xd c.r.data.length xd,Value.slice Xt c.r.tags.length xt,Value.int IntKind.i64 c.r.born] 117);generalize World.alloc _ _=Wa at hLa hba ⊢;clear k0 k1 k2 k3 k4 k5 c0 c1 c2 c3 c4 c5;have hgb:w3.heap.size≤g:=(own_row Hown.out).1;have hS3:=Hbase.out;have hwr4:=hw.size;refine (merge_any (fun b=>S b∧b≠g) c.r r _ _ _ (fun b hb=>⟨HS.out b (by have:=hLa.size; omega),by have:=hba.size; omega⟩) ((Hx.out.below hba).more (fun b hb=>⟨hb.1,by have:=hb.2; omega⟩)) ((Hr.out.lt.more (S':=fun b=>S b∧b≠g) (fun b hb=>⟨hb.1,by have:=hb.2; omega⟩)).below hLa.below) Gx.out Gr.out).mono ?_;rintro e w6 ⟨vm,rfl,hm,hb6⟩;have hL6:=hLa.step hb6;have hw6:Below wr.heap.size wr w6:=hba.trans (hb6.mono hba.size);obtain ⟨Md,md,Mt,mt,rfl,_,_,_,_,_,_,_⟩:=hm.opened;have Hm:=Lib.hid hm;have hown6:w6.ownsRow w3.heap.size 117 6 (.slice (some ⟨g,0,none⟩) l.length cp4) l.length (cs.flatMap Rc.cells):=own_keep Hownr.out (hw6.block _ (by omega));have Hown6:=Lib.hid hown6;have HL6:=Lib.hid hL6;have Hw6:=Lib.hid hw6;clear hm hLa hba hb6 Hownr hw6 hL6
    cases hmg:mergeM c.r r with
    |none =>
     have Hmg:=Lib.hid hmg;clear hmg hown6;rw [Hmg.out] at Hm;simp only [Hmg.out,Option.isSome,Option.getD];simp only [Option.getD] at Hm;go_wp2_with fail;have hbz:=(Below.refl w6.heap.size w6).alloc (Nat.le_refl _) (Obj.cells #[Value.bool false,Value.int IntKind.i64 0,Value.int IntKind.i64 0,Value.slice Md 0 md,Value.slice Mt 0 mt,Value.int IntKind.i64 0] 117);go_roundw
     case rel=>exact ⟨k+1,by omega,by go_num,(hw.trans (Hw6.out.mono hw.size)).trans (hbz.mono ((hw.trans (Hw6.out.mono hw.size)).size)),fun j y hj hy=>by
      rcases Nat.lt_or_ge j k with h | h
      ·exact hno.out j y h hy
      ·obtain rfl:j=k:=by omega
       have h1:=Hxk.out;rw [hy] at h1
       cases h1
       exact Hmg.out⟩
     case measure=>simp [intOf]; omega
    |some m =>
     have Hmg:=Lib.hid hmg;rw [hmg] at Hm;simp only [hmg,Option.isSome,Option.getD];clear hmg;simp only [Option.getD] at Hm;obtain ⟨_,hg6,cur,hcur⟩:=own_row hown6;have hrow:∀ o,(w6.alloc o).heap[g]?=some (.cells cur 117 (0,0)):=fun o=>(Below.heap_alloc _ _ _ hg6).trans hcur
     have hfz:∀ o j,(w6.alloc o).frozen? ⟨g,j,none⟩=false:=fun o j=>frozen_of_row _ _ j _ _ (hrow o)
     have hfz6:∀ j,w6.frozen? ⟨g,j,none⟩=false:=fun j=>frozen_of_row _ _ j _ _ hcur
     obtain ⟨_,_,_,_,_,k0,k1,k2,k3,k4,k5⟩:=own_req_at hown6 Hck.out (((Hok.out c (List.mem_of_getElem? Hck.out)).below HLr.out.below).below Hw6.out);have k0:∀ o,(w6.alloc o).cell? ⟨g,k * 6,none⟩=some _:=fun o=>(World.cell?_of_block (Below.heap_alloc _ _ _ hg6)).trans k0
     have k1:∀ o,(w6.alloc o).cell? ⟨g,k * 6+1,none⟩=some _:=fun o=>(World.cell?_of_block (Below.heap_alloc _ _ _ hg6)).trans k1
     have k2:∀ o,(w6.alloc o).cell? ⟨g,k * 6+2,none⟩=some _:=fun o=>(World.cell?_of_block (Below.heap_alloc _ _ _ hg6)).trans k2
     have k3:∀ o,(w6.alloc o).cell? ⟨g,k * 6+3,none⟩=some _:=fun o=>(World.cell?_of_block (Below.heap_alloc _ _ _ hg6)).trans k3
     have k4:∀ o,(w6.alloc o).cell? ⟨g,k * 6+4,none⟩=some _:=fun o=>(World.cell?_of_block (Below.heap_alloc _ _ _ hg6)).trans k4
     have k5:∀ o,(w6.alloc o).cell? ⟨g,k * 6+5,none⟩=some _:=fun o=>(World.cell?_of_block (Below.heap_alloc _ _ _ hg6)).trans k5
     clear hrow hcur hown6;go_wp2_with fail;clear k0 k1 k2 k3 k4 k5 hfz hfz6;refine bodyPost_ret (v:=.tuple #[.slice (some ⟨g,0,none⟩) l.length cp4,.nilIface]) (by simp [results,Tryz.results124,go_sem]) rfl ?_;have hP:=own_put Hown6.out ⟨m,.slice Md m.data.length md,.slice Mt m.tags.length mt⟩ hkc Hlen.out;have hPo:=put6_other w6 g (k * 6) (.bool m.write) (.int .i64 m.lo) (.int .i64 m.many) (.slice Md m.data.length md) (.slice Mt m.tags.length mt) (.int .i64 m.born);have hPb:=put6_below w6 g (k * 6) w.heap.size (.bool m.write) (.int .i64 m.lo) (.int .i64 m.many) (.slice Md m.data.length md) (.slice Mt m.tags.length mt) (.int .i64 m.born) (by omega);simp only at hP;generalize World.setCell _ _ _=W7 at hP hPo hPb ⊢;have hb8:=(Below.refl W7.heap.size W7).alloc (Nat.le_refl _) (Obj.cells #[Value.bool m.write,Value.int IntKind.i64 m.lo,Value.int IntKind.i64 m.many,Value.slice Md m.data.length md,Value.slice Mt m.tags.length mt,Value.int IntKind.i64 m.born] 117);generalize World.alloc _ _=W8 at hb8 ⊢;have hg7:=(own_row hP).2.1;have hP8:=own_keep hP (hb8.block _ hg7);have h60:w.heap.size≤w6.heap.size:=HL6.out.size;have hB7:Below w.heap.size w W7:=HL6.out.below.trans hPb;have hB8:Below w.heap.size w W8:=hB7.trans (hb8.mono hB7.size);rw [addM_merge G1.out G2.out (mergeIn_at hno.out Hxk.out Hmg.out)];refine ⟨_,rfl,⟨cs.set k ⟨m,.slice Md m.data.length md,.slice Mt m.tags.length mt⟩,?_,?_,?_⟩,hB8⟩
     ·rw [List.map_set,Hcs.out]
     ·rw [List.length_set,Hlen.out]
      exact Rd.of_own _ (fun b hb=>HS.out b (by omega)) hP8
     ·intro c' hc'
      rcases List.mem_or_eq_of_mem_set hc' with h | rfl
      ·exact ((Hok.out c' h).below hB8).more (fun b hb=>hb.1)
      ·refine RcOk.more (S:=fun b=>S b∧b≠g) (Hm.rc.keep (fun b hb hlt=>?_)) (fun b hb=>hb.1)
       have h76:=hPb.size;rw [hb8.block _ (by omega),hPo b hb.2]
   ·obtain rfl:k=l.length:=by omega
    have hnone:=Lib.hid (mergeIn_none hno.out);by_cases h6:6≤l.length
    ·have h6':decide ((6:Int)≤(l.length:Int))=true:=by simp; omega
     go_wp2_with fail;refine bodyPost_ret (v:=.tuple #[.slice none 0 0,.iface 38 (.int .i64 7)]) (by simp [results,Tryz.results124,go_sem]) rfl ?_;rw [addM_full G1.out G2.out hnone.out h6];exact ⟨_,rfl,reqs_nil,HL.out.below.trans (hw.mono HL.out.size)⟩
    ·have h6':decide ((6:Int)≤(l.length:Int))=false:=by simp; omega
     obtain ⟨c0,c1,c2,c3,c4,c5⟩:=(HL.out.step hw).c6 0 rfl;obtain ⟨i0,hi0,hz0,hz1,hz2⟩:=info_parts reqInfo;have hbr:=(Below.refl wr.heap.size wr).alloc (Nat.le_refl _) (Obj.cells #[Value.bool r.write,Value.int IntKind.i64 r.lo,Value.int IntKind.i64 r.many,Value.slice Ad r.data.length cd,Value.slice At r.tags.length ct,Value.int IntKind.i64 r.born] 117);have hwb:=hw.trans (hbr.mono hw.size);have Hownr:=Lib.hid (own_keepL Hown.out (fun g _ hg=>hwb.block g hg));have Hrow:=Lib.hid (rd_row6 wr r.write r.lo r.many (.slice Ad r.data.length cd) (.slice At r.tags.length ct) r.born 117)
     have Hsz:Hid (w3.heap.size≤(wr.alloc (Obj.cells #[Value.bool r.write,Value.int IntKind.i64 r.lo,Value.int IntKind.i64 r.many,Value.slice Ad r.data.length cd,Value.slice At r.tags.length ct,Value.int IntKind.i64 r.born] 117)).heap.size):=(by have h1:=hwb.size; have h2:=H34.out; omega:_≤_)
     have H1:=Lib.hid (one6 r.write r.lo r.many r.born Ad At r.data.length cd r.tags.length ct);clear hbr;go_wp2_with (at_builtin; refine wpList_append_rd (S:=fun _=>True) _ rfl (.tmp 47) (.tmp 49) _ rfl w3.heap.size 117 i0 _ 6 80 Tryz.underlying50 hi0 hz0 hz1 hz2 rfl (by omega) _ l.length (cs.flatMap Rc.cells) rfl Hownr.out _ 1 _ rfl Hrow.out H1.out (by simp only [maxLen]; omega) (by omega) Hsz.out ?_; intro v9 w9 hown9 hg9 hat9);have hB9:Below w.heap.size w w9:=(HL.out.below.trans (hwb.mono HL.out.size)).grown hg9 (by have h1:=hwb.size; have h2:=HL.out.size; omega) (fun k hk=>by have h1:=(Hownr.out.lt k hk).1; have h2:=Hbase.out; omega);refine bodyPost_ret (v:=.tuple #[v9,.nilIface]) (by simp [results,Tryz.results124,go_sem]) rfl ?_;rw [addM_new G1.out G2.out hnone.out h6];refine ⟨_,rfl,⟨cs ++ [⟨r,.slice Ad r.data.length cd,.slice At r.tags.length ct⟩],?_,?_,?_⟩,hB9⟩
     ·rw [List.map_append,Hcs.out]; rfl
     ·rw [List.length_append,Hlen.out,List.flatMap_append]
      have:=Rd.of_own (S:=S) _ (fun b hb=>HS.out b (by have:=Hbase.out; omega)) hown9
      simpa [Rc.cells] using this
     ·intro c' hc'
      rcases List.mem_append.1 hc' with h | h
      ·exact ((Hok.out c' h).below hB9).more (fun b hb=>hb.1)
      ·simp at h
       subst h;exact Hr.out.rc.below hB9
end Go.Proofs.YtagndjihiklmiaaGreatDoor
namespace Go.Proofs.YtagndjihiklmiaaGreatDoor
structure Dv where
 kept:List ByteArray
 now:List ByteArray
 waits:List (Nat × ByteArray)
 l:List Rq
structure Rs where
 req:Rq
 data:List ByteArray
 err:Nat
def zeroRqM:Rq:=⟨false,0,0,[],[],0⟩
def zeroRs:Rs:=⟨zeroRqM,[],0⟩
namespace Dv
def new:Dv:=⟨List.replicate 32 ⟨#[]⟩,List.replicate 32 ⟨#[]⟩,[],[]⟩
def start (d:Dv) (r:Rq):Dv × Nat:=if d.l.length=2 then (d,7) else ({ d with l:=d.l ++ [r] },0)
def put (d:Dv) (p:Nat) (s:ByteArray):Dv:={ d with now:=d.now.set p s,waits:=d.waits ++ [(p,s)] }
def wrote:Dv→Nat→List ByteArray→Dv
 |d,_,[]=>d
 |d,p,s :: l=>(d.put p s).wrote (p+1) l
def reads (d:Dv) (p n:Nat):List ByteArray:=(d.now.drop p).take n
def drop (d:Dv) (i:Nat):Dv:={ d with l:=d.l.eraseIdx i }
def ended (d:Dv) (r:Rq) (i:Nat) (fault:Bool):Dv × Rs :=
 if fault then (d.drop i,⟨r,[],8⟩)
 else if r.write then ((d.drop i).wrote r.lo.toNat r.data,⟨r,[],0⟩)
 else (d.drop i,⟨r,d.reads r.lo.toNat r.many.toNat,0⟩)
def endAt (d:Dv) (i:Int) (fault:Bool):Dv × Rs × Nat :=
 if i<0 then (d,zeroRs,5) else match d.l[i.toNat]? with
  |none=>(d,zeroRs,5)
  |some r=>((d.ended r i.toNat fault).1,(d.ended r i.toNat fault).2,0)
def flush (d:Dv):Dv:={ d with kept:=d.now,waits:=[] }
def bit (keep i:Nat):Bool:=keep / 2 ^ (i % 64) % 2 == 1
def keepFrom (keep:Nat):List ByteArray→List (Nat × ByteArray)→Nat→List ByteArray
 |k,[],_=>k
 |k,(p,s) :: l,i=>keepFrom keep (if bit keep i then k.set p s else k) l (i+1)
def crash (d:Dv) (keep:Nat):Dv:=⟨keepFrom keep d.kept d.waits 0,keepFrom keep d.kept d.waits 0,[],[]⟩
theorem wrote_app (s:ByteArray):∀ (l:List ByteArray) (d:Dv) (p:Nat),d.wrote p (l ++ [s])=(d.wrote p l).put (p+l.length) s
 | [],d,p=>by simp [wrote]
 |x :: l,d,p=>by
  simp only [List.cons_append,wrote,List.length_cons];rw [wrote_app s l]
  congr 1
  omega
theorem wrote_succ {d:Dv} {p k:Nat} {l:List ByteArray} {s:ByteArray} (h:l[k]?=some s):d.wrote p (l.take (k+1))=(d.wrote p (l.take k)).put (p+k) s:=by
 have hk:=(List.getElem?_eq_some_iff.1 h).1;rw [List.take_add_one,h,Option.toList_some,wrote_app,List.length_take,Nat.min_eq_left (by omega)]
theorem wrote_same:∀ (l:List ByteArray) (d:Dv) (p:Nat),(d.wrote p l).kept=d.kept∧(d.wrote p l).l=d.l∧(d.wrote p l).now.length=d.now.length∧(d.wrote p l).waits.length=d.waits.length+l.length
 | [],d,p=>by simp [wrote]
 |x :: l,d,p=>by
  obtain ⟨h1,h2,h3,h4⟩:=wrote_same l (d.put p x) (p+1);simp only [wrote];refine ⟨h1,h2,by rw [h3]; simp [put],by rw [h4]; simp [put]; omega⟩
end Dv
namespace Dv
theorem keepFrom_app (keep p:Nat) (s:ByteArray):∀ (l:List (Nat × ByteArray)) (K:List ByteArray) (i:Nat),keepFrom keep K (l ++ [(p,s)]) i=if bit keep (i+l.length) then (keepFrom keep K l i).set p s else keepFrom keep K l i
 | [],K,i=>by simp [keepFrom]
 |(q,u) :: l,K,i=>by
  simp only [List.cons_append,keepFrom,List.length_cons];rw [keepFrom_app keep p s l,show i+1+l.length=i+(l.length+1) by omega]
theorem keepFrom_succ {keep k p:Nat} {s:ByteArray} {l:List (Nat × ByteArray)} {K:List ByteArray} (h:l[k]?=some (p,s)):keepFrom keep K (l.take (k+1)) 0=if bit keep k then (keepFrom keep K (l.take k) 0).set p s else keepFrom keep K (l.take k) 0:=by
 have hk:=(List.getElem?_eq_some_iff.1 h).1;rw [List.take_add_one,h,Option.toList_some,keepFrom_app,List.length_take,Nat.min_eq_left (by omega),Nat.zero_add]
theorem keepFrom_len (keep:Nat):∀ (l:List (Nat × ByteArray)) (K:List ByteArray) (i:Nat),(keepFrom keep K l i).length=K.length
 | [],_,_=>rfl
 |(p,s) :: l,K,i=>by
  rw [keepFrom,keepFrom_len keep l]
  split <;> simp
end Dv
structure DvOk (d:Dv):Prop where
 kept:d.kept.length=32
 now:d.now.length=32
 keptS:∀ s ∈ d.kept,s.size≤16
 nowS:∀ s ∈ d.now,s.size≤16
 waits:∀ p ∈ d.waits,p.1<32∧p.2.size≤16
 l:∀ r ∈ d.l,reqF r=0
 two:d.l.length≤2
end Go.Proofs.YtagndjihiklmiaaGreatDoor
namespace Go.Proofs.YtagndjihiklmiaaGreatDoor
open Go.RowKit
structure Chg (F:Nat→Prop) (w w':World):Prop where
 os:w'.os=w.os
 tape:w'.tape=w.tape
 output:w'.output=w.output
 size:w.heap.size≤w'.heap.size
 block:∀ k,k<w.heap.size→¬ F k→w'.heap[k]?=w.heap[k]?
def Grow (F:Nat→Prop) (w w':World):Nat→Prop:=fun b=>F b∨(w.heap.size≤b∧b<w'.heap.size)
section
variable {F G S:Nat→Prop} {a b c w w':World}
theorem Chg.refl:Chg F w w:=⟨rfl,rfl,rfl,Nat.le_refl _,fun _ _ _=>rfl⟩
theorem Chg.mono (h:Chg F w w') (hg:∀ k,F k→G k):Chg G w w':=⟨h.os,h.tape,h.output,h.size,fun k hk hn=>h.block k hk (fun hf=>hn (hg k hf))⟩
theorem Chg.of_below (h:Below w.heap.size w w'):Chg F w w':=⟨h.os,h.tape,h.output,h.size,fun k hk _=>h.block k hk⟩
theorem Chg.trans (h:Chg F a b) (k:Chg (Grow F a b) b c):Chg F a c :=
 ⟨k.os.trans h.os,k.tape.trans h.tape,k.output.trans h.output,Nat.le_trans h.size k.size,fun i hi hn=>(k.block i (Nat.lt_of_lt_of_le hi h.size) (fun hg=>hg.elim hn (fun h2=>by omega))).trans (h.block i hi hn)⟩
theorem Chg.below {B:Nat} (h:Chg F w w') (hF:∀ k,F k→B≤k) (hB:B≤w.heap.size):Below B w w' :=
 ⟨h.os,h.tape,h.output,h.size,fun k hk=>h.block k (by omega) (fun hf=>by have:=hF k hf; omega)⟩
theorem Chg.step (h:Chg F a b) (k:Below b.heap.size b c):Chg F a c:=h.trans (Chg.of_below k)
theorem Chg.drew (h:Chg F a w):Chg F a w.drew:=⟨h.os,h.tape,h.output,h.size,h.block⟩
theorem Chg.alloc (h:Chg F a w) (o:Obj):Chg F a (w.alloc o):=h.step ((Below.refl _ _).alloc (Nat.le_refl _) o)
theorem Chg.grown {row:Option Nat} (h:Chg F a w) (hg:w.grownBy w' row) (hr:∀ k,row=some k→F k∨a.heap.size≤k):Chg F a w' :=
 ⟨hg.os.trans h.os,hg.tape.trans h.tape,hg.output.trans h.output,Nat.le_trans h.size hg.size,fun k hk hn=>(hg.block k (Nat.lt_of_lt_of_le hk h.size) (fun e=>(hr k e.symm).elim hn (fun h2=>by omega))).trans (h.block k hk hn)⟩
theorem Chg.setCell (h:Chg F a w) {p:Addr} (hp:F p.block∨a.heap.size≤p.block) (u:Value):Chg F a (w.setCell p u) :=
 ⟨h.os,h.tape,h.output,Nat.le_trans h.size (by simp [World.setCell]),fun k hk hn=>(Below.heap_setCell _ _ _ _ (fun e=>by subst e; exact hp.elim hn (fun h2=>by omega))).trans (h.block k hk hn)⟩
theorem heap_setCells_other (b k:Nat) (hk:k≠b):∀ (vs:List Value) (o:Nat) (w:World),(w.setCells b o vs).heap[k]?=w.heap[k]?
 | [],_,_=>rfl
 |v :: r,o,w=>by rw [World.setCells,heap_setCells_other b k hk r,Below.heap_setCell _ _ _ _ (by simpa using hk)]
theorem setCells_rest (b:Nat):∀ (vs:List Value) (o:Nat) (w:World),(w.setCells b o vs).os=w.os∧(w.setCells b o vs).tape=w.tape∧(w.setCells b o vs).output=w.output∧(w.setCells b o vs).heap.size=w.heap.size
 | [],_,_=>⟨rfl,rfl,rfl,rfl⟩
 |v :: r,o,w=>by
  obtain ⟨h1,h2,h3,h4⟩:=setCells_rest b r (o+1) (w.setCell ⟨b,o,none⟩ v);exact ⟨h1,h2,h3,h4.trans (by simp [World.setCell])⟩
theorem Chg.setCells (h:Chg F a w) {p:Nat} (hp:F p∨a.heap.size≤p) (o:Nat) (vs:List Value):Chg F a (w.setCells p o vs):=by
 obtain ⟨h1,h2,h3,h4⟩:=setCells_rest p vs o w;exact ⟨h1.trans h.os,h2.trans h.tape,h3.trans h.output,by rw [h4]; exact h.size,fun k hk hn=>(heap_setCells_other _ _ (fun e=>by subst e; exact hp.elim hn (fun h2=>by omega)) _ _ _).trans (h.block k hk hn)⟩
theorem Grow.old {k:Nat} (h:F k):Grow F w w' k:=.inl h
theorem Grow.step (h2:b.heap.size≤c.heap.size):∀ k,Grow F a b k→Grow F a c k:=fun k hk=>hk.elim .inl (fun hk=>.inr ⟨hk.1,by omega⟩)
theorem Grow.trans (h1:a.heap.size≤b.heap.size) (h2:b.heap.size≤c.heap.size):∀ k,Grow (Grow F a b) b c k→Grow F a c k:=fun k hk=>by
 rcases hk with (hk | hk) | hk
 ·exact .inl hk
 ·exact .inr ⟨hk.1,by omega⟩
 ·exact .inr ⟨by omega,hk.2⟩
theorem cell_b {p:Addr} {v:Value} (hb:Below w.heap.size w w') (h:w.cell? p=some v):w'.cell? p=some v:=by
 rw [hb.cell (block_lt_of_cell h)]; exact h
theorem Chg.keep (h:Chg F w w') (hd:∀ k,S k→¬ F k):∀ k,S k→k<w.heap.size→w'.heap[k]?=w.heap[k]?:=fun k hs hk=>h.block k hk (hd k hs)
theorem Lay.chg {l:List (Nat × TypeId × Array Value)} (L:Lay w a l) (h:Chg F a b) (hF:∀ k,F k→w.heap.size≤k) (hn:∀ x ∈ l,¬ F x.1):Lay w b l :=
 ⟨L.below.trans (h.below hF L.size),fun x hx=>(h.block _ (L.lt hx) (hn x hx)).trans (L.row x hx),L.own,L.nd⟩
end
end Go.Proofs.YtagndjihiklmiaaGreatDoor
