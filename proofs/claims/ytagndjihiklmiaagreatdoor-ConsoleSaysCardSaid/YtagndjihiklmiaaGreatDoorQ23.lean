/- serve: each client that waits. -/
import Derived.Test.YtagndjihiklmiaaGreatDoorQ22
import Derived.Lib.Bytes
set_option linter.unusedSimpArgs false
set_option linter.unusedVariables false
set_option maxRecDepth 100000
set_option maxHeartbeats 8000000
namespace Go.Proofs.YtagndjihiklmiaaGreatDoor
open Go.RowKit Go.Sort
theorem StAt.ptr {T:Tys} {col:Nat→Nat} {w:World} {b bd N:Nat} {x:Sv} {s:St} (h:StAt T col w b bd N x s) (c:Nat) (hc:c<3):∃ p:Option Addr,x.av c=.pointer p∧(s.askAt c=none→p=none)∧(∀ a,s.askAt c=some a→∃ ba:Nat,p=some ⟨ba,0,none⟩):=by
 have ha:=h.ask c hc
 cases ho:s.askAt c with
 |none=>rw [ho] at ha; exact ⟨none,ha,fun _=>rfl,fun a h=>(by cases h)⟩
 |some a =>
  rw [ho] at ha;obtain ⟨ba,lv,h1,_⟩:=ha;exact ⟨_,h1,fun h=>(by cases h),fun _ _=>⟨ba,rfl⟩⟩
theorem serve1_read {s:St} {c:Nat} {a:Ak} (h:s.askAt c=some a) (hk:a.kind=1):s.serve1 c=s.read c a:=by unfold St.serve1; rw [h]; simp [hk]
theorem serve1_write {s:St} {c:Nat} {a:Ak} (h:s.askAt c=some a) (hk:a.kind=2):s.serve1 c=s.write c a:=by unfold St.serve1; rw [h]; simp [hk]
theorem serve1_sync {s:St} {c:Nat} {a:Ak} (h:s.askAt c=some a) (hk:a.kind=3):s.serve1 c=s.sync c a:=by unfold St.serve1; rw [h]; simp [hk]
theorem idx_c (P:Nat→Option Addr) {k:Nat} (h:k<3) (w:World):(Instr.index 142 (.agg #[.pointer (P 0),.pointer (P 1),.pointer (P 2)]) (.int .i64 (k:Int))).run Tryz.prog w=.ok (.pointer (P k)) w:=by
 have i:∀ (n:Int) (v:Value),(n=0∧v=.pointer (P 0))∨(n=1∧v=.pointer (P 1))∨(n=2∧v=.pointer (P 2))→(Instr.index 142 (.agg #[.pointer (P 0),.pointer (P 1),.pointer (P 2)]) (.int .i64 n)).run Tryz.prog w=.ok v w:=by
  rintro n v (⟨rfl,rfl⟩ | ⟨rfl,rfl⟩ | ⟨rfl,rfl⟩) <;> kernel_rfl
 refine i _ _ ?_
 match k,h with
 |0,_=>exact .inl ⟨rfl,rfl⟩
 |1,_=>exact .inr (.inl ⟨rfl,rfl⟩)
 |2,_=>exact .inr (.inr ⟨rfl,rfl⟩)
theorem asks_range {T:Tys} {col:Nat→Nat} {w:World} {b bd N:Nat} {x:Sv} {s:St} (h:StAt T col w b bd N x s) {v0 v1 v2:Value} (h0:x.a0=v0) (h1:x.a1=v1) (h2:x.a2=v2):w.rangeAt b 11 [v0,v1,v2]:=by
 subst h0 h1 h2;intro j v hv
 match j,hv with
 |0,hv=>cases hv; exact h.cell 11
 |1,hv=>cases hv; exact h.cell 12
 |2,hv=>cases hv; exact h.cell 13
theorem StAt.ptrs {T:Tys} {col:Nat→Nat} {w:World} {b bd N:Nat} {x:Sv} {s:St} (h:StAt T col w b bd N x s):∃ P:Nat→Option Addr,w.rangeAt b 11 [.pointer (P 0),.pointer (P 1),.pointer (P 2)]∧∀ c,c<3→x.av c=.pointer (P c)∧(s.askAt c=none→P c=none)∧(∀ a,s.askAt c=some a→∃ ba:Nat,P c=some ⟨ba,0,none⟩):=by
 obtain ⟨p0,e0,n0,q0⟩:=h.ptr 0 (by omega);obtain ⟨p1,e1,n1,q1⟩:=h.ptr 1 (by omega);obtain ⟨p2,e2,n2,q2⟩:=h.ptr 2 (by omega);refine ⟨fun c=>if c=0 then p0 else if c=1 then p1 else p2,asks_range h e0 e1 e2,fun c hc=>?_⟩
 match c,hc with
 |0,_=>exact ⟨e0,n0,q0⟩
 |1,_=>exact ⟨e1,n1,q1⟩
 |2,_=>exact ⟨e2,n2,q2⟩
theorem serve_any (col:Nat→Nat) (w:World) (b bd N:Nat) (x:Sv) (s:St) (K:Int) (h:StAt Ts col w b bd N x s) (hI:Inv s) (hB:Bd K s) (h0:0≤K) (hK:K≤800000000) :
  Calls Tryz.prog 77 #[.pointer (some ⟨b,0,none⟩)] w (Ret4 Ts col w b bd N x s.serve (.tuple #[])):=by
 obtain ⟨P,hR,hP⟩:=h.ptrs;have HR:=Lib.hid hR;have HP:=Lib.hid hP;have H:=Lib.hid h;have HI:=Lib.hid hI;have HB:=Lib.hid hB;have Hs:Hid ((Tryz.prog.info? 142).map (·.size)=some 3):=show _=_ by kernel_rfl
 clear h hI hB hP hR;go_enter Tryz.func77,Tryz.ntmps77;go_wp2_with (refine wpList_load_mid rfl 142 (.tmp 6) rfl b 11 rfl [.pointer (P 0),.pointer (P 1),.pointer (P 2)] _ HR.out Tryz.underlying142 rfl Hs.out ?_);go_loopw [8] (fun i wr=>∃ (k:Nat) (y:Sv),k≤3∧i=.int .i64 k∧Hid (StAt Ts col wr b bd N y (serveN s k))∧Hid (Chg (Fl col) w wr)∧Hid (Avs x y (serveN s k))) (fun i _=>3 - (intOf i).toNat)
 case atStart=>exact ⟨0,x,by omega,rfl,H.out,Chg.refl,Avs.refl⟩
 case round =>
  obtain ⟨k,y,hk,rfl,HS,HC,HA⟩:=hrel;by_cases h3:k<3
  ·obtain ⟨E,N0,Q⟩:=HP.out k h3
   have i0:=idx_c P h3;have hk3:(k:Int)<3:=by omega
   cases ho:s.askAt k with
   |none =>
    rw [N0 ho] at i0;have Ho:=Lib.hid ho;clear ho N0 Q E;go_wp2_with fail;go_roundw
    case rel =>
     have e:serveN s (k+1)=serveN s k:=serve1_none (serveN_nn s k k Ho.out);exact ⟨k+1,y,by omega,by go_num,e▸HS.out,HC.out,e▸HA.out⟩
    case measure=>simp [intOf]; omega
   |some a =>
    obtain ⟨ba,hp⟩:=Q a ho;rw [hp] at i0 E;have Ho:Hid ((serveN s k).askAt k=some a):=show _=_ from (serveN_ge s k k (by omega)).trans ho;have Hy:Hid (y.av k=.pointer (some ⟨ba,0,none⟩)):=show _=_ from ((HA.out k h3).elim id (fun h=>by rw [Ho.out] at h; cases h)).trans E;obtain ⟨lv,hrow,_,_⟩:=HS.out.askc h3 Ho.out Hy.out;have k0:wr.cell? ⟨ba,0,none⟩=some (.int .i64 a.kind):=cell_of_row _ _ 0 _ _ _ hrow;have HIn:=Lib.hid (HI.out.serveN k);have HBn:=Lib.hid (HB.out.serveN h0 k);have Hkd:=Lib.hid ((HIn.out.ask k a Ho.out).kind);clear ho hrow N0 Q E hp;rcases Hkd.out with hkd | hkd | hkd
    all_goals
     rw [hkd] at k0;go_wp2_with fail;clear k0
    ·have He:Hid (serveN s (k+1)=(serveN s k).read k a):=show _=_ from serve1_read Ho.out hkd
     clear hkd;refine (read_any col wr b bd N k y _ a ba HS.out HIn.out ⟨by have:=HBn.out.use; omega,by have:=HBn.out.tag; omega⟩ h3 Ho.out Hy.out).mono ?_;rintro e w1 ⟨y1,rfl,hst1,hc1,hav1⟩;have Hst1:=Lib.hid hst1;have HC1:=Lib.hid (HS.out.chg1 hc1);have HA1:=Lib.hid hav1;clear hst1 hc1 hav1;go_wp2_with fail;go_roundw
     case rel=>exact ⟨k+1,y1,by omega,by go_num,He.out▸Hst1.out,HC.out.two HC1.out,HA.out.trans (He.out▸HA1.out) (fun j hj=>serve1_nn _ _ hj)⟩
     case measure=>simp [intOf]; omega
    ·have He:Hid (serveN s (k+1)=(serveN s k).write k a):=show _=_ from serve1_write Ho.out hkd
     clear hkd;refine (write_any col wr b bd N k y _ a ba HS.out HIn.out ⟨by have:=HBn.out.use; omega,by have:=HBn.out.tag; omega⟩ h3 Ho.out Hy.out).mono ?_;rintro e w1 ⟨y1,rfl,hst1,hc1,hav1⟩;have Hst1:=Lib.hid hst1;have HC1:=Lib.hid (HS.out.chg1 hc1);have HA1:=Lib.hid hav1;clear hst1 hc1 hav1;go_wp2_with fail;go_roundw
     case rel=>exact ⟨k+1,y1,by omega,by go_num,He.out▸Hst1.out,HC.out.two HC1.out,HA.out.trans (He.out▸HA1.out) (fun j hj=>serve1_nn _ _ hj)⟩
     case measure=>simp [intOf]; omega
    ·have He:Hid (serveN s (k+1)=(serveN s k).sync k a):=show _=_ from serve1_sync Ho.out hkd
     clear hkd;refine (sync_any col wr b bd N k y _ a ba HS.out HIn.out h3 Ho.out Hy.out).mono ?_;rintro e w1 ⟨y1,rfl,hst1,hc1,hav1⟩;have Hst1:=Lib.hid hst1;have HC1:=Lib.hid (hc1);have HA1:=Lib.hid hav1;clear hst1 hc1 hav1;go_wp2_with fail;go_roundw
     case rel=>exact ⟨k+1,y1,by omega,by go_num,He.out▸Hst1.out,HC.out.two HC1.out,HA.out.trans (He.out▸HA1.out) (fun j hj=>serve1_nn _ _ hj)⟩
     case measure=>simp [intOf]; omega
  ·obtain rfl:k=3:=by omega
   have hi:((3:Nat):Int)=3:=rfl;go_wp2_with fail;go_end0;exact ⟨_,rfl,serveN_3 s▸HS.out,HC.out,serveN_3 s▸HA.out⟩
end Go.Proofs.YtagndjihiklmiaaGreatDoor
namespace Go.Proofs.YtagndjihiklmiaaGreatDoor
open Go.RowKit Go.Sort
theorem StAt.nowd {T:Tys} {col:Nat→Nat} {w w':World} {b bd N:Nat} {x:Sv} {s:St} (h:StAt T col w b bd N x s) (hb:Same1 b w w') {n:Int} (hrow:w'.heap[b]?=some (.cells (x.row { s with now:=n } bd) T.S (0,0))):StAt T col w' b bd N x { s with now:=n } :=
 h.turn1 hb hrow rfl rfl rfl rfl h.bufs h.wait h.asks h.ask h.done h.errs
theorem StAt.deadd {T:Tys} {col:Nat→Nat} {w w':World} {b bd N:Nat} {x:Sv} {s:St} (h:StAt T col w b bd N x s) (hb:Same1 b w w') {n:Bool} (hrow:w'.heap[b]?=some (.cells (x.row { s with dead:=n } bd) T.S (0,0))):StAt T col w' b bd N x { s with dead:=n } :=
 h.turn1 hb hrow rfl rfl rfl rfl h.bufs h.wait h.asks h.ask h.done h.errs
theorem tick_any (col:Nat→Nat) (w:World) (b bd N:Nat) (x:Sv) (s:St) (K:Int) (h:StAt Ts col w b bd N x s) (hI:Inv s) (hB:Bd K s) (h0:0≤K) (hK:K≤800000000) :
  Calls Tryz.prog 44 #[.pointer (some ⟨b,0,none⟩)] w (Ret4 Ts col w b bd N x s.tick (.tuple #[])):=by
 have H:=Lib.hid h;have HI:=Lib.hid hI;have HB:=Lib.hid hB;have c8:w.cell? ⟨b,8,none⟩=some (.int .i64 s.now):=h.cell 8;have f8:=h.frozen 8;have hn:=hI.now;have hw:IntKind.i64.wrap (s.now+1)=s.now+1:=by rw [IntKind.wrap_i64]; omega
 clear h hI hB;go_enter Tryz.func44,Tryz.ntmps44;have HI1:Hid (Inv { s with now:=min (s.now+1) 1000000000 }):=show Inv _ from { HI.out with now:=by have:=HI.out.now; simp only; omega };have HB1:Hid (Bd K { s with now:=min (s.now+1) 1000000000 }):=show Bd _ _ from ⟨HB.out.use,HB.out.tag,HB.out.waits⟩
 obtain ⟨n,hn⟩:∃ n:Int,n=min (s.now+1) 1000000000:=⟨_,rfl⟩
 rw [← hn] at HI1 HB1;have Hn:=Lib.hid hn
 rcases (by omega:(s.now+1≤1000000000∧s.now+1=n)∨(¬ s.now+1≤1000000000∧1000000000=n)) with ⟨hlt,he⟩ | ⟨hlt,he⟩
 all_goals
  have He:=Lib.hid he;clear hn he;go_wp2_with fail;rw [He.out];have hS:=(Same1.refl (b:=b) (w:=w)).setCell 8 (.int .i64 n);have H1:=Lib.hid (H.out.nowd hS (n:=n) (heap_setCell_same _ _ 8 _ _ _ H.out.row));have HC:=Lib.hid (H.out.chg1 (hS.chg (F:=fun k=>k=b) rfl));clear hS c8 f8 hw;generalize World.setCell _ _ _=w1 at H1 HC ⊢;refine (serve_any col w1 b bd N x _ K H1.out HI1.out HB1.out h0 hK).mono ?_;rintro e w2 ⟨y2,rfl,hst2,hc2,hav2⟩;have Hst2:=Lib.hid hst2;have Hc2:=Lib.hid hc2;have Hav2:=Lib.hid hav2;clear hst2 hc2 hav2;go_wp2_with fail;go_end0;have e:s.tick=St.serve { s with now:=n }:=by rw [Hn.out]; rfl
  rw [e];exact ⟨_,rfl,Hst2.out,HC.out.two Hc2.out,Hav2.out⟩
theorem tell1_hit {s:St} {c:Nat} {a:Ak} {p:Int} {d:ByteArray} (h:s.askAt c=some a) (hk:a.kind=1) (hp:a.pos=p):St.tell1 p d s c=s.answer c d 0:=by unfold St.tell1; rw [h]; simp [hk,hp]
theorem tell1_miss {s:St} {c:Nat} {a:Ak} {p:Int} {d:ByteArray} (h:s.askAt c=some a) (hn:¬ (a.kind=1∧a.pos=p)):St.tell1 p d s c=s:=by unfold St.tell1; rw [h]; exact if_neg hn
def tellN (p:Int) (d:ByteArray) (s:St):Nat→St
 |0=>s
 |n+1=>St.tell1 p d (tellN p d s n) n
theorem tellN_3 (p:Int) (d:ByteArray) (s:St):tellN p d s 3=s.tell p d:=rfl
theorem tellN_ge (p:Int) (d:ByteArray) (s:St):∀ (n j:Nat),n≤j→(tellN p d s n).askAt j=s.askAt j
 |0,_,_=>rfl
 |n+1,j,h=>by rw [tellN,tell1_ne _ (by omega),tellN_ge p d s n j (by omega)]
theorem tell1_nn (p:Int) (d:ByteArray) (s:St) (c:Nat) {j:Nat} (h:s.askAt j=none):(St.tell1 p d s c).askAt j=none:=by
 by_cases hj:j=c
 ·subst hj; rw [tell1_none h]; exact h
 ·rw [tell1_ne s hj]; exact h
theorem tellN_nn (p:Int) (d:ByteArray) (s:St):∀ (n j:Nat),s.askAt j=none→(tellN p d s n).askAt j=none
 |0,_,h=>h
 |n+1,j,h=>by rw [tellN]; exact tell1_nn _ _ _ _ (tellN_nn p d s n j h)
theorem tell_any (col:Nat→Nat) (w:World) (b bd N:Nat) (x:Sv) (s:St) (p:Int) (d:ByteArray) (h:StAt Ts col w b bd N x s) (hI:Inv s) :
  Calls Tryz.prog 94 #[.pointer (some ⟨b,0,none⟩),.int .i64 p,.string d] w (Ret2 Ts col w b bd N x (s.tell p d) (.tuple #[])):=by
 obtain ⟨P,hR,hP⟩:=h.ptrs;have HR:=Lib.hid hR;have HP:=Lib.hid hP;have H:=Lib.hid h;have HI:=Lib.hid hI;have Hs:Hid ((Tryz.prog.info? 142).map (·.size)=some 3):=show _=_ by kernel_rfl
 clear h hI hP hR;go_enter Tryz.func94,Tryz.ntmps94;go_wp2_with (refine wpList_load_mid rfl 142 (.tmp 10) rfl b 11 rfl [.pointer (P 0),.pointer (P 1),.pointer (P 2)] _ HR.out Tryz.underlying142 rfl Hs.out ?_);go_loopw [12] (fun i wr=>∃ (k:Nat) (y:Sv),k≤3∧i=.int .i64 k∧Hid (StAt Ts col wr b bd N y (tellN p d s k))∧Hid (Chg (fun k=>k=b) w wr)∧Hid (Avs x y (tellN p d s k))) (fun i _=>3 - (intOf i).toNat)
 case atStart=>exact ⟨0,x,by omega,rfl,H.out,Chg.refl,Avs.refl⟩
 case round =>
  obtain ⟨k,y,hk,rfl,HS,HC,HA⟩:=hrel;by_cases h3:k<3
  ·obtain ⟨E,N0,Q⟩:=HP.out k h3
   have i0:=idx_c P h3;have hk3:(k:Int)<3:=by omega
   cases ho:s.askAt k
   ·rw [N0 ho] at i0
    have He:Hid (tellN p d s (k+1)=tellN p d s k):=show _=_ from tell1_none (tellN_nn p d s k k ho);clear ho N0 Q E;go_wp2_with fail;go_roundw
    case rel=>exact ⟨k+1,y,by omega,by go_num,He.out▸HS.out,HC.out,He.out▸HA.out⟩
    case measure=>simp [intOf]; omega
   ·rename_i a
    obtain ⟨ba,hp⟩:=Q a ho;rw [hp] at i0 E;have Ho:Hid ((tellN p d s k).askAt k=some a):=show _=_ from (tellN_ge p d s k k (by omega)).trans ho;have Hy:Hid (y.av k=.pointer (some ⟨ba,0,none⟩)):=show _=_ from ((HA.out k h3).elim id (fun h=>by rw [Ho.out] at h; cases h)).trans E;obtain ⟨lv,hrow,_,_⟩:=HS.out.askc h3 Ho.out Hy.out;have k0:wr.cell? ⟨ba,0,none⟩=some (.int .i64 a.kind):=cell_of_row _ _ 0 _ _ _ hrow;have k1:wr.cell? ⟨ba,1,none⟩=some (.int .i64 a.pos):=cell_of_row _ _ 1 _ _ _ hrow;clear ho hrow N0 Q E hp;by_cases hh:a.kind=1∧a.pos=p
    ·have He:Hid (tellN p d s (k+1)=(tellN p d s k).answer k d 0):=show _=_ from tell1_hit Ho.out hh.1 hh.2
     rw [hh.1] at k0;rw [hh.2] at k1;clear hh;go_wp2_with fail;refine (answer_any col wr b bd N y _ k d 0 HS.out h3).mono ?_;rintro e w1 ⟨rfl,hs1,hst1⟩;have Hst1:=Lib.hid hst1;have HC1:=Lib.hid (hs1.chg (F:=fun k=>k=b) rfl);clear hst1 hs1 k0 k1;go_wp2_with fail;go_roundw
     case rel=>exact ⟨k+1,_,by omega,by go_num,He.out▸Hst1.out,HC.out.two HC1.out,He.out▸Avs.ans HA.out HS.out.asks h3⟩
     case measure=>simp [intOf]; omega
    ·have He:Hid (tellN p d s (k+1)=tellN p d s k):=show _=_ from tell1_miss Ho.out hh
     by_cases h1:a.kind=1
     all_goals
      first
       |(have h2:(a.pos == p)=false:=by simp only [beq_eq_false_iff_ne]; exact fun e=>hh ⟨h1,e⟩
         rw [h1] at k0)
       |have h2:(a.kind == 1)=false:=by simp only [beq_eq_false_iff_ne]; exact h1
      clear hh h1;go_wp2_with fail;go_roundw
      case rel=>exact ⟨k+1,y,by omega,by go_num,He.out▸HS.out,HC.out,He.out▸HA.out⟩
      case measure=>simp [intOf]; omega
  ·obtain rfl:k=3:=by omega
   have hi:((3:Nat):Int)=3:=rfl;go_wp2_with fail;go_end0;exact ⟨_,rfl,tellN_3 p d s▸HS.out,HC.out,tellN_3 p d s▸HA.out⟩
end Go.Proofs.YtagndjihiklmiaaGreatDoor
namespace Go.Proofs.YtagndjihiklmiaaGreatDoor
open Go.RowKit
theorem AskAt.mono {TA:TypeId} {F G:Nat→Prop} {w:World} {v:Value} {o:Option Ak} (h:AskAt TA F w v o) (hg:∀ k,F k→k<w.heap.size→G k):AskAt TA G w v o:=by
 cases o with
 |none=>exact h
 |some a =>
  obtain ⟨ba,lv,h1,h2,h3,h4⟩:=h;exact ⟨ba,lv,h1,hg ba h2 (Array.getElem?_eq_some_iff.1 h3).1,h3,⟨h4.1,fun k hk=>hg k (h4.2 k hk) (h4.1.lt k hk).2⟩⟩
section
variable {T:Tys} {col:Nat→Nat} {w w':World} {b bd N:Nat} {x:Sv} {s:St}
structure Rec (col col':Nat→Nat) (w w':World):Prop where
 old:∀ k,k<w.heap.size→col' k=col k
 grow:∀ k,Fl col' k→Fl col k∨w.heap.size≤k
theorem StAt.drvd (h:StAt T col w b bd N x s) {v':Drv} {n' N':Nat} {S' F':Nat→Prop} (hp:DrvAt T.D T.P T.V S' F' w' x.bv bd x.bt n' v') (hch:Chg (fun k=>Fd col k∨k=x.bt) w w') (hF:∀ k,F' k→Grow (Fd col) w w' k)
  (hS:∀ k,S' k→Grow (Im w col) w w' k) (hSF:∀ k,S' k→¬ F' k) (hn:n'≤N') :
  ∃ col',StAt T col' w' b bd N' { x with n:=n' } { s with v:=v' }∧Rec col col' w w'∧∀ k,S' k→Im w' col' k:=by
 classical
 obtain ⟨col',hcol⟩:∃ c:Nat→Nat,∀ k,c k=if w.heap.size≤k then (if F' k then 4 else 0) else col k:=⟨_,fun _=>rfl⟩
 have hold:∀ k,k<w.heap.size→col' k=col k:=fun k hk=>by rw [hcol,if_neg (by omega)]
 have hnew:∀ k,w.heap.size≤k→col' k=if F' k then 4 else 0:=fun k hk=>by rw [hcol,if_pos hk]
 have hk:∀ k,k<w.heap.size→col k≠4→col k≠3→w'.heap[k]?=w.heap[k]?:=fun k hl h4 h3=>hch.block k hl (fun hf=>hf.elim h4 (fun e=>h3 (by rw [e,h.ct])))
 have him:∀ k,Im w col k→Im w' col' k:=fun k hk=>⟨Nat.lt_of_lt_of_le hk.1 hch.size,by rw [hold k hk.1]; exact hk.2⟩
 have hbv:x.bv<w.heap.size:=(Array.getElem?_eq_some_iff.1 h.drv.row).1;have hbt:x.bt<w.heap.size:=h.lt x.bt (by rw [h.ct]; decide)
 have hS':∀ k,S' k→Im w' col' k:=fun k hk=>by
  rcases hS k hk with h1 | ⟨h1,h2⟩
  ·exact him k h1
  ·exact ⟨h2,by rw [hnew k h1,if_neg (hSF k hk)]⟩
 have hF':∀ k,F' k→Fd col' k:=fun k hk=>by
  show col' k=4
  rcases hF k hk with h1 | ⟨h1,_⟩
  ·have h1':col k=4:=h1
   have hl:=h.lt k (by omega);rw [hold k hl]; exact h1
  ·rw [hnew k h1,if_pos hk]
 refine ⟨col',⟨(hk b h.bl (by rw [h.cb]; decide) (by rw [h.cb]; decide)).trans h.row,⟨hp.row,hp.map,(hp.dev.mono hF').more hS',?_,?_,?_⟩,hn,?_,?_,h.asks,fun c hc=>?_,h.done,h.errs,by rw [hold b h.bl]; exact h.cb,by rw [hold _ hbv]; exact h.cv,by rw [hold _ hbt]; exact h.ct,fun k hk=>?_⟩,⟨hold,fun k hk=>?_⟩,hS'⟩
 ·intro hf
  have h1:col' x.bv=4:=hf;rw [hold _ hbv,h.cv] at h1; cases h1
 ·intro hf
  have h1:col' x.bt=4:=hf;rw [hold _ hbt,h.ct] at h1; cases h1
 ·intro k hk
  constructor
  ·rintro rfl
   have h1:col' x.bv=0:=hk.2;rw [hold _ hbv,h.cv] at h1; cases h1
  ·rintro rfl
   have h1:col' x.bt=0:=hk.2;rw [hold _ hbt,h.ct] at h1; cases h1
 ·exact (h.bufs.keep (fun k hS hl=>hk k hl (by rw [hS.2]; decide) (by rw [hS.2]; decide))).more him
 ·exact (h.wait.keep (fun k hS hl=>hk k hl (by rw [hS.2]; decide) (by rw [hS.2]; decide))).more him
 ·exact ((h.ask c hc).mono (G:=Fa col' c) (fun k hf hl=>by show col' k=5+c; rw [hold k hl]; exact hf)).keep (fun k hf hl=>hk k hl (by have h1:col' k=5+c:=hf; rw [hold k hl] at h1; omega) (by have h1:col' k=5+c:=hf; rw [hold k hl] at h1; omega))
 ·have h1:col' k≠0:=hk
  rcases Nat.lt_or_ge k w.heap.size with hl | hl
  ·exact Nat.lt_of_lt_of_le hl hch.size
  ·rw [hnew k hl] at h1
   have hf:F' k:=by
    apply Classical.byContradiction;intro hn;rw [if_neg hn] at h1;exact h1 rfl
   rcases hF k hf with h2 | ⟨_,h2⟩
   ·have h3:col k=4:=h2
    exact Nat.lt_of_lt_of_le (h.lt k (by omega)) hch.size
   ·exact h2
 ·rcases Nat.lt_or_ge k w.heap.size with hl | hl
  ·left
   have h1:col' k≠0∧col' k≠9:=hk;rw [hold k hl] at h1; exact h1
  ·exact .inr hl
theorem Rec.refl {col:Nat→Nat} {w w':World}:Rec col col w w':=⟨fun _ _=>rfl,fun _ hk=>.inl hk⟩
theorem Rec.trans {c0 c1 c2:Nat→Nat} {w0 w1 w2:World} (h:Rec c0 c1 w0 w1) (k:Rec c1 c2 w1 w2) (hs:w0.heap.size≤w1.heap.size):Rec c0 c2 w0 w2 :=
 ⟨fun i hi=>(k.old i (by omega)).trans (h.old i hi),fun i hi=>(k.grow i hi).elim (fun h1=>h.grow i h1) (fun h1=>.inr (by omega))⟩
theorem Chg.recol {c0 c1:Nat→Nat} {a b c:World} (h:Chg (Fl c0) a b) (k:Chg (Fl c1) b c) (hg:∀ k,Fl c1 k→Fl c0 k∨a.heap.size≤k):Chg (Fl c0) a c :=
 ⟨k.os.trans h.os,k.tape.trans h.tape,k.output.trans h.output,Nat.le_trans h.size k.size,fun i hi hn=>(k.block i (Nat.lt_of_lt_of_le hi h.size) (fun hf=>(hg i hf).elim hn (fun h2=>by omega))).trans (h.block i hi hn)⟩
end
def Ret5 (T:Tys) (col:Nat→Nat) (w:World) (b bd N:Nat) (t:St) (v:Value):Ending→World→Prop :=
 fun e w'=>∃ (col':Nat→Nat) (y:Sv),e=.returned v∧StAt T col' w' b bd N y t∧Chg (Fl col) w w'∧Rec col col' w w'
end Go.Proofs.YtagndjihiklmiaaGreatDoor
namespace Go.Proofs.YtagndjihiklmiaaGreatDoor
open Go.RowKit Go.Sort
def Sv.put (x:Sv) (c:Nat) (v:Value):Sv:=match c with
 |0=>{ x with a0:=v }
 |1=>{ x with a1:=v }
 |_=>{ x with a2:=v }
section
variable {T:Tys} {col:Nat→Nat} {w w':World} {b bd N:Nat} {x:Sv} {s:St}
theorem Sv.put_av {c j:Nat} (v:Value) (hc:c<3) (hj:j<3):(x.put c v).av j=if j=c then v else x.av j:=by
 match c,hc,j,hj with
 |0,_,0,_=>rfl
 |0,_,1,_=>rfl
 |0,_,2,_=>rfl
 |1,_,0,_=>rfl
 |1,_,1,_=>rfl
 |1,_,2,_=>rfl
 |2,_,0,_=>rfl
 |2,_,1,_=>rfl
 |2,_,2,_=>rfl
theorem Sv.put_rest {c:Nat} (v:Value) (hc:c<3):(x.put c v).bv=x.bv∧(x.put c v).bt=x.bt∧(x.put c v).n=x.n∧(x.put c v).bufs=x.bufs∧(x.put c v).wait=x.wait∧(x.put c v).d0=x.d0∧(x.put c v).d1=x.d1∧(x.put c v).d2=x.d2∧(x.put c v).e0=x.e0∧(x.put c v).e1=x.e1∧(x.put c v).e2=x.e2:=by
 match c,hc with
 |0,_=>exact ⟨rfl,rfl,rfl,rfl,rfl,rfl,rfl,rfl,rfl,rfl,rfl⟩
 |1,_=>exact ⟨rfl,rfl,rfl,rfl,rfl,rfl,rfl,rfl,rfl,rfl,rfl⟩
 |2,_=>exact ⟨rfl,rfl,rfl,rfl,rfl,rfl,rfl,rfl,rfl,rfl,rfl⟩
theorem StAt.cellA (h:StAt T col w b bd N x s) {c:Nat} (hc:c<3):w.cell? ⟨b,11+c,none⟩=some (x.av c):=match c,hc with
 |0,_=>h.cell 11
 |1,_=>h.cell 12
 |2,_=>h.cell 13
theorem StAt.asked (h:StAt T col w b bd N x s) {c:Nat} (hc:c<3) {a:Ak} {B:Nat} {lv:Value} (hch:Chg (fun k=>k=b) w w') (hB:w.heap.size≤B) (hBx:w'.heap[B]?=some (.cells #[.int .i64 a.kind,.int .i64 a.pos,.string a.data,lv] T.A (0,0)))
  (hown:w'.ownsRow w.heap.size 3 1 lv a.left.length (a.left.map (.int .i64))) (hrow:w'.heap[b]?=some (.cells ((x.put c (.pointer (some ⟨B,0,none⟩))).row { s with asks:=s.asks.set c (some a) } bd) T.S (0,0))) :
  ∃ col',StAt T col' w' b bd N (x.put c (.pointer (some ⟨B,0,none⟩))) { s with asks:=s.asks.set c (some a) }∧Rec col col' w w':=by
 classical
 obtain ⟨col',hcol⟩:∃ f:Nat→Nat,∀ k,f k=if k=B∨lv.ownBlock=some k then 5+c else col k:=⟨_,fun _=>rfl⟩
 have hold:∀ k,k<w.heap.size→col' k=col k:=fun k hk=>by
  rw [hcol,if_neg];rintro (h1 | h1)
  ·omega
  ·have:=(hown.lt k h1).1; omega
 have hk:∀ k,k<w.heap.size→col k≠1→w'.heap[k]?=w.heap[k]?:=fun k hl h1=>hch.block k hl (fun e=>h1 (by rw [e,h.cb]))
 have him:∀ k,Im w col k→Im w' col' k:=fun k hk=>⟨Nat.lt_of_lt_of_le hk.1 hch.size,by rw [hold k hk.1]; exact hk.2⟩
 have hbv:x.bv<w.heap.size:=(Array.getElem?_eq_some_iff.1 h.drv.row).1;have hbt:x.bt<w.heap.size:=h.lt x.bt (by rw [h.ct]; decide);obtain ⟨p1,p2,p3,p4,p5,p6,p7,p8,p9,p10,p11⟩:=x.put_rest (.pointer (some ⟨B,0,none⟩)) hc;obtain ⟨f,hf,hv⟩:=h.drv.map;refine ⟨col',⟨hrow,?_,by rw [p3]; exact h.n,?_,?_,by show (s.asks.set c _).length=3; rw [List.length_set]; exact h.asks,fun j hj=>?_,by rw [p6,p7,p8]; exact h.done,by rw [p9,p10,p11]; exact h.errs,by rw [hold b h.bl]; exact h.cb,by rw [p1,hold _ hbv]; exact h.cv,by rw [p2,hold _ hbt]; exact h.ct,fun k hk=>?_⟩,⟨hold,fun k hk=>?_⟩⟩
 ·rw [p1,p2,p3]
  refine ⟨(hk _ hbv (by rw [h.cv]; decide)).trans h.drv.row,⟨f,hf.keep (hk _ hbt (by rw [h.ct]; decide)),hv⟩,?_,?_,?_,?_⟩
  ·refine ((h.drv.dev.keep (fun k hf hl=>hk k hl (by rw [show col k=4 from hf]; decide)) (fun k hS hl=>hk k hl (by rw [hS.2]; decide))).more him).mono (fun k hk=>?_)
   have h1:col k=4:=hk;show col' k=4;rw [hold k (h.lt k (by omega))]; exact h1
  ·intro h1
   have h1':col' x.bv=4:=h1;rw [hold _ hbv,h.cv] at h1'; cases h1'
  ·intro h1
   have h1':col' x.bt=4:=h1;rw [hold _ hbt,h.ct] at h1'; cases h1'
  ·intro k hk
   constructor
   ·rintro rfl
    have h1:col' x.bv=0:=hk.2;rw [hold _ hbv,h.cv] at h1; cases h1
   ·rintro rfl
    have h1:col' x.bt=0:=hk.2;rw [hold _ hbt,h.ct] at h1; cases h1
 ·rw [p4]; exact (h.bufs.keep (fun k hS hl=>hk k hl (by rw [hS.2]; decide))).more him
 ·rw [p5]; exact (h.wait.keep (fun k hS hl=>hk k hl (by rw [hS.2]; decide))).more him
 ·rw [x.put_av _ hc hj]
  by_cases e:j=c
  ·subst e
   rw [if_pos rfl]
   have:({ s with asks:=s.asks.set j (some a) }:St).askAt j=some a:=by
    unfold St.askAt;simp [List.getD_eq_getElem?_getD,List.getElem?_set,h.asks,hj]
   rw [this];exact ⟨B,lv,rfl,by show col' B=_; rw [hcol,if_pos (.inl rfl)],hBx,⟨own_lo hown (Nat.zero_le _),fun k hk=>by show col' k=_; rw [hcol,if_pos (.inr hk)]⟩⟩
  ·rw [if_neg e]
   have:({ s with asks:=s.asks.set c (some a) }:St).askAt j=s.askAt j:=by
    unfold St.askAt;simp only [List.getD_eq_getElem?_getD];rw [List.getElem?_set_ne (Ne.symm e)]
   rw [this];exact ((h.ask j hj).mono (G:=Fa col' j) (fun k hf hl=>by show col' k=5+j; rw [hold k hl]; exact hf)).keep (fun k hf hl=>hk k hl (by have h1:col' k=5+j:=hf; rw [hold k hl] at h1; omega))
 ·have h1:col' k≠0:=hk
  rcases Nat.lt_or_ge k w.heap.size with hl | hl
  ·exact Nat.lt_of_lt_of_le hl hch.size
  ·rw [hcol] at h1
   split at h1
   ·rename_i h2
    rcases h2 with rfl | h2
    ·exact (Array.getElem?_eq_some_iff.1 hBx).1
    ·exact (hown.lt k h2).2
   ·exact Nat.lt_of_lt_of_le (h.lt k h1) hch.size
 ·rcases Nat.lt_or_ge k w.heap.size with hl | hl
  ·left
   have h1:col' k≠0∧col' k≠9:=hk;rw [hold k hl] at h1; exact h1
  ·exact .inr hl
end
theorem ask_shape {s:St} {client kind p:Int} {d:ByteArray} (h:client<0∨3≤client∨kind<1∨3<kind):s.ask client kind p d=(s,3):=by unfold St.ask; rw [if_pos h]
theorem ask_bound {s:St} {client kind p:Int} {d:ByteArray} (h:¬ (client<0∨3≤client∨kind<1∨3<kind)) (h2:p<0∨32≤p∨4<d.size∨(kind=3∧p≠0)∨(kind≠2∧d.size≠0)):s.ask client kind p d=(s,1):=by unfold St.ask; rw [if_neg h,if_pos h2]
theorem ask_busy {s:St} {client kind p:Int} {d:ByteArray} (h:¬ (client<0∨3≤client∨kind<1∨3<kind)) (h2:¬ (p<0∨32≤p∨4<d.size∨(kind=3∧p≠0)∨(kind≠2∧d.size≠0))) (h3:(s.askAt client.toNat).isSome=true):s.ask client kind p d=(s,6):=by unfold St.ask; rw [if_neg h,if_neg h2,if_pos h3]
theorem ask_ok {s:St} {client kind p:Int} {d:ByteArray} (h:¬ (client<0∨3≤client∨kind<1∨3<kind)) (h2:¬ (p<0∨32≤p∨4<d.size∨(kind=3∧p≠0)∨(kind≠2∧d.size≠0))) (h3:s.askAt client.toNat=none) :
  s.ask client kind p d=(({ s with asks:=s.asks.set client.toNat (some ⟨kind,p,d,if kind=3 then St.dirtyAt s.bufs else []⟩) }:St).serve,0):=by unfold St.ask; rw [if_neg h,if_neg h2,h3]; rfl
theorem str_no {d:ByteArray} (h:d.size=0):(!d.toList.isEmpty)=false:=by
 rw [Lib.toList_data];have e:d.data=#[]:=Array.eq_empty_of_size_eq_zero h;rw [e]; rfl
theorem str_yes {d:ByteArray} (h:d.size≠0):(!d.toList.isEmpty)=true:=by
 rw [Lib.toList_data]
 have e:d.data.toList≠[]:=fun e=>h (by
  have:=congrArg List.length e
  simpa using this)
 simpa using e
theorem row_put (x:Sv) (s:St) (bd c:Nat) (v:Value) (hc:c<3) (l:List (Option Ak)):(x.row s bd).setIfInBounds (11+c) v=(x.put c v).row { s with asks:=l } bd:=match c,hc with
 |0,_=>rfl
 |1,_=>rfl
 |2,_=>rfl
theorem ask_no (col:Nat→Nat) (w:World) (b bd N:Nat) (x:Sv) (s:St) (client kind p:Int) (d:ByteArray) (n:Nat) (h:StAt Ts col w b bd N x s) (He:Hid (s.ask client kind p d=(s,n))) (key:(n=3∧(client<0∨(¬ client<0∧3≤client)∨(¬ client<0∧¬ 3≤client∧kind<1)∨(¬ client<0∧¬ 3≤client∧¬ kind<1∧3<kind)))∨(n=1∧¬ client<0∧¬ 3≤client∧¬ kind<1∧¬ 3<kind∧(p<0∨(¬ p<0∧32≤p)∨(¬ p<0∧¬ 32≤p∧(4:Int)<(d.size:Int))∨(¬ p<0∧¬ 32≤p∧¬ (4:Int)<(d.size:Int)∧((kind=1∧d.size≠0)∨(kind=3∧p≠0)∨(kind=3∧p=0∧d.size≠0)))))) :
  Calls Tryz.prog 42 #[.pointer (some ⟨b,0,none⟩),.int .i64 client,.int .i64 kind,.int .i64 p,.string d] w (Ret5 Ts col w b bd N (s.ask client kind p d).1 (errV (s.ask client kind p d).2)):=by
 have H:=Lib.hid h;clear h
 rcases key with ⟨rfl,h1 | ⟨h1,h2⟩ | ⟨h1,h2,h3⟩ | ⟨h1,h2,h3,h4⟩⟩ | ⟨rfl,h1,h2,h3,h4,h5 | ⟨h5,h6⟩ | ⟨h5,h6,h7⟩ | ⟨h5,h6,h7,⟨rfl,h8⟩ | ⟨rfl,h9⟩ | ⟨rfl,rfl,h8⟩⟩⟩
 all_goals
  try have hse:=str_yes h8
  try clear h8
  try have hp:(p != 0)=true:=by simpa using h9
  go_enter Tryz.func42,Tryz.ntmps42;go_wp2_with fail;go_ret;rw [He.out];exact ⟨_,_,rfl,H.out,Chg.refl,.refl⟩
theorem ask_busy1 (col:Nat→Nat) (w:World) (b bd N:Nat) (x:Sv) (s:St) (kind p:Int) (d:ByteArray) (c ba:Nat) (h:StAt Ts col w b bd N x s) (hc:(c:Int)<3) (key:(¬ p<0∧¬ 32≤p∧¬ (4:Int)<(d.size:Int)∧((kind=1∧d.size=0)∨kind=2∨(kind=3∧p=0∧d.size=0)))) (cA:w.cell? ⟨b,11+c,none⟩=some (.pointer (some ⟨ba,0,none⟩))) (He:Hid (s.ask c kind p d=(s,6))) :
  Calls Tryz.prog 42 #[.pointer (some ⟨b,0,none⟩),.int .i64 c,.int .i64 kind,.int .i64 p,.string d] w (Ret5 Ts col w b bd N (s.ask c kind p d).1 (errV (s.ask c kind p d).2)):=by
 have H:=Lib.hid h;have hc0:¬ (c:Int)<0:=by omega
 have hc3:¬ 3≤(c:Int):=by omega
 clear h;obtain ⟨h5,h6,h7,key⟩:=key
 rcases key with ⟨rfl,h8⟩ | rfl | ⟨rfl,rfl,h8⟩
 all_goals
  try have hse:=str_no h8
  try clear h8
  go_enter Tryz.func42,Tryz.ntmps42;go_wp2_with fail;go_ret;rw [He.out];exact ⟨_,_,rfl,H.out,Chg.refl,.refl⟩
theorem ask_ok12 (col:Nat→Nat) (w:World) (b bd N:Nat) (x:Sv) (s:St) (kind p:Int) (d:ByteArray) (c:Nat) (K:Int) (h:StAt Ts col w b bd N x s) (hI:Inv s) (hB:Bd K s) (h0:0≤K) (hK:K≤800000000) (hc:c<3) (h5:¬ p<0) (h6:¬ 32≤p) (h7:¬ 4<d.size) (h8:(kind=1∧d.size=0)∨kind=2) (ha:s.askAt c=none) :
  Calls Tryz.prog 42 #[.pointer (some ⟨b,0,none⟩),.int .i64 c,.int .i64 kind,.int .i64 p,.string d] w (Ret5 Ts col w b bd N (s.ask c kind p d).1 (errV (s.ask c kind p d).2)):=by
 have he:=(ask_ok (s:=s) (client:=(c:Int)) (kind:=kind) (p:=p) (d:=d) (by omega) (by omega) (by rw [Int.toNat_natCast,ha]))
 rw [Int.toNat_natCast,if_neg (by omega)] at he;have He:=Lib.hid he;clear he;have HIa:Hid (Inv { s with asks:=s.asks.set c (some ⟨kind,p,d,[]⟩) }):=hI.asked (by omega) (by omega) (by omega) (by simp);have HBa:Hid (Bd K { s with asks:=s.asks.set c (some ⟨kind,p,d,[]⟩) }):=show Bd _ _ from ⟨hB.use,hB.tag,hB.waits⟩;obtain ⟨p0,e0,n0,_⟩:=h.ptr c hc;obtain rfl:=n0 ha;have c0:w.cell? ⟨b,11+c,none⟩=some (.pointer none):=(h.cellA hc).trans (congrArg some e0);have f0:=h.frozen (11+c);have H:=Lib.hid h;have hsz:¬ (4:Int)<(d.size:Int):=by omega
 clear h hI hB ha n0 e0;have hbl:=H.out.bl;have c1:∀ o,(w.alloc o).cell? ⟨b,11+c,none⟩=some (.pointer none):=fun o=>(World.cell?_alloc_lt _ _ _ hbl).trans c0
 have f1:∀ o,(w.alloc o).frozen? ⟨b,11+c,none⟩=false:=fun o=>(World.frozen?_alloc_past _ _ _ hbl).trans f0
 have hc0:¬ (c:Int)<0:=by omega
 have hc3:¬ 3≤(c:Int):=by omega
 have h3:¬ kind<1:=by omega
 have h4:¬ 3<kind:=by omega
 have hk3:(kind == 3)=false:=by simp; omega
 rcases h8 with ⟨hk,h8⟩ | hk
 all_goals
  first
   |have hk2:(kind != 2)=true:=by simp; omega
   |have hk2:(kind != 2)=false:=by simp; omega
  clear hk;try have hse:=str_no h8
  try clear h8
  go_enter Tryz.func42,Tryz.ntmps42;go_wp2_with fail;have hsz:(w.setCell ⟨b,11+c,none⟩ (.pointer (some ⟨w.heap.size,0,none⟩))).heap.size=w.heap.size:=by simp [World.setCell]
  have hbA:=(Below.refl (w.setCell ⟨b,11+c,none⟩ (.pointer (some ⟨w.heap.size,0,none⟩))).heap.size (w.setCell ⟨b,11+c,none⟩ (.pointer (some ⟨w.heap.size,0,none⟩)))).alloc (Nat.le_refl _) (.cells #[.int .i64 kind,.int .i64 p,.string d,.slice none 0 0] 152);have hnew:=heap_alloc_new (w.setCell ⟨b,11+c,none⟩ (.pointer (some ⟨w.heap.size,0,none⟩))) (.cells #[.int .i64 kind,.int .i64 p,.string d,.slice none 0 0] 152);rw [hsz] at hnew
  obtain ⟨col',hst,hrec⟩:=H.out.asked (c:=c) hc (a:=⟨kind,p,d,[]⟩) (B:=w.heap.size) (lv:=.slice none 0 0) (w':=(w.setCell ⟨b,11+c,none⟩ (.pointer (some ⟨w.heap.size,0,none⟩))).alloc (.cells #[.int .i64 kind,.int .i64 p,.string d,.slice none 0 0] 152))
   ((Chg.refl.setCell (F:=fun k=>k=b) (.inl rfl) _).step hbA) (Nat.le_refl _) hnew (World.ownsRow_nil _ _ _ _) ((hbA.block _ (by rw [hsz]; exact hbl)).trans (row_put x s bd c _ hc (s.asks.set c (some ⟨kind,p,d,[]⟩))▸heap_setCell_same _ _ (11+c) _ _ _ H.out.row))
  have hch:=(Chg.refl.setCell (F:=Fl col) (p:=⟨b,11+c,none⟩) (.inl (show col b≠0∧col b≠9 by rw [H.out.cb]; decide)) (.pointer (some ⟨w.heap.size,0,none⟩))).step hbA;have Hst:=Lib.hid hst;have Hrec:=Lib.hid hrec;have Hch:=Lib.hid hch;clear hst hrec hch hbA hnew hsz c0 c1 f0 f1;generalize World.alloc _ _=w1 at Hst Hch ⊢;refine (serve_any col' w1 b bd N _ _ K Hst.out HIa.out HBa.out h0 hK).mono ?_;rintro e w2 ⟨y2,rfl,hst2,hc2,_⟩;have Hst2:=Lib.hid hst2;have HC2:=Lib.hid (Hch.out.recol hc2 Hrec.out.grow);clear hst2 hc2;go_wp2_with fail;go_ret;rw [He.out];exact ⟨col',_,rfl,Hst2.out,HC2.out,Hrec.out.old,Hrec.out.grow⟩
end Go.Proofs.YtagndjihiklmiaaGreatDoor
