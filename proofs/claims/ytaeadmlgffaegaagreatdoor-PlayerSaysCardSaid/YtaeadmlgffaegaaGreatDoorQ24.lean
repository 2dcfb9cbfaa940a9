/- The stack, when its driver is another: what the driver made is the disk's. -/
import Derived.Test.YtaeadmlgffaegaaGreatDoorQ23
import Derived.Lib.Bytes
set_option linter.unusedSimpArgs false
set_option linter.unusedVariables false
set_option maxRecDepth 100000
set_option maxHeartbeats 8000000
namespace Go.Proofs.YtaeadmlgffaegaaGreatDoor
open Go.RowKit
theorem AskAt.mono {TA:TypeId} {F G:Nat→Prop} {w:World} {v:Value} {o:Option Ak} (h:AskAt TA F w v o) (hg:∀ k,F k→k<w.heap.size→G k):AskAt TA G w v o:=by
 cases o with
 |none=>exact h
 |some a =>
  obtain ⟨ba,lv,h1,h2,h3,h4⟩:=h
  exact ⟨ba,lv,h1,hg ba h2 (Array.getElem?_eq_some_iff.1 h3).1,h3,⟨h4.1,fun k hk=>hg k (h4.2 k hk) (h4.1.lt k hk).2⟩⟩
section
variable {T:Tys} {col:Nat→Nat} {w w':World} {b bd N:Nat} {x:Sv} {s:St}
structure Rec (col col':Nat→Nat) (w w':World):Prop where
 old:∀ k,k<w.heap.size→col' k=col k
 grow:∀ k,Fl col' k→Fl col k∨w.heap.size≤k
theorem StAt.drvd (h:StAt T col w b bd N x s) {v':Drv} {n' N':Nat} {S' F':Nat→Prop} (hp:DrvAt T.D T.P T.V S' F' w' x.bv bd x.bt n' v') (hch:Chg (fun k=>Fd col k∨k=x.bt) w w') (hF:∀ k,F' k→Grow (Fd col) w w' k)
  (hS:∀ k,S' k→Grow (Im w col) w w' k) (hSF:∀ k,S' k→¬ F' k) (hn:n'≤N') :
  ∃ col',StAt T col' w' b bd N' { x with n:=n' } { s with v:=v' }∧Rec col col' w w'∧∀ k,S' k→Im w' col' k:=by
 classical
 obtain ⟨col',hcol⟩:∃ c:Nat→Nat,∀ k,c k=if w.heap.size≤k then (if F' k then 4 else 0) else col k:=⟨_,fun _=>rfl⟩
 have hold:∀ k,k<w.heap.size→col' k=col k:=fun k hk=>by rw [hcol,if_neg (by omega)]
 have hnew:∀ k,w.heap.size≤k→col' k=if F' k then 4 else 0:=fun k hk=>by rw [hcol,if_pos hk]
 have hk:∀ k,k<w.heap.size→col k≠4→col k≠3→w'.heap[k]?=w.heap[k]?:=fun k hl h4 h3=>hch.block k hl (fun hf=>hf.elim h4 (fun e=>h3 (by rw [e,h.ct])))
 have him:∀ k,Im w col k→Im w' col' k:=fun k hk=>⟨Nat.lt_of_lt_of_le hk.1 hch.size,by rw [hold k hk.1]; exact hk.2⟩
 have hbv:x.bv<w.heap.size:=(Array.getElem?_eq_some_iff.1 h.drv.row).1
 have hbt:x.bt<w.heap.size:=h.lt x.bt (by rw [h.ct]; decide)
 have hS':∀ k,S' k→Im w' col' k:=fun k hk=>by
  rcases hS k hk with h1 | ⟨h1,h2⟩
  ·exact him k h1
  ·exact ⟨h2,by rw [hnew k h1,if_neg (hSF k hk)]⟩
 have hF':∀ k,F' k→Fd col' k:=fun k hk=>by
  show col' k=4
  rcases hF k hk with h1 | ⟨h1,_⟩
  ·have h1':col k=4:=h1
   have hl:=h.lt k (by omega)
   rw [hold k hl]; exact h1
  ·rw [hnew k h1,if_pos hk]
 refine ⟨col',⟨(hk b h.bl (by rw [h.cb]; decide) (by rw [h.cb]; decide)).trans h.row,⟨hp.row,hp.map,(hp.dev.mono hF').more hS',?_,?_,?_⟩,hn,?_,?_,h.asks,fun c hc=>?_,h.done,h.errs,by rw [hold b h.bl]; exact h.cb,by rw [hold _ hbv]; exact h.cv,by rw [hold _ hbt]; exact h.ct,fun k hk=>?_⟩,⟨hold,fun k hk=>?_⟩,hS'⟩
 ·intro hf
  have h1:col' x.bv=4:=hf
  rw [hold _ hbv,h.cv] at h1; cases h1
 ·intro hf
  have h1:col' x.bt=4:=hf
  rw [hold _ hbt,h.ct] at h1; cases h1
 ·intro k hk
  constructor
  ·rintro rfl
   have h1:col' x.bv=0:=hk.2
   rw [hold _ hbv,h.cv] at h1; cases h1
  ·rintro rfl
   have h1:col' x.bt=0:=hk.2
   rw [hold _ hbt,h.ct] at h1; cases h1
 ·exact (h.bufs.keep (fun k hS hl=>hk k hl (by rw [hS.2]; decide) (by rw [hS.2]; decide))).more him
 ·exact (h.wait.keep (fun k hS hl=>hk k hl (by rw [hS.2]; decide) (by rw [hS.2]; decide))).more him
 ·exact ((h.ask c hc).mono (G:=Fa col' c) (fun k hf hl=>by show col' k=5+c; rw [hold k hl]; exact hf)).keep (fun k hf hl=>hk k hl (by have h1:col' k=5+c:=hf; rw [hold k hl] at h1; omega) (by have h1:col' k=5+c:=hf; rw [hold k hl] at h1; omega))
 ·have h1:col' k≠0:=hk
  rcases Nat.lt_or_ge k w.heap.size with hl | hl
  ·exact Nat.lt_of_lt_of_le hl hch.size
  ·rw [hnew k hl] at h1
   have hf:F' k:=by
    apply Classical.byContradiction
    intro hn
    rw [if_neg hn] at h1
    exact h1 rfl
   rcases hF k hf with h2 | ⟨_,h2⟩
   ·have h3:col k=4:=h2
    exact Nat.lt_of_lt_of_le (h.lt k (by omega)) hch.size
   ·exact h2
 ·rcases Nat.lt_or_ge k w.heap.size with hl | hl
  ·left
   have h1:col' k≠0∧col' k≠9:=hk
   rw [hold k hl] at h1; exact h1
  ·exact .inr hl
theorem Rec.refl {col:Nat→Nat} {w w':World}:Rec col col w w':=⟨fun _ _=>rfl,fun _ hk=>.inl hk⟩
theorem Rec.trans {c0 c1 c2:Nat→Nat} {w0 w1 w2:World} (h:Rec c0 c1 w0 w1) (k:Rec c1 c2 w1 w2) (hs:w0.heap.size≤w1.heap.size):Rec c0 c2 w0 w2 :=
 ⟨fun i hi=>(k.old i (by omega)).trans (h.old i hi),fun i hi=>(k.grow i hi).elim (fun h1=>h.grow i h1) (fun h1=>.inr (by omega))⟩
theorem Chg.recol {c0 c1:Nat→Nat} {a b c:World} (h:Chg (Fl c0) a b) (k:Chg (Fl c1) b c) (hg:∀ k,Fl c1 k→Fl c0 k∨a.heap.size≤k):Chg (Fl c0) a c :=
 ⟨k.os.trans h.os,k.tape.trans h.tape,k.output.trans h.output,Nat.le_trans h.size k.size,fun i hi hn=>(k.block i (Nat.lt_of_lt_of_le hi h.size) (fun hf=>(hg i hf).elim hn (fun h2=>by omega))).trans (h.block i hi hn)⟩
end
def Ret5 (T:Tys) (col:Nat→Nat) (w:World) (b bd N:Nat) (t:St) (v:Value):Ending→World→Prop :=
 fun e w'=>∃ (col':Nat→Nat) (y:Sv),e=.returned v∧StAt T col' w' b bd N y t∧Chg (Fl col) w w'∧Rec col col' w w'
end Go.Proofs.YtaeadmlgffaegaaGreatDoor
namespace Go.Proofs.YtaeadmlgffaegaaGreatDoor
open Go.RowKit Go.Sort
def Sv.put (x:Sv) (c:Nat) (v:Value):Sv:=match c with
 |0=>{ x with a0:=v }
 |1=>{ x with a1:=v }
 |_=>{ x with a2:=v }
section
variable {T:Tys} {col:Nat→Nat} {w w':World} {b bd N:Nat} {x:Sv} {s:St}
theorem Sv.put_av {c j:Nat} (v:Value) (hc:c<3) (hj:j<3):(x.put c v).av j=if j=c then v else x.av j:=by
 match c,hc,j,hj with
 |0,_,0,_=>rfl
 |0,_,1,_=>rfl
 |0,_,2,_=>rfl
 |1,_,0,_=>rfl
 |1,_,1,_=>rfl
 |1,_,2,_=>rfl
 |2,_,0,_=>rfl
 |2,_,1,_=>rfl
 |2,_,2,_=>rfl
theorem Sv.put_rest {c:Nat} (v:Value) (hc:c<3):(x.put c v).bv=x.bv∧(x.put c v).bt=x.bt∧(x.put c v).n=x.n∧(x.put c v).bufs=x.bufs∧(x.put c v).wait=x.wait∧(x.put c v).d0=x.d0∧(x.put c v).d1=x.d1∧(x.put c v).d2=x.d2∧(x.put c v).e0=x.e0∧(x.put c v).e1=x.e1∧(x.put c v).e2=x.e2:=by
 match c,hc with
 |0,_=>exact ⟨rfl,rfl,rfl,rfl,rfl,rfl,rfl,rfl,rfl,rfl,rfl⟩
 |1,_=>exact ⟨rfl,rfl,rfl,rfl,rfl,rfl,rfl,rfl,rfl,rfl,rfl⟩
 |2,_=>exact ⟨rfl,rfl,rfl,rfl,rfl,rfl,rfl,rfl,rfl,rfl,rfl⟩
theorem StAt.cellA (h:StAt T col w b bd N x s) {c:Nat} (hc:c<3):w.cell? ⟨b,11+c,none⟩=some (x.av c):=match c,hc with
 |0,_=>h.cell 11
 |1,_=>h.cell 12
 |2,_=>h.cell 13
theorem StAt.asked (h:StAt T col w b bd N x s) {c:Nat} (hc:c<3) {a:Ak} {B:Nat} {lv:Value} (hch:Chg (fun k=>k=b) w w') (hB:w.heap.size≤B) (hBx:w'.heap[B]?=some (.cells #[.int .i64 a.kind,.int .i64 a.pos,.string a.data,lv] T.A (0,0)))
  (hown:w'.ownsRow w.heap.size 3 1 lv a.left.length (a.left.map (.int .i64))) (hrow:w'.heap[b]?=some (.cells ((x.put c (.pointer (some ⟨B,0,none⟩))).row { s with asks:=s.asks.set c (some a) } bd) T.S (0,0))) :
  ∃ col',StAt T col' w' b bd N (x.put c (.pointer (some ⟨B,0,none⟩))) { s with asks:=s.asks.set c (some a) }∧Rec col col' w w':=by
 classical
 obtain ⟨col',hcol⟩:∃ f:Nat→Nat,∀ k,f k=if k=B∨lv.ownBlock=some k then 5+c else col k:=⟨_,fun _=>rfl⟩
 have hold:∀ k,k<w.heap.size→col' k=col k:=fun k hk=>by
  rw [hcol,if_neg]
  rintro (h1 | h1)
  ·omega
  ·have:=(hown.lt k h1).1; omega
 have hk:∀ k,k<w.heap.size→col k≠1→w'.heap[k]?=w.heap[k]?:=fun k hl h1=>hch.block k hl (fun e=>h1 (by rw [e,h.cb]))
 have him:∀ k,Im w col k→Im w' col' k:=fun k hk=>⟨Nat.lt_of_lt_of_le hk.1 hch.size,by rw [hold k hk.1]; exact hk.2⟩
 have hbv:x.bv<w.heap.size:=(Array.getElem?_eq_some_iff.1 h.drv.row).1
 have hbt:x.bt<w.heap.size:=h.lt x.bt (by rw [h.ct]; decide)
 obtain ⟨p1,p2,p3,p4,p5,p6,p7,p8,p9,p10,p11⟩:=x.put_rest (.pointer (some ⟨B,0,none⟩)) hc
 obtain ⟨f,hf,hv⟩:=h.drv.map
 refine ⟨col',⟨hrow,?_,by rw [p3]; exact h.n,?_,?_,by show (s.asks.set c _).length=3; rw [List.length_set]; exact h.asks,fun j hj=>?_,by rw [p6,p7,p8]; exact h.done,by rw [p9,p10,p11]; exact h.errs,by rw [hold b h.bl]; exact h.cb,by rw [p1,hold _ hbv]; exact h.cv,by rw [p2,hold _ hbt]; exact h.ct,fun k hk=>?_⟩,⟨hold,fun k hk=>?_⟩⟩
 ·rw [p1,p2,p3]
  refine ⟨(hk _ hbv (by rw [h.cv]; decide)).trans h.drv.row,⟨f,hf.keep (hk _ hbt (by rw [h.ct]; decide)),hv⟩,?_,?_,?_,?_⟩
  ·refine ((h.drv.dev.keep (fun k hf hl=>hk k hl (by rw [show col k=4 from hf]; decide)) (fun k hS hl=>hk k hl (by rw [hS.2]; decide))).more him).mono (fun k hk=>?_)
   have h1:col k=4:=hk
   show col' k=4
   rw [hold k (h.lt k (by omega))]; exact h1
  ·intro h1
   have h1':col' x.bv=4:=h1
   rw [hold _ hbv,h.cv] at h1'; cases h1'
  ·intro h1
   have h1':col' x.bt=4:=h1
   rw [hold _ hbt,h.ct] at h1'; cases h1'
  ·intro k hk
   constructor
   ·rintro rfl
    have h1:col' x.bv=0:=hk.2
    rw [hold _ hbv,h.cv] at h1; cases h1
   ·rintro rfl
    have h1:col' x.bt=0:=hk.2
    rw [hold _ hbt,h.ct] at h1; cases h1
 ·rw [p4]; exact (h.bufs.keep (fun k hS hl=>hk k hl (by rw [hS.2]; decide))).more him
 ·rw [p5]; exact (h.wait.keep (fun k hS hl=>hk k hl (by rw [hS.2]; decide))).more him
 ·rw [x.put_av _ hc hj]
  by_cases e:j=c
  ·subst e
   rw [if_pos rfl]
   have:({ s with asks:=s.asks.set j (some a) }:St).askAt j=some a:=by
    unfold St.askAt
    simp [List.getD_eq_getElem?_getD,List.getElem?_set,h.asks,hj]
   rw [this]
   exact ⟨B,lv,rfl,by show col' B=_; rw [hcol,if_pos (.inl rfl)],hBx,⟨own_lo hown (Nat.zero_le _),fun k hk=>by show col' k=_; rw [hcol,if_pos (.inr hk)]⟩⟩
  ·rw [if_neg e]
   have:({ s with asks:=s.asks.set c (some a) }:St).askAt j=s.askAt j:=by
    unfold St.askAt
    simp only [List.getD_eq_getElem?_getD]
    rw [List.getElem?_set_ne (Ne.symm e)]
   rw [this]
   exact ((h.ask j hj).mono (G:=Fa col' j) (fun k hf hl=>by show col' k=5+j; rw [hold k hl]; exact hf)).keep (fun k hf hl=>hk k hl (by have h1:col' k=5+j:=hf; rw [hold k hl] at h1; omega))
 ·have h1:col' k≠0:=hk
  rcases Nat.lt_or_ge k w.heap.size with hl | hl
  ·exact Nat.lt_of_lt_of_le hl hch.size
  ·rw [hcol] at h1
   split at h1
   ·rename_i h2
    rcases h2 with rfl | h2
    ·exact (Array.getElem?_eq_some_iff.1 hBx).1
    ·exact (hown.lt k h2).2
   ·exact Nat.lt_of_lt_of_le (h.lt k h1) hch.size
 ·rcases Nat.lt_or_ge k w.heap.size with hl | hl
  ·left
   have h1:col' k≠0∧col' k≠9:=hk
   rw [hold k hl] at h1; exact h1
  ·exact .inr hl
end
theorem ask_shape {s:St} {client kind p:Int} {d:ByteArray} (h:client<0∨3≤client∨kind<1∨3<kind):s.ask client kind p d=(s,3):=by unfold St.ask; rw [if_pos h]
theorem ask_bound {s:St} {client kind p:Int} {d:ByteArray} (h:¬ (client<0∨3≤client∨kind<1∨3<kind)) (h2:p<0∨32≤p∨4<d.size∨(kind=3∧p≠0)∨(kind≠2∧d.size≠0)):s.ask client kind p d=(s,1):=by unfold St.ask; rw [if_neg h,if_pos h2]
theorem ask_busy {s:St} {client kind p:Int} {d:ByteArray} (h:¬ (client<0∨3≤client∨kind<1∨3<kind)) (h2:¬ (p<0∨32≤p∨4<d.size∨(kind=3∧p≠0)∨(kind≠2∧d.size≠0))) (h3:(s.askAt client.toNat).isSome=true):s.ask client kind p d=(s,6):=by unfold St.ask; rw [if_neg h,if_neg h2,if_pos h3]
theorem ask_ok {s:St} {client kind p:Int} {d:ByteArray} (h:¬ (client<0∨3≤client∨kind<1∨3<kind)) (h2:¬ (p<0∨32≤p∨4<d.size∨(kind=3∧p≠0)∨(kind≠2∧d.size≠0))) (h3:s.askAt client.toNat=none) :
  s.ask client kind p d=(({ s with asks:=s.asks.set client.toNat (some ⟨kind,p,d,if kind=3 then St.dirtyAt s.bufs else []⟩) }:St).serve,0):=by unfold St.ask; rw [if_neg h,if_neg h2,h3]; rfl
theorem str_no {d:ByteArray} (h:d.size=0):(!d.toList.isEmpty)=false:=by
 rw [Lib.toList_data]
 have e:d.data=#[]:=Array.eq_empty_of_size_eq_zero h
 rw [e]; rfl
theorem str_yes {d:ByteArray} (h:d.size≠0):(!d.toList.isEmpty)=true:=by
 rw [Lib.toList_data]
 have e:d.data.toList≠[]:=fun e=>h (by
  have:=congrArg List.length e
  simpa using this)
 simpa using e
theorem row_put (x:Sv) (s:St) (bd c:Nat) (v:Value) (hc:c<3) (l:List (Option Ak)):(x.row s bd).setIfInBounds (11+c) v=(x.put c v).row { s with asks:=l } bd:=match c,hc with
 |0,_=>rfl
 |1,_=>rfl
 |2,_=>rfl
theorem ask_no (col:Nat→Nat) (w:World) (b bd N:Nat) (x:Sv) (s:St) (client kind p:Int) (d:ByteArray) (n:Nat) (h:StAt Ts col w b bd N x s) (He:Hid (s.ask client kind p d=(s,n))) (key:(n=3∧(client<0∨(¬ client<0∧3≤client)∨(¬ client<0∧¬ 3≤client∧kind<1)∨(¬ client<0∧¬ 3≤client∧¬ kind<1∧3<kind)))∨(n=1∧¬ client<0∧¬ 3≤client∧¬ kind<1∧¬ 3<kind∧(p<0∨(¬ p<0∧32≤p)∨(¬ p<0∧¬ 32≤p∧(4:Int)<(d.size:Int))∨(¬ p<0∧¬ 32≤p∧¬ (4:Int)<(d.size:Int)∧((kind=1∧d.size≠0)∨(kind=3∧p≠0)∨(kind=3∧p=0∧d.size≠0)))))) :
  Calls Tryz.prog 20 #[.pointer (some ⟨b,0,none⟩),.int .i64 client,.int .i64 kind,.int .i64 p,.string d] w (Ret5 Ts col w b bd N (s.ask client kind p d).1 (errV (s.ask client kind p d).2)):=by
 have H:=Lib.hid h
 clear h
 rcases key with ⟨rfl,h1 | ⟨h1,h2⟩ | ⟨h1,h2,h3⟩ | ⟨h1,h2,h3,h4⟩⟩ | ⟨rfl,h1,h2,h3,h4,h5 | ⟨h5,h6⟩ | ⟨h5,h6,h7⟩ | ⟨h5,h6,h7,⟨rfl,h8⟩ | ⟨rfl,h9⟩ | ⟨rfl,rfl,h8⟩⟩⟩
 all_goals
  try have hse:=str_yes h8
  try clear h8
  try have hp:(p != 0)=true:=by simpa using h9
  go_enter Tryz.func20,Tryz.ntmps20
  go_wp2_with fail
  go_ret
  rw [He.out]
  exact ⟨_,_,rfl,H.out,Chg.refl,.refl⟩
theorem ask_busy1 (col:Nat→Nat) (w:World) (b bd N:Nat) (x:Sv) (s:St) (kind p:Int) (d:ByteArray) (c ba:Nat) (h:StAt Ts col w b bd N x s) (hc:(c:Int)<3) (key:(¬ p<0∧¬ 32≤p∧¬ (4:Int)<(d.size:Int)∧((kind=1∧d.size=0)∨kind=2∨(kind=3∧p=0∧d.size=0)))) (cA:w.cell? ⟨b,11+c,none⟩=some (.pointer (some ⟨ba,0,none⟩))) (He:Hid (s.ask c kind p d=(s,6))) :
  Calls Tryz.prog 20 #[.pointer (some ⟨b,0,none⟩),.int .i64 c,.int .i64 kind,.int .i64 p,.string d] w (Ret5 Ts col w b bd N (s.ask c kind p d).1 (errV (s.ask c kind p d).2)):=by
 have H:=Lib.hid h
 have hc0:¬ (c:Int)<0:=by omega
 have hc3:¬ 3≤(c:Int):=by omega
 clear h
 obtain ⟨h5,h6,h7,key⟩:=key
 rcases key with ⟨rfl,h8⟩ | rfl | ⟨rfl,rfl,h8⟩
 all_goals
  try have hse:=str_no h8
  try clear h8
  go_enter Tryz.func20,Tryz.ntmps20
  go_wp2_with fail
  go_ret
  rw [He.out]
  exact ⟨_,_,rfl,H.out,Chg.refl,.refl⟩
theorem ask_ok12 (col:Nat→Nat) (w:World) (b bd N:Nat) (x:Sv) (s:St) (kind p:Int) (d:ByteArray) (c:Nat) (K:Int) (h:StAt Ts col w b bd N x s) (hI:Inv s) (hB:Bd K s) (h0:0≤K) (hK:K≤800000000) (hc:c<3) (h5:¬ p<0) (h6:¬ 32≤p) (h7:¬ 4<d.size) (h8:(kind=1∧d.size=0)∨kind=2) (ha:s.askAt c=none) :
  Calls Tryz.prog 20 #[.pointer (some ⟨b,0,none⟩),.int .i64 c,.int .i64 kind,.int .i64 p,.string d] w (Ret5 Ts col w b bd N (s.ask c kind p d).1 (errV (s.ask c kind p d).2)):=by
 have he:=(ask_ok (s:=s) (client:=(c:Int)) (kind:=kind) (p:=p) (d:=d) (by omega) (by omega) (by rw [Int.toNat_natCast,ha]))
 rw [Int.toNat_natCast,if_neg (by omega)] at he
 have He:=Lib.hid he
 clear he
 have HIa:Hid (Inv { s with asks:=s.asks.set c (some ⟨kind,p,d,[]⟩) }):=hI.asked (by omega) (by omega) (by omega) (by simp)
 have HBa:Hid (Bd K { s with asks:=s.asks.set c (some ⟨kind,p,d,[]⟩) }):=show Bd _ _ from ⟨hB.use,hB.tag,hB.waits⟩
 obtain ⟨p0,e0,n0,_⟩:=h.ptr c hc
 obtain rfl:=n0 ha
 have c0:w.cell? ⟨b,11+c,none⟩=some (.pointer none):=(h.cellA hc).trans (congrArg some e0)
 have f0:=h.frozen (11+c)
 have H:=Lib.hid h
 have hsz:¬ (4:Int)<(d.size:Int):=by omega
 clear h hI hB ha n0 e0
 have hbl:=H.out.bl
 have c1:∀ o,(w.alloc o).cell? ⟨b,11+c,none⟩=some (.pointer none):=fun o=>(World.cell?_alloc_lt _ _ _ hbl).trans c0
 have f1:∀ o,(w.alloc o).frozen? ⟨b,11+c,none⟩=false:=fun o=>(World.frozen?_alloc_past _ _ _ hbl).trans f0
 have hc0:¬ (c:Int)<0:=by omega
 have hc3:¬ 3≤(c:Int):=by omega
 have h3:¬ kind<1:=by omega
 have h4:¬ 3<kind:=by omega
 have hk3:(kind == 3)=false:=by simp; omega
 rcases h8 with ⟨hk,h8⟩ | hk
 all_goals
  first
   |have hk2:(kind != 2)=true:=by simp; omega
   |have hk2:(kind != 2)=false:=by simp; omega
  clear hk
  try have hse:=str_no h8
  try clear h8
  go_enter Tryz.func20,Tryz.ntmps20
  go_wp2_with fail
  have hsz:(w.setCell ⟨b,11+c,none⟩ (.pointer (some ⟨w.heap.size,0,none⟩))).heap.size=w.heap.size:=by simp [World.setCell]
  have hbA:=(Below.refl (w.setCell ⟨b,11+c,none⟩ (.pointer (some ⟨w.heap.size,0,none⟩))).heap.size (w.setCell ⟨b,11+c,none⟩ (.pointer (some ⟨w.heap.size,0,none⟩)))).alloc (Nat.le_refl _) (.cells #[.int .i64 kind,.int .i64 p,.string d,.slice none 0 0] 109)
  have hnew:=heap_alloc_new (w.setCell ⟨b,11+c,none⟩ (.pointer (some ⟨w.heap.size,0,none⟩))) (.cells #[.int .i64 kind,.int .i64 p,.string d,.slice none 0 0] 109)
  rw [hsz] at hnew
  obtain ⟨col',hst,hrec⟩:=H.out.asked (c:=c) hc (a:=⟨kind,p,d,[]⟩) (B:=w.heap.size) (lv:=.slice none 0 0) (w':=(w.setCell ⟨b,11+c,none⟩ (.pointer (some ⟨w.heap.size,0,none⟩))).alloc (.cells #[.int .i64 kind,.int .i64 p,.string d,.slice none 0 0] 109))
   ((Chg.refl.setCell (F:=fun k=>k=b) (.inl rfl) _).step hbA) (Nat.le_refl _) hnew (World.ownsRow_nil _ _ _ _) ((hbA.block _ (by rw [hsz]; exact hbl)).trans (row_put x s bd c _ hc (s.asks.set c (some ⟨kind,p,d,[]⟩))▸heap_setCell_same _ _ (11+c) _ _ _ H.out.row))
  have hch:=(Chg.refl.setCell (F:=Fl col) (p:=⟨b,11+c,none⟩) (.inl (show col b≠0∧col b≠9 by rw [H.out.cb]; decide)) (.pointer (some ⟨w.heap.size,0,none⟩))).step hbA
  have Hst:=Lib.hid hst
  have Hrec:=Lib.hid hrec
  have Hch:=Lib.hid hch
  clear hst hrec hch hbA hnew hsz c0 c1 f0 f1
  generalize World.alloc _ _=w1 at Hst Hch ⊢
  refine (serve_any col' w1 b bd N _ _ K Hst.out HIa.out HBa.out h0 hK).mono ?_
  rintro e w2 ⟨y2,rfl,hst2,hc2,_⟩
  have Hst2:=Lib.hid hst2
  have HC2:=Lib.hid (Hch.out.recol hc2 Hrec.out.grow)
  clear hst2 hc2
  go_wp2_with fail
  go_ret
  rw [He.out]
  exact ⟨col',_,rfl,Hst2.out,HC2.out,Hrec.out.old,Hrec.out.grow⟩
end Go.Proofs.YtaeadmlgffaegaaGreatDoor
namespace Go.Proofs.YtaeadmlgffaegaaGreatDoor
open Go.RowKit Go.Sort
theorem dirtyAt_succ {l:List Bf} {m:Nat} {x:Bf} (h:l[m]?=some x):St.dirtyAt (l.take (m+1))=St.dirtyAt (l.take m) ++ (if x.dirty then [x.pos] else []):=by
 unfold St.dirtyAt
 rw [List.take_add_one,h,List.filter_append,List.map_append]
 simp [List.filter_cons]
 cases x.dirty <;> rfl
theorem dirtyAt_len (l:List Bf):(St.dirtyAt l).length≤l.length:=by
 unfold St.dirtyAt
 rw [List.length_map]; exact List.length_filter_le _ _
theorem one_i1 (n:Int):∀ u ∈ [Value.int .i64 n],u.oneCell'=true:=by
 intro u hu; simp at hu; subst hu; rfl
theorem ask_ok3 (col:Nat→Nat) (w:World) (b bd N:Nat) (x:Sv) (s:St) (c:Nat) (hc:c<3) (d:ByteArray) (K:Int) (h:StAt Ts col w b bd N x s) (hI:Inv s) (hB:Bd K s) (h0:0≤K) (hK:K≤800000000) (h7:¬ 4<d.size) (h8:d.size=0) (ha:s.askAt c=none) :
  Calls Tryz.prog 20 #[.pointer (some ⟨b,0,none⟩),.int .i64 (c:Int),.int .i64 3,.int .i64 0,.string d] w (Ret5 Ts col w b bd N (s.ask (c:Int) 3 0 d).1 (errV (s.ask (c:Int) 3 0 d).2)):=by
 have he:=ask_ok (s:=s) (client:=(c:Int)) (kind:=3) (p:=0) (d:=d) (by omega) (by omega) (by rw [Int.toNat_natCast,ha])
 rw [Int.toNat_natCast,if_pos rfl] at he
 have He:=Lib.hid he
 clear he
 have hc0:¬ (c:Int)<0:=by omega
 have hc3:¬ 3≤(c:Int):=by omega
 have HIa:Hid (Inv { s with asks:=s.asks.set c (some ⟨3,0,d,St.dirtyAt s.bufs⟩) }):=hI.asked (by omega) (by omega) (by omega) hI.dirtyAt_ok
 have HBa:Hid (Bd K { s with asks:=s.asks.set c (some ⟨3,0,d,St.dirtyAt s.bufs⟩) }):=show Bd _ _ from ⟨hB.use,hB.tag,hB.waits⟩
 have Hln:Hid (s.bufs.length≤8):=hI.len8
 obtain ⟨p0,e0,n0,_⟩:=h.ptr c hc
 obtain rfl:=n0 ha
 obtain ⟨Ab,cb,hbv,_,_⟩:=h.bufs.form
 have c0:w.cell? ⟨b,11+c,none⟩=some (.pointer none):=(h.cellA hc).trans (congrArg some e0)
 have c2:w.cell? ⟨b,2,none⟩=some (.slice Ab s.bufs.length cb):=(h.cell 2).trans (congrArg some hbv)
 have Hbv:=Lib.hid hbv
 have E0:=Lib.hid e0
 have H:=Lib.hid h
 have hsz:¬ (4:Int)<(d.size:Int):=by omega
 have hse:=str_no h8
 clear h hI hB ha n0 e0 h8 hbv
 have hbl:=H.out.bl
 have c1:∀ o,(w.alloc o).cell? ⟨b,2,none⟩=some (.slice Ab s.bufs.length cb):=fun o=>(World.cell?_alloc_lt _ _ _ hbl).trans c2
 obtain ⟨j0,hj0,hy0,hy1,hy2⟩:=info_parts intInfo
 go_enter Tryz.func20,Tryz.ntmps20
 go_wp2_with fail
 obtain ⟨B,hBz⟩:∃ B,w.heap.size=B:=⟨_,rfl⟩
 have hbA:=(Below.refl w.heap.size w).alloc (Nat.le_refl _) (.cells #[.int .i64 3,.int .i64 0,.string d,.slice none 0 0] 109)
 have HX0:Hid ((w.alloc (.cells #[.int .i64 3,.int .i64 0,.string d,.slice none 0 0] 109)).heap[B]?=some (.cells #[.int .i64 3,.int .i64 0,.string d,.slice none 0 0] 109 (0,0))):=show _=_ from hBz▸heap_alloc_new w _
 have HbA:=Lib.hid hbA
 rw [hBz]
 clear c0 c1 c2 hbA
 generalize World.alloc _ _=w1 at HbA HX0 ⊢
 go_loopw [80] (fun i wr=>∃ (m:Nat) (lv:Value),m≤s.bufs.length∧i=.int .i64 m∧Hid (wr.heap[B]?=some (.cells #[.int .i64 3,.int .i64 0,.string d,lv] 109 (0,0)))∧Hid (wr.ownsRow w.heap.size 3 1 lv (St.dirtyAt (s.bufs.take m)).length ((St.dirtyAt (s.bufs.take m)).map (.int .i64)))∧Hid (Below w.heap.size w wr)) (fun i _=>s.bufs.length - (intOf i).toNat)
 case atStart=>exact ⟨0,_,by omega,rfl,HX0.out,World.ownsRow_nil _ _ _ _,HbA.out⟩
 case round =>
  obtain ⟨m,lv,hm,rfl,HX,HO,HB⟩:=hrel
  by_cases hlt:m<s.bufs.length
  ·have hlt2:(m:Int)<(s.bufs.length:Int):=by omega
   have hm8:(m:Int)<8:=by have:=Hln.out; omega
   have Hbr:Hid (BufsAt (Im w col) wr (.slice Ab s.bufs.length cb) s.bufs):=Hbv.out▸H.out.bufs.below HB.out
   obtain ⟨g,off,rfl,_,hgl,hc⟩:=Hbr.out.at_ (by omega)
   have hx:s.bufs[m]?=some s.bufs[m]:=List.getElem?_eq_getElem hlt
   obtain ⟨_,k0,k1,k2,k3⟩:=hc m _ hx
   have Hx:=Lib.hid hx
   clear hx hc
   generalize s.bufs[m]=y at *
   obtain ⟨Av,cv,rfl⟩:=own_sl (own_lo HO.out (Nat.zero_le _))
   have hdl:=dirtyAt_len (s.bufs.take m)
   have hdl2:=List.length_take_le m s.bufs
   cases hd:y.dirty with
   |false =>
    have Hd:=Lib.hid hd
    rw [hd] at k2
    clear hd
    go_wp2_with fail
    clear k0 k1 k2 k3
    have hb5:=fun o=>(Below.refl wr.heap.size wr).alloc (Nat.le_refl _) o
    go_roundw
    case rel =>
     have e:St.dirtyAt (s.bufs.take (m+1))=St.dirtyAt (s.bufs.take m):=by rw [dirtyAt_succ Hx.out,Hd.out]; simp
     exact ⟨m+1,_,by omega,by go_num,((hb5 _).block _ (Array.getElem?_eq_some_iff.1 HX.out).1).trans HX.out,by rw [e]; exact own_keepD HO.out (fun q hq=>(hb5 _).block q (HO.out.lt q hq).2),HB.out.trans ((hb5 _).mono HB.out.size)⟩
    case measure=>simp [intOf]; omega
   |true =>
    have Hd:=Lib.hid hd
    rw [hd] at k2
    clear hd
    go_wp2_with fail
    obtain ⟨Q,hQ⟩:∃ Q,wr.heap.size=Q:=⟨_,rfl⟩
    have hb5:=(Below.refl wr.heap.size wr).alloc (Nat.le_refl _) (.cells #[.int .i64 y.pos,.string y.data,.bool true,.int .i64 y.used] 111)
    have hq5:=heap_alloc_new wr (.cells #[.int .i64 y.pos,.string y.data,.bool true,.int .i64 y.used] 111)
    have hBl:B<wr.heap.size:=(Array.getElem?_eq_some_iff.1 HX.out).1
    have HX5:=Lib.hid ((hb5.block _ hBl).trans HX.out)
    have HO5:=Lib.hid (own_keepD HO.out (fun q hq=>hb5.block q (HO.out.lt q hq).2))
    have HB5:=Lib.hid (HB.out.trans (hb5.mono HB.out.size))
    rw [hQ] at hq5 ⊢
    have HQ5:=Lib.hid hq5
    clear hb5 hq5 k0 k1 k2 k3
    generalize World.alloc _ _=w5 at HX5 HO5 HB5 HQ5 ⊢
    have hB5l:B<w5.heap.size:=(Array.getElem?_eq_some_iff.1 HX5.out).1
    have hQ5l:Q<w5.heap.size:=(Array.getElem?_eq_some_iff.1 HQ5.out).1
    have q3:w5.cell? ⟨B,3,none⟩=some (.slice Av (St.dirtyAt (s.bufs.take m)).length cv):=cell_of_row _ _ 3 _ _ _ HX5.out
    have f3:w5.frozen? ⟨B,3,none⟩=false:=frozen_of_row _ _ 3 _ _ HX5.out
    have q0:w5.cell? ⟨Q,0,none⟩=some (.int .i64 y.pos):=cell_of_row _ _ 0 _ _ _ HQ5.out
    have q3a:∀ o,(w5.alloc o).cell? ⟨B,3,none⟩=some (.slice Av (St.dirtyAt (s.bufs.take m)).length cv):=fun o=>(World.cell?_alloc_lt _ _ _ hB5l).trans q3
    have q0a:∀ o,(w5.alloc o).cell? ⟨Q,0,none⟩=some (.int .i64 y.pos):=fun o=>(World.cell?_alloc_lt _ _ _ hQ5l).trans q0
    have hneB:∀ q,(Value.slice Av (St.dirtyAt (s.bufs.take m)).length cv).ownBlock=some q→q≠B:=own_ne (own_lo HO5.out (Nat.zero_le _)) HX5.out (by decide)
    have HnB:=Lib.hid hneB
    have hws:w.heap.size≤w5.heap.size:=HB5.out.size
    have Hws:=Lib.hid hws
    clear hneB hws
    go_region_law (first
     |(refine step_append_rd (S:=fun _=>True) _ rfl (.tmp 90) (.tmp 93) _ rfl w.heap.size 3 j0 _ 1 8 Tryz.underlying107 hj0 hy0 hy1 hy2 rfl (by omega) (.slice Av (St.dirtyAt (s.bufs.take m)).length cv) (St.dirtyAt (s.bufs.take m)).length ((St.dirtyAt (s.bufs.take m)).map (.int .i64)) (by simp [Act.eval,Act.put]) (HO5.out.alloc _) (.slice (some ⟨w5.heap.size,0,none⟩) 1 1) 1 [.int .i64 y.pos] (by simp [Act.eval,Act.put]) (rd_1 (heap_alloc_new _ _) trivial) (one_i1 _) (by simp only [maxLen]; have:=Hln.out; omega) (by have:=Hln.out; omega) (by have:=Hws.out; simp; omega) ?_
       intro v7 w7 hown7 hg7 hat7
       clear hat7
       obtain ⟨A7,c7,rfl⟩:=own_sl (own_lo hown7 (Nat.zero_le _))
       have hne7:some B≠(Value.slice Av (St.dirtyAt (s.bufs.take m)).length cv).ownBlock:=fun e2=>HnB.out B e2.symm rfl
       have p1:w7.cell? ⟨B,3,none⟩=some (.slice Av (St.dirtyAt (s.bufs.take m)).length cv):=hg7.cell (q3a _) hne7
       have p2:w7.frozen? ⟨B,3,none⟩=false:=(World.frozen?_of_block (hg7.block B (by simp; omega) hne7)).trans ((World.frozen?_alloc_past _ _ _ hB5l).trans f3))
     |fail)
    all_goals
     have hbA:=((Below.refl w5.heap.size w5).alloc (Nat.le_refl _) (.cells #[.int .i64 y.pos] 3)).drew
     have hsA:(World.drew (w5.alloc (.cells #[.int .i64 y.pos] 3))).heap.size=w5.heap.size+1:=by simp
     have hc7:Chg (fun q=>w.heap.size≤q) w w7:=((Chg.of_below HB5.out).step hbA).grown hg7 (fun k hk=>.inl ((HO5.out.lt k hk).1))
     have hr7:w7.heap[B]?=some _:=((hg7.block B (by rw [hsA]; omega) hne7).trans (hbA.block _ hB5l)).trans HX5.out
     have hr8:=heap_setCell_same _ _ 3 _ _ (.slice A7 ((St.dirtyAt (s.bufs.take m)).length+1) c7) hr7
     have hc8:=hc7.setCell (p:=⟨B,3,none⟩) (.inl (by show w.heap.size≤B; omega)) (.slice A7 ((St.dirtyAt (s.bufs.take m)).length+1) c7)
     have ho8:(w7.setCell ⟨B,3,none⟩ (.slice A7 ((St.dirtyAt (s.bufs.take m)).length+1) c7)).ownsRow w.heap.size 3 1 (.slice A7 ((St.dirtyAt (s.bufs.take m)).length+1) c7) ((St.dirtyAt (s.bufs.take m)).length+1) ((St.dirtyAt (s.bufs.take m)).map (.int .i64) ++ [.int .i64 y.pos]) :=
      own_keepD hown7 (fun q hv=>Below.heap_setCell _ _ _ _ (own_ne (own_lo hown7 (Nat.zero_le _)) hr7 (by decide) q hv))
     have Hr8:=Lib.hid hr8
     have Hb8:=Lib.hid (hc8.below (B:=w.heap.size) (fun k hk=>hk) (Nat.le_refl _))
     have Ho8:=Lib.hid ho8
     clear hr8 hc8 ho8 hc7 hr7 hbA hsA hg7 hown7 hne7 p1 p2 q0 q3 q0a q3a f3
     try go_wp2_with fail
     go_roundw
     case rel =>
      have e:St.dirtyAt (s.bufs.take (m+1))=St.dirtyAt (s.bufs.take m) ++ [y.pos]:=by rw [dirtyAt_succ Hx.out,Hd.out]; simp
      refine ⟨m+1,_,by omega,by go_num,Hr8.out,?_,Hb8.out⟩
      rw [e,List.length_append,List.map_append]
      exact Ho8.out
     case measure=>simp [intOf]; omega
  ·obtain rfl:m=s.bufs.length:=by omega
   have hlt2:¬ (s.bufs.length:Int)<(s.bufs.length:Int):=by omega
   have Hd:Hid (St.dirtyAt (s.bufs.take s.bufs.length)=St.dirtyAt s.bufs):=show _=_ by rw [List.take_length]
   have c0:wr.cell? ⟨b,11+c,none⟩=some (.pointer none):=cell_b HB.out ((H.out.cellA hc).trans (congrArg some E0.out))
   have f0:wr.frozen? ⟨b,11+c,none⟩=false:=(H.out.below HB.out).frozen (11+c)
   have hbB:b≠B:=by omega
   have hrow:=heap_setCell_same _ _ (11+c) _ _ (.pointer (some ⟨B,0,none⟩)) ((HB.out.block _ hbl).trans H.out.row)
   rw [row_put x s bd c _ hc (s.asks.set c (some ⟨3,0,d,St.dirtyAt s.bufs⟩))] at hrow
   have hch1:Chg (fun k=>k=b) w (wr.setCell ⟨b,11+c,none⟩ (.pointer (some ⟨B,0,none⟩))):=Chg.setCell (F:=fun k=>k=b) (p:=⟨b,11+c,none⟩) (Chg.of_below HB.out) (.inl rfl) _
   have hXB:=(heap_setCell_other wr ⟨b,11+c,none⟩ B (.pointer (some ⟨B,0,none⟩)) (by simpa using hbB.symm)).trans HX.out
   have hOB:(wr.setCell ⟨b,11+c,none⟩ (.pointer (some ⟨B,0,none⟩))).ownsRow w.heap.size 3 1 lv (St.dirtyAt s.bufs).length ((St.dirtyAt s.bufs).map (.int .i64)):=Hd.out▸own_keepD HO.out (fun q hq=>heap_setCell_other _ _ _ _ (by have:=(HO.out.lt q hq).1; simp; omega))
   obtain ⟨col',hst,hrec⟩:=H.out.asked (c:=c) hc (a:=⟨3,0,d,St.dirtyAt s.bufs⟩) hch1 (by omega) hXB hOB hrow
   have hch:Chg (Fl col) w _:=H.out.chg1 hch1
   have Hst:=Lib.hid hst
   have Hrec:=Lib.hid hrec
   have Hch:=Lib.hid hch
   clear hst hrec hch hOB hXB hch1 hrow
   go_wp2_with fail
   clear c0 f0
   generalize World.setCell _ _ _=w6 at Hst Hch ⊢
   refine (serve_any col' w6 b bd N _ _ K Hst.out HIa.out HBa.out h0 hK).mono ?_
   rintro e w7 ⟨y7,rfl,hst7,hc7,_⟩
   have Hst7:=Lib.hid hst7
   have HC7:=Lib.hid (Hch.out.recol hc7 Hrec.out.grow)
   clear hst7 hc7
   go_wp2_with fail
   go_ret
   rw [He.out]
   exact ⟨col',_,rfl,Hst7.out,HC7.out,Hrec.out.old,Hrec.out.grow⟩
theorem ask_any (col:Nat→Nat) (w:World) (b bd N:Nat) (x:Sv) (s:St) (client kind p:Int) (d:ByteArray) (K:Int) (h:StAt Ts col w b bd N x s) (hI:Inv s) (hB:Bd K s) (h0:0≤K) (hK:K≤800000000) :
  Calls Tryz.prog 20 #[.pointer (some ⟨b,0,none⟩),.int .i64 client,.int .i64 kind,.int .i64 p,.string d] w (Ret5 Ts col w b bd N (s.ask client kind p d).1 (errV (s.ask client kind p d).2)):=by
 by_cases hs:client<0∨3≤client∨kind<1∨3<kind
 ·exact ask_no col w b bd N x s client kind p d 3 h (ask_shape hs) (.inl ⟨rfl,by omega⟩)
 by_cases hb:p<0∨32≤p∨4<d.size∨(kind=3∧p≠0)∨(kind≠2∧d.size≠0)
 ·exact ask_no col w b bd N x s client kind p d 1 h (ask_bound hs hb) (.inr ⟨rfl,by omega,by omega,by omega,by omega,by omega⟩)
 obtain ⟨c,rfl⟩:∃ c:Nat,client=c:=⟨client.toNat,by omega⟩
 have hc:c<3:=by omega
 obtain ⟨p0,ep,hn,hq⟩:=h.ptr c hc
 cases ho:s.askAt c with
 |some a =>
  obtain ⟨ba,rfl⟩:=hq a ho
  exact ask_busy1 col w b bd N x s kind p d c ba h (by omega) ⟨by omega,by omega,by omega,by omega⟩ ((h.cellA hc).trans (congrArg some ep)) (ask_busy hs hb (by rw [Int.toNat_natCast,ho]; rfl))
 |none =>
  by_cases h3:kind=3
  ·subst h3
   obtain rfl:p=0:=by omega
   exact ask_ok3 col w b bd N x s c hc d K h hI hB h0 hK (by omega) (by omega) ho
  ·exact ask_ok12 col w b bd N x s kind p d c K h hI hB h0 hK hc (by omega) (by omega) (by omega) (by omega) ho
end Go.Proofs.YtaeadmlgffaegaaGreatDoor
