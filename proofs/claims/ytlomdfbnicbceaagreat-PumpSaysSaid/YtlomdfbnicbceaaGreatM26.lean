/- Ask: what can't be, and what comes of a request that a client makes: its block, and what it waits for. -/
import Derived.Test.YtlomdfbnicbceaaGreatM24
import Derived.Test.YtlomdfbnicbceaaGreatM25
import Derived.Test.YtlomdfbnicbceaaGreatM12
import Derived.Lib.Bytes
set_option linter.unusedSimpArgs false
set_option linter.unusedVariables false
set_option maxRecDepth 100000
set_option maxHeartbeats 8000000
namespace Go.Proofs.YtlomdfbnicbceaaGreat
open Go.RowKit Go.Sort
def Sv.put (x:Sv) (c:Nat) (v:Value):Sv:=match c with
 |0=>{ x with a0:=v }
 |1=>{ x with a1:=v }
 |_=>{ x with a2:=v }
section
variable {T:Tys} {col:Nat→Nat} {w w':World} {b bd N:Nat} {x:Sv} {s:St}
theorem Sv.put_av {c j:Nat} (v:Value) (hc:c<3) (hj:j<3):(x.put c v).av j=if j=c then v else x.av j:=by
 match c,hc,j,hj with
 |0,_,0,_=>rfl
 |0,_,1,_=>rfl
 |0,_,2,_=>rfl
 |1,_,0,_=>rfl
 |1,_,1,_=>rfl
 |1,_,2,_=>rfl
 |2,_,0,_=>rfl
 |2,_,1,_=>rfl
 |2,_,2,_=>rfl
theorem Sv.put_rest {c:Nat} (v:Value) (hc:c<3):(x.put c v).bv=x.bv∧(x.put c v).bt=x.bt∧(x.put c v).n=x.n∧(x.put c v).bufs=x.bufs∧(x.put c v).wait=x.wait∧(x.put c v).d0=x.d0∧(x.put c v).d1=x.d1∧(x.put c v).d2=x.d2∧(x.put c v).e0=x.e0∧(x.put c v).e1=x.e1∧(x.put c v).e2=x.e2:=by
 match c,hc with
 |0,_=>exact ⟨rfl,rfl,rfl,rfl,rfl,rfl,rfl,rfl,rfl,rfl,rfl⟩
 |1,_=>exact ⟨rfl,rfl,rfl,rfl,rfl,rfl,rfl,rfl,rfl,rfl,rfl⟩
 |2,_=>exact ⟨rfl,rfl,rfl,rfl,rfl,rfl,rfl,rfl,rfl,rfl,rfl⟩
theorem StAt.asked (h:StAt T col w b bd N x s) {c:Nat} (hc:c<3) {a:Ak} {B:Nat} {lv:Value} (hch:Chg (fun k=>k=b) w w') (hB:w.heap.size≤B) (hBx:w'.heap[B]?=some (.cells #[.int .i64 a.kind,.int .i64 a.pos,.string a.data,lv] T.A (0,0)))
  (hown:w'.ownsRow w.heap.size 3 1 lv a.left.length (a.left.map (.int .i64))) (hrow:w'.heap[b]?=some (.cells ((x.put c (.pointer (some ⟨B,0,none⟩))).row { s with asks:=s.asks.set c (some a) } bd) T.S (0,0))) :
  ∃ col',StAt T col' w' b bd N (x.put c (.pointer (some ⟨B,0,none⟩))) { s with asks:=s.asks.set c (some a) }∧Rec col col' w w':=by
 classical
 obtain ⟨col',hcol⟩:∃ f:Nat→Nat,∀ k,f k=if k=B∨lv.ownBlock=some k then 5+c else col k:=⟨_,fun _=>rfl⟩
 have hold:∀ k,k<w.heap.size→col' k=col k:=fun k hk=>by
  rw [hcol,if_neg]
  rintro (h1 | h1)
  ·omega
  ·have:=(hown.lt k h1).1; omega
 have hk:∀ k,k<w.heap.size→col k≠1→w'.heap[k]?=w.heap[k]?:=fun k hl h1=>hch.block k hl (fun e=>h1 (by rw [e,h.cb]))
 have him:∀ k,Im w col k→Im w' col' k:=fun k hk=>⟨Nat.lt_of_lt_of_le hk.1 hch.size,by rw [hold k hk.1]; exact hk.2⟩
 have hbv:x.bv<w.heap.size:=(Array.getElem?_eq_some_iff.1 h.drv.row).1
 have hbt:x.bt<w.heap.size:=h.lt x.bt (by rw [h.ct]; decide)
 obtain ⟨p1,p2,p3,p4,p5,p6,p7,p8,p9,p10,p11⟩:=x.put_rest (.pointer (some ⟨B,0,none⟩)) hc
 obtain ⟨f,hf,hv⟩:=h.drv.map
 refine ⟨col',⟨hrow,?_,by rw [p3]; exact h.n,?_,?_,by show (s.asks.set c _).length=3; rw [List.length_set]; exact h.asks,fun j hj=>?_,by rw [p6,p7,p8]; exact h.done,by rw [p9,p10,p11]; exact h.errs,by rw [hold b h.bl]; exact h.cb,by rw [p1,hold _ hbv]; exact h.cv,by rw [p2,hold _ hbt]; exact h.ct,fun k hk=>?_⟩,⟨hold,fun k hk=>?_⟩⟩
 ·rw [p1,p2,p3]
  refine ⟨(hk _ hbv (by rw [h.cv]; decide)).trans h.drv.row,⟨f,hf.keep (hk _ hbt (by rw [h.ct]; decide)),hv⟩,?_,?_,?_,?_⟩
  ·refine ((h.drv.dev.keep (fun k hf hl=>hk k hl (by rw [show col k=4 from hf]; decide)) (fun k hS hl=>hk k hl (by rw [hS.2]; decide))).more him).mono (fun k hk=>?_)
   have h1:col k=4:=hk
   show col' k=4
   rw [hold k (h.lt k (by omega))]; exact h1
  ·intro h1
   have h1':col' x.bv=4:=h1
   rw [hold _ hbv,h.cv] at h1'; cases h1'
  ·intro h1
   have h1':col' x.bt=4:=h1
   rw [hold _ hbt,h.ct] at h1'; cases h1'
  ·intro k hk
   constructor
   ·rintro rfl
    have h1:col' x.bv=0:=hk.2
    rw [hold _ hbv,h.cv] at h1; cases h1
   ·rintro rfl
    have h1:col' x.bt=0:=hk.2
    rw [hold _ hbt,h.ct] at h1; cases h1
 ·rw [p4]; exact (h.bufs.keep (fun k hS hl=>hk k hl (by rw [hS.2]; decide))).more him
 ·rw [p5]; exact (h.wait.keep (fun k hS hl=>hk k hl (by rw [hS.2]; decide))).more him
 ·rw [x.put_av _ hc hj]
  by_cases e:j=c
  ·subst e
   rw [if_pos rfl]
   have:({ s with asks:=s.asks.set j (some a) }:St).askAt j=some a:=by
    unfold St.askAt
    simp [List.getD_eq_getElem?_getD,List.getElem?_set,h.asks,hj]
   rw [this]
   exact ⟨B,lv,rfl,by show col' B=_; rw [hcol,if_pos (.inl rfl)],hBx,⟨own_lo hown (Nat.zero_le _),fun k hk=>by show col' k=_; rw [hcol,if_pos (.inr hk)]⟩⟩
  ·rw [if_neg e]
   have:({ s with asks:=s.asks.set c (some a) }:St).askAt j=s.askAt j:=by
    unfold St.askAt
    simp only [List.getD_eq_getElem?_getD]
    rw [List.getElem?_set_ne (Ne.symm e)]
   rw [this]
   exact ((h.ask j hj).mono (G:=Fa col' j) (fun k hf hl=>by show col' k=5+j; rw [hold k hl]; exact hf)).keep (fun k hf hl=>hk k hl (by have h1:col' k=5+j:=hf; rw [hold k hl] at h1; omega))
 ·have h1:col' k≠0:=hk
  rcases Nat.lt_or_ge k w.heap.size with hl | hl
  ·exact Nat.lt_of_lt_of_le hl hch.size
  ·rw [hcol] at h1
   split at h1
   ·rename_i h2
    rcases h2 with rfl | h2
    ·exact (Array.getElem?_eq_some_iff.1 hBx).1
    ·exact (hown.lt k h2).2
   ·exact Nat.lt_of_lt_of_le (h.lt k h1) hch.size
 ·rcases Nat.lt_or_ge k w.heap.size with hl | hl
  ·left
   have h1:col' k≠0∧col' k≠9:=hk
   rw [hold k hl] at h1; exact h1
  ·exact .inr hl
end
theorem ask_shape {s:St} {client kind p:Int} {d:ByteArray} (h:client<0∨3≤client∨kind<1∨3<kind):s.ask client kind p d=(s,3):=by unfold St.ask; rw [if_pos h]
theorem ask_bound {s:St} {client kind p:Int} {d:ByteArray} (h:¬ (client<0∨3≤client∨kind<1∨3<kind)) (h2:p<0∨32≤p∨4<d.size∨(kind=3∧p≠0)∨(kind≠2∧d.size≠0)):s.ask client kind p d=(s,1):=by unfold St.ask; rw [if_neg h,if_pos h2]
theorem ask_busy {s:St} {client kind p:Int} {d:ByteArray} (h:¬ (client<0∨3≤client∨kind<1∨3<kind)) (h2:¬ (p<0∨32≤p∨4<d.size∨(kind=3∧p≠0)∨(kind≠2∧d.size≠0))) (h3:(s.askAt client.toNat).isSome=true):s.ask client kind p d=(s,6):=by unfold St.ask; rw [if_neg h,if_neg h2,if_pos h3]
theorem ask_ok {s:St} {client kind p:Int} {d:ByteArray} (h:¬ (client<0∨3≤client∨kind<1∨3<kind)) (h2:¬ (p<0∨32≤p∨4<d.size∨(kind=3∧p≠0)∨(kind≠2∧d.size≠0))) (h3:s.askAt client.toNat=none) :
  s.ask client kind p d=(({ s with asks:=s.asks.set client.toNat (some ⟨kind,p,d,if kind=3 then St.dirtyAt s.bufs else []⟩) }:St).serve,0):=by unfold St.ask; rw [if_neg h,if_neg h2,h3]; rfl
theorem ask_s1 (col:Nat→Nat) (w:World) (b bd N:Nat) (x:Sv) (s:St) (client kind p:Int) (d:ByteArray) (h:StAt Ts col w b bd N x s) (h1:client<0) :
  Calls Tryz.prog 15 #[.pointer (some ⟨b,0,none⟩),.int .i64 client,.int .i64 kind,.int .i64 p,.string d] w (Ret5 Ts col w b bd N (s.ask client kind p d).1 (errV (s.ask client kind p d).2)):=by
 have He:=Lib.hid (ask_shape (s:=s) (client:=client) (kind:=kind) (p:=p) (d:=d) (.inl h1))
 have H:=Lib.hid h
 clear h
 go_enter Tryz.func15,Tryz.ntmps15
 go_wp2_with fail
 go_ret
 rw [He.out]
 exact ⟨_,_,rfl,H.out,Chg.refl,.refl⟩
theorem ask_s2 (col:Nat→Nat) (w:World) (b bd N:Nat) (x:Sv) (s:St) (client kind p:Int) (d:ByteArray) (h:StAt Ts col w b bd N x s) (h1:¬ client<0) (h2:3≤client) :
  Calls Tryz.prog 15 #[.pointer (some ⟨b,0,none⟩),.int .i64 client,.int .i64 kind,.int .i64 p,.string d] w (Ret5 Ts col w b bd N (s.ask client kind p d).1 (errV (s.ask client kind p d).2)):=by
 have He:=Lib.hid (ask_shape (s:=s) (client:=client) (kind:=kind) (p:=p) (d:=d) (.inr (.inl h2)))
 have H:=Lib.hid h
 clear h
 go_enter Tryz.func15,Tryz.ntmps15
 go_wp2_with fail
 go_ret
 rw [He.out]
 exact ⟨_,_,rfl,H.out,Chg.refl,.refl⟩
theorem ask_s3 (col:Nat→Nat) (w:World) (b bd N:Nat) (x:Sv) (s:St) (client kind p:Int) (d:ByteArray) (h:StAt Ts col w b bd N x s) (h1:¬ client<0) (h2:¬ 3≤client) (h3:kind<1) :
  Calls Tryz.prog 15 #[.pointer (some ⟨b,0,none⟩),.int .i64 client,.int .i64 kind,.int .i64 p,.string d] w (Ret5 Ts col w b bd N (s.ask client kind p d).1 (errV (s.ask client kind p d).2)):=by
 have He:=Lib.hid (ask_shape (s:=s) (client:=client) (kind:=kind) (p:=p) (d:=d) (.inr (.inr (.inl h3))))
 have H:=Lib.hid h
 clear h
 go_enter Tryz.func15,Tryz.ntmps15
 go_wp2_with fail
 go_ret
 rw [He.out]
 exact ⟨_,_,rfl,H.out,Chg.refl,.refl⟩
theorem ask_s4 (col:Nat→Nat) (w:World) (b bd N:Nat) (x:Sv) (s:St) (client kind p:Int) (d:ByteArray) (h:StAt Ts col w b bd N x s) (h1:¬ client<0) (h2:¬ 3≤client) (h3:¬ kind<1) (h4:3<kind) :
  Calls Tryz.prog 15 #[.pointer (some ⟨b,0,none⟩),.int .i64 client,.int .i64 kind,.int .i64 p,.string d] w (Ret5 Ts col w b bd N (s.ask client kind p d).1 (errV (s.ask client kind p d).2)):=by
 have He:=Lib.hid (ask_shape (s:=s) (client:=client) (kind:=kind) (p:=p) (d:=d) (.inr (.inr (.inr h4))))
 have H:=Lib.hid h
 clear h
 go_enter Tryz.func15,Tryz.ntmps15
 go_wp2_with fail
 go_ret
 rw [He.out]
 exact ⟨_,_,rfl,H.out,Chg.refl,.refl⟩
theorem ask_b1 (col:Nat→Nat) (w:World) (b bd N:Nat) (x:Sv) (s:St) (client kind p:Int) (d:ByteArray) (h:StAt Ts col w b bd N x s) (h1:¬ client<0) (h2:¬ 3≤client) (h3:¬ kind<1) (h4:¬ 3<kind) (h5:p<0) :
  Calls Tryz.prog 15 #[.pointer (some ⟨b,0,none⟩),.int .i64 client,.int .i64 kind,.int .i64 p,.string d] w (Ret5 Ts col w b bd N (s.ask client kind p d).1 (errV (s.ask client kind p d).2)):=by
 have He:=Lib.hid (ask_bound (s:=s) (client:=client) (kind:=kind) (p:=p) (d:=d) (by omega) (.inl h5))
 have H:=Lib.hid h
 clear h
 go_enter Tryz.func15,Tryz.ntmps15
 go_wp2_with fail
 go_ret
 rw [He.out]
 exact ⟨_,_,rfl,H.out,Chg.refl,.refl⟩
theorem ask_b2 (col:Nat→Nat) (w:World) (b bd N:Nat) (x:Sv) (s:St) (client kind p:Int) (d:ByteArray) (h:StAt Ts col w b bd N x s) (h1:¬ client<0) (h2:¬ 3≤client) (h3:¬ kind<1) (h4:¬ 3<kind) (h5:¬ p<0) (h6:32≤p) :
  Calls Tryz.prog 15 #[.pointer (some ⟨b,0,none⟩),.int .i64 client,.int .i64 kind,.int .i64 p,.string d] w (Ret5 Ts col w b bd N (s.ask client kind p d).1 (errV (s.ask client kind p d).2)):=by
 have He:=Lib.hid (ask_bound (s:=s) (client:=client) (kind:=kind) (p:=p) (d:=d) (by omega) (.inr (.inl h6)))
 have H:=Lib.hid h
 clear h
 go_enter Tryz.func15,Tryz.ntmps15
 go_wp2_with fail
 go_ret
 rw [He.out]
 exact ⟨_,_,rfl,H.out,Chg.refl,.refl⟩
theorem ask_b3 (col:Nat→Nat) (w:World) (b bd N:Nat) (x:Sv) (s:St) (client kind p:Int) (d:ByteArray) (h:StAt Ts col w b bd N x s) (h1:¬ client<0) (h2:¬ 3≤client) (h3:¬ kind<1) (h4:¬ 3<kind) (h5:¬ p<0) (h6:¬ 32≤p) (h7:4<d.size) :
  Calls Tryz.prog 15 #[.pointer (some ⟨b,0,none⟩),.int .i64 client,.int .i64 kind,.int .i64 p,.string d] w (Ret5 Ts col w b bd N (s.ask client kind p d).1 (errV (s.ask client kind p d).2)):=by
 have He:=Lib.hid (ask_bound (s:=s) (client:=client) (kind:=kind) (p:=p) (d:=d) (by omega) (.inr (.inr (.inl h7))))
 have H:=Lib.hid h
 have hsz:(4:Int)<(d.size:Int):=by omega
 clear h
 go_enter Tryz.func15,Tryz.ntmps15
 go_wp2_with fail
 go_ret
 rw [He.out]
 exact ⟨_,_,rfl,H.out,Chg.refl,.refl⟩
theorem ask_b4 (col:Nat→Nat) (w:World) (b bd N:Nat) (x:Sv) (s:St) (client kind p:Int) (d:ByteArray) (h:StAt Ts col w b bd N x s) (h1:¬ client<0) (h2:¬ 3≤client) (h3:¬ kind<1) (h4:¬ 3<kind) (h5:¬ p<0) (h6:¬ 32≤p) (h7:¬ 4<d.size) (h8:kind=3) (h9:p≠0) :
  Calls Tryz.prog 15 #[.pointer (some ⟨b,0,none⟩),.int .i64 client,.int .i64 kind,.int .i64 p,.string d] w (Ret5 Ts col w b bd N (s.ask client kind p d).1 (errV (s.ask client kind p d).2)):=by
 have He:=Lib.hid (ask_bound (s:=s) (client:=client) (kind:=kind) (p:=p) (d:=d) (by omega) (.inr (.inr (.inr (.inl ⟨h8,h9⟩)))))
 have H:=Lib.hid h
 have hsz:¬ (4:Int)<(d.size:Int):=by omega
 have hk:(kind == 3)=true:=by simpa using h8
 have hp:(p != 0)=true:=by simpa using h9
 clear h8
 clear h
 go_enter Tryz.func15,Tryz.ntmps15
 go_wp2_with fail
 go_ret
 rw [He.out]
 exact ⟨_,_,rfl,H.out,Chg.refl,.refl⟩
theorem str_no {d:ByteArray} (h:d.size=0):(!d.toList.isEmpty)=false:=by
 rw [Lib.toList_data]
 have e:d.data=#[]:=Array.eq_empty_of_size_eq_zero h
 rw [e]; rfl
theorem str_yes {d:ByteArray} (h:d.size≠0):(!d.toList.isEmpty)=true:=by
 rw [Lib.toList_data]
 have e:d.data.toList≠[]:=fun e=>h (by
  have:=congrArg List.length e
  simpa using this)
 simpa using e
theorem ask_b6 (col:Nat→Nat) (w:World) (b bd N:Nat) (x:Sv) (s:St) (client p:Int) (d:ByteArray) (h:StAt Ts col w b bd N x s) (h1:¬ client<0) (h2:¬ 3≤client) (h5:¬ p<0) (h6:¬ 32≤p) (h7:¬ 4<d.size) (h8:d.size≠0) :
  Calls Tryz.prog 15 #[.pointer (some ⟨b,0,none⟩),.int .i64 client,.int .i64 1,.int .i64 p,.string d] w (Ret5 Ts col w b bd N (s.ask client 1 p d).1 (errV (s.ask client 1 p d).2)):=by
 have He:=Lib.hid (ask_bound (s:=s) (client:=client) (kind:=1) (p:=p) (d:=d) (by omega) (.inr (.inr (.inr (.inr ⟨by decide,h8⟩)))))
 have H:=Lib.hid h
 have hsz:¬ (4:Int)<(d.size:Int):=by omega
 have hse:=str_yes h8
 clear h8
 clear h
 go_enter Tryz.func15,Tryz.ntmps15
 go_wp2_with fail
 go_ret
 rw [He.out]
 exact ⟨_,_,rfl,H.out,Chg.refl,.refl⟩
theorem ask_b5 (col:Nat→Nat) (w:World) (b bd N:Nat) (x:Sv) (s:St) (client p:Int) (d:ByteArray) (h:StAt Ts col w b bd N x s) (h1:¬ client<0) (h2:¬ 3≤client) (h5:¬ p<0) (h6:¬ 32≤p) (h7:¬ 4<d.size) (h9:p=0) (h8:d.size≠0) :
  Calls Tryz.prog 15 #[.pointer (some ⟨b,0,none⟩),.int .i64 client,.int .i64 3,.int .i64 p,.string d] w (Ret5 Ts col w b bd N (s.ask client 3 p d).1 (errV (s.ask client 3 p d).2)):=by
 have He:=Lib.hid (ask_bound (s:=s) (client:=client) (kind:=3) (p:=p) (d:=d) (by omega) (.inr (.inr (.inr (.inr ⟨by decide,h8⟩)))))
 have H:=Lib.hid h
 have hsz:¬ (4:Int)<(d.size:Int):=by omega
 have hse:=str_yes h8
 subst h9
 clear h8
 clear h
 go_enter Tryz.func15,Tryz.ntmps15
 go_wp2_with fail
 go_ret
 rw [He.out]
 exact ⟨_,_,rfl,H.out,Chg.refl,.refl⟩
theorem ask_busy_0_1 (col:Nat→Nat) (w:World) (b bd N:Nat) (x:Sv) (s:St) (p:Int) (d:ByteArray) (a:Ak) (h:StAt Ts col w b bd N x s) (h5:¬ p<0) (h6:¬ 32≤p) (h7:¬ 4<d.size) (h8:d.size=0) (ha:s.askAt 0=some a) :
  Calls Tryz.prog 15 #[.pointer (some ⟨b,0,none⟩),.int .i64 0,.int .i64 1,.int .i64 p,.string d] w (Ret5 Ts col w b bd N (s.ask 0 1 p d).1 (errV (s.ask 0 1 p d).2)):=by
 have He:=Lib.hid (ask_busy (s:=s) (client:=0) (kind:=1) (p:=p) (d:=d) (by omega) (by omega) (by show (s.askAt 0).isSome=true; rw [ha]; rfl))
 obtain ⟨p0,e0,_,q0⟩:=h.ptr 0 (by omega)
 obtain ⟨ba,rfl⟩:=q0 a ha
 have c0:w.cell? ⟨b,11,none⟩=some (.pointer (some ⟨ba,0,none⟩)):=(h.cell 11).trans (congrArg some e0)
 have H:=Lib.hid h
 have hsz:¬ (4:Int)<(d.size:Int):=by omega
 have hse:=str_no h8
 clear h ha q0 e0 h8
 go_enter Tryz.func15,Tryz.ntmps15
 go_wp2_with fail
 go_ret
 rw [He.out]
 exact ⟨_,_,rfl,H.out,Chg.refl,.refl⟩
theorem ask_ok_0_1 (col:Nat→Nat) (w:World) (b bd N:Nat) (x:Sv) (s:St) (p:Int) (d:ByteArray) (K:Int) (h:StAt Ts col w b bd N x s) (hI:Inv s) (hB:Bd K s) (h0:0≤K) (hK:K≤800000000) (h5:¬ p<0) (h6:¬ 32≤p) (h7:¬ 4<d.size) (h8:d.size=0) (ha:s.askAt 0=none) :
  Calls Tryz.prog 15 #[.pointer (some ⟨b,0,none⟩),.int .i64 0,.int .i64 1,.int .i64 p,.string d] w (Ret5 Ts col w b bd N (s.ask 0 1 p d).1 (errV (s.ask 0 1 p d).2)):=by
 have He:=Lib.hid (ask_ok (s:=s) (client:=0) (kind:=1) (p:=p) (d:=d) (by omega) (by omega) ha)
 have HIa:Hid (Inv { s with asks:=s.asks.set 0 (some ⟨1,p,d,[]⟩) }):=hI.asked (by omega) (by omega) (by omega) (by simp)
 have HBa:Hid (Bd K { s with asks:=s.asks.set 0 (some ⟨1,p,d,[]⟩) }):=show Bd _ _ from ⟨hB.use,hB.tag,hB.waits⟩
 obtain ⟨p0,e0,n0,_⟩:=h.ptr 0 (by omega)
 obtain rfl:=n0 ha
 have c0:w.cell? ⟨b,11,none⟩=some (.pointer none):=(h.cell 11).trans (congrArg some e0)
 have f0:=h.frozen 11
 have H:=Lib.hid h
 have hsz:¬ (4:Int)<(d.size:Int):=by omega
 have hse:=str_no h8
 clear h hI hB ha n0 e0 h8
 have hbl:=H.out.bl
 have c1:∀ o,(w.alloc o).cell? ⟨b,11,none⟩=some (.pointer none):=fun o=>(World.cell?_alloc_lt _ _ _ hbl).trans c0
 have f1:∀ o,(w.alloc o).frozen? ⟨b,11,none⟩=false:=fun o=>(World.frozen?_alloc_past _ _ _ hbl).trans f0
 go_enter Tryz.func15,Tryz.ntmps15
 go_wp2_with fail
 have hsz:(w.setCell ⟨b,11,none⟩ (.pointer (some ⟨w.heap.size,0,none⟩))).heap.size=w.heap.size:=by simp [World.setCell]
 have hbA:=(Below.refl (w.setCell ⟨b,11,none⟩ (.pointer (some ⟨w.heap.size,0,none⟩))).heap.size (w.setCell ⟨b,11,none⟩ (.pointer (some ⟨w.heap.size,0,none⟩)))).alloc (Nat.le_refl _) (.cells #[.int .i64 1,.int .i64 p,.string d,.slice none 0 0] 90)
 have hnew:=heap_alloc_new (w.setCell ⟨b,11,none⟩ (.pointer (some ⟨w.heap.size,0,none⟩))) (.cells #[.int .i64 1,.int .i64 p,.string d,.slice none 0 0] 90)
 rw [hsz] at hnew
 obtain ⟨col',hst,hrec⟩:=H.out.asked (c:=0) (by omega) (a:=⟨1,p,d,[]⟩) (B:=w.heap.size) (lv:=.slice none 0 0) (w':=(w.setCell ⟨b,11,none⟩ (.pointer (some ⟨w.heap.size,0,none⟩))).alloc (.cells #[.int .i64 1,.int .i64 p,.string d,.slice none 0 0] 90))
  ((Chg.refl.setCell (F:=fun k=>k=b) (.inl rfl) _).step hbA) (Nat.le_refl _) hnew (World.ownsRow_nil _ _ _ _) ((hbA.block _ (by rw [hsz]; exact hbl)).trans (heap_setCell_same _ _ 11 _ _ _ H.out.row))
 have hch:=(Chg.refl.setCell (F:=Fl col) (p:=⟨b,11,none⟩) (.inl (show col b≠0∧col b≠9 by rw [H.out.cb]; decide)) (.pointer (some ⟨w.heap.size,0,none⟩))).step hbA
 have Hst:=Lib.hid hst
 have Hrec:=Lib.hid hrec
 have Hch:=Lib.hid hch
 clear hst hrec hch hbA hnew hsz c0 c1 f0 f1
 generalize World.alloc _ _=w1 at Hst Hch ⊢
 refine (serve_any col' w1 b bd N _ _ K Hst.out HIa.out HBa.out h0 hK).mono ?_
 rintro e w2 ⟨y2,rfl,hst2,hc2,_⟩
 have Hst2:=Lib.hid hst2
 have HC2:=Lib.hid (Hch.out.recol hc2 Hrec.out.grow)
 clear hst2 hc2
 go_wp2_with fail
 go_ret
 rw [He.out]
 exact ⟨col',_,rfl,Hst2.out,HC2.out,Hrec.out.old,Hrec.out.grow⟩
theorem ask_busy_0_2 (col:Nat→Nat) (w:World) (b bd N:Nat) (x:Sv) (s:St) (p:Int) (d:ByteArray) (a:Ak) (h:StAt Ts col w b bd N x s) (h5:¬ p<0) (h6:¬ 32≤p) (h7:¬ 4<d.size) (ha:s.askAt 0=some a) :
  Calls Tryz.prog 15 #[.pointer (some ⟨b,0,none⟩),.int .i64 0,.int .i64 2,.int .i64 p,.string d] w (Ret5 Ts col w b bd N (s.ask 0 2 p d).1 (errV (s.ask 0 2 p d).2)):=by
 have He:=Lib.hid (ask_busy (s:=s) (client:=0) (kind:=2) (p:=p) (d:=d) (by omega) (by omega) (by show (s.askAt 0).isSome=true; rw [ha]; rfl))
 obtain ⟨p0,e0,_,q0⟩:=h.ptr 0 (by omega)
 obtain ⟨ba,rfl⟩:=q0 a ha
 have c0:w.cell? ⟨b,11,none⟩=some (.pointer (some ⟨ba,0,none⟩)):=(h.cell 11).trans (congrArg some e0)
 have H:=Lib.hid h
 have hsz:¬ (4:Int)<(d.size:Int):=by omega
 clear h ha q0 e0
 go_enter Tryz.func15,Tryz.ntmps15
 go_wp2_with fail
 go_ret
 rw [He.out]
 exact ⟨_,_,rfl,H.out,Chg.refl,.refl⟩
theorem ask_ok_0_2 (col:Nat→Nat) (w:World) (b bd N:Nat) (x:Sv) (s:St) (p:Int) (d:ByteArray) (K:Int) (h:StAt Ts col w b bd N x s) (hI:Inv s) (hB:Bd K s) (h0:0≤K) (hK:K≤800000000) (h5:¬ p<0) (h6:¬ 32≤p) (h7:¬ 4<d.size) (ha:s.askAt 0=none) :
  Calls Tryz.prog 15 #[.pointer (some ⟨b,0,none⟩),.int .i64 0,.int .i64 2,.int .i64 p,.string d] w (Ret5 Ts col w b bd N (s.ask 0 2 p d).1 (errV (s.ask 0 2 p d).2)):=by
 have He:=Lib.hid (ask_ok (s:=s) (client:=0) (kind:=2) (p:=p) (d:=d) (by omega) (by omega) ha)
 have HIa:Hid (Inv { s with asks:=s.asks.set 0 (some ⟨2,p,d,[]⟩) }):=hI.asked (by omega) (by omega) (by omega) (by simp)
 have HBa:Hid (Bd K { s with asks:=s.asks.set 0 (some ⟨2,p,d,[]⟩) }):=show Bd _ _ from ⟨hB.use,hB.tag,hB.waits⟩
 obtain ⟨p0,e0,n0,_⟩:=h.ptr 0 (by omega)
 obtain rfl:=n0 ha
 have c0:w.cell? ⟨b,11,none⟩=some (.pointer none):=(h.cell 11).trans (congrArg some e0)
 have f0:=h.frozen 11
 have H:=Lib.hid h
 have hsz:¬ (4:Int)<(d.size:Int):=by omega
 clear h hI hB ha n0 e0
 have hbl:=H.out.bl
 have c1:∀ o,(w.alloc o).cell? ⟨b,11,none⟩=some (.pointer none):=fun o=>(World.cell?_alloc_lt _ _ _ hbl).trans c0
 have f1:∀ o,(w.alloc o).frozen? ⟨b,11,none⟩=false:=fun o=>(World.frozen?_alloc_past _ _ _ hbl).trans f0
 go_enter Tryz.func15,Tryz.ntmps15
 go_wp2_with fail
 have hsz:(w.setCell ⟨b,11,none⟩ (.pointer (some ⟨w.heap.size,0,none⟩))).heap.size=w.heap.size:=by simp [World.setCell]
 have hbA:=(Below.refl (w.setCell ⟨b,11,none⟩ (.pointer (some ⟨w.heap.size,0,none⟩))).heap.size (w.setCell ⟨b,11,none⟩ (.pointer (some ⟨w.heap.size,0,none⟩)))).alloc (Nat.le_refl _) (.cells #[.int .i64 2,.int .i64 p,.string d,.slice none 0 0] 90)
 have hnew:=heap_alloc_new (w.setCell ⟨b,11,none⟩ (.pointer (some ⟨w.heap.size,0,none⟩))) (.cells #[.int .i64 2,.int .i64 p,.string d,.slice none 0 0] 90)
 rw [hsz] at hnew
 obtain ⟨col',hst,hrec⟩:=H.out.asked (c:=0) (by omega) (a:=⟨2,p,d,[]⟩) (B:=w.heap.size) (lv:=.slice none 0 0) (w':=(w.setCell ⟨b,11,none⟩ (.pointer (some ⟨w.heap.size,0,none⟩))).alloc (.cells #[.int .i64 2,.int .i64 p,.string d,.slice none 0 0] 90))
  ((Chg.refl.setCell (F:=fun k=>k=b) (.inl rfl) _).step hbA) (Nat.le_refl _) hnew (World.ownsRow_nil _ _ _ _) ((hbA.block _ (by rw [hsz]; exact hbl)).trans (heap_setCell_same _ _ 11 _ _ _ H.out.row))
 have hch:=(Chg.refl.setCell (F:=Fl col) (p:=⟨b,11,none⟩) (.inl (show col b≠0∧col b≠9 by rw [H.out.cb]; decide)) (.pointer (some ⟨w.heap.size,0,none⟩))).step hbA
 have Hst:=Lib.hid hst
 have Hrec:=Lib.hid hrec
 have Hch:=Lib.hid hch
 clear hst hrec hch hbA hnew hsz c0 c1 f0 f1
 generalize World.alloc _ _=w1 at Hst Hch ⊢
 refine (serve_any col' w1 b bd N _ _ K Hst.out HIa.out HBa.out h0 hK).mono ?_
 rintro e w2 ⟨y2,rfl,hst2,hc2,_⟩
 have Hst2:=Lib.hid hst2
 have HC2:=Lib.hid (Hch.out.recol hc2 Hrec.out.grow)
 clear hst2 hc2
 go_wp2_with fail
 go_ret
 rw [He.out]
 exact ⟨col',_,rfl,Hst2.out,HC2.out,Hrec.out.old,Hrec.out.grow⟩
theorem ask_busy_0_3 (col:Nat→Nat) (w:World) (b bd N:Nat) (x:Sv) (s:St) (d:ByteArray) (a:Ak) (h:StAt Ts col w b bd N x s) (h7:¬ 4<d.size) (h8:d.size=0) (ha:s.askAt 0=some a) :
  Calls Tryz.prog 15 #[.pointer (some ⟨b,0,none⟩),.int .i64 0,.int .i64 3,.int .i64 0,.string d] w (Ret5 Ts col w b bd N (s.ask 0 3 0 d).1 (errV (s.ask 0 3 0 d).2)):=by
 have He:=Lib.hid (ask_busy (s:=s) (client:=0) (kind:=3) (p:=0) (d:=d) (by omega) (by omega) (by show (s.askAt 0).isSome=true; rw [ha]; rfl))
 obtain ⟨p0,e0,_,q0⟩:=h.ptr 0 (by omega)
 obtain ⟨ba,rfl⟩:=q0 a ha
 have c0:w.cell? ⟨b,11,none⟩=some (.pointer (some ⟨ba,0,none⟩)):=(h.cell 11).trans (congrArg some e0)
 have H:=Lib.hid h
 have hsz:¬ (4:Int)<(d.size:Int):=by omega
 have hse:=str_no h8
 clear h ha q0 e0 h8
 go_enter Tryz.func15,Tryz.ntmps15
 go_wp2_with fail
 go_ret
 rw [He.out]
 exact ⟨_,_,rfl,H.out,Chg.refl,.refl⟩
theorem ask_busy_1_1 (col:Nat→Nat) (w:World) (b bd N:Nat) (x:Sv) (s:St) (p:Int) (d:ByteArray) (a:Ak) (h:StAt Ts col w b bd N x s) (h5:¬ p<0) (h6:¬ 32≤p) (h7:¬ 4<d.size) (h8:d.size=0) (ha:s.askAt 1=some a) :
  Calls Tryz.prog 15 #[.pointer (some ⟨b,0,none⟩),.int .i64 1,.int .i64 1,.int .i64 p,.string d] w (Ret5 Ts col w b bd N (s.ask 1 1 p d).1 (errV (s.ask 1 1 p d).2)):=by
 have He:=Lib.hid (ask_busy (s:=s) (client:=1) (kind:=1) (p:=p) (d:=d) (by omega) (by omega) (by show (s.askAt 1).isSome=true; rw [ha]; rfl))
 obtain ⟨p0,e0,_,q0⟩:=h.ptr 1 (by omega)
 obtain ⟨ba,rfl⟩:=q0 a ha
 have c0:w.cell? ⟨b,12,none⟩=some (.pointer (some ⟨ba,0,none⟩)):=(h.cell 12).trans (congrArg some e0)
 have H:=Lib.hid h
 have hsz:¬ (4:Int)<(d.size:Int):=by omega
 have hse:=str_no h8
 clear h ha q0 e0 h8
 go_enter Tryz.func15,Tryz.ntmps15
 go_wp2_with fail
 go_ret
 rw [He.out]
 exact ⟨_,_,rfl,H.out,Chg.refl,.refl⟩
theorem ask_ok_1_1 (col:Nat→Nat) (w:World) (b bd N:Nat) (x:Sv) (s:St) (p:Int) (d:ByteArray) (K:Int) (h:StAt Ts col w b bd N x s) (hI:Inv s) (hB:Bd K s) (h0:0≤K) (hK:K≤800000000) (h5:¬ p<0) (h6:¬ 32≤p) (h7:¬ 4<d.size) (h8:d.size=0) (ha:s.askAt 1=none) :
  Calls Tryz.prog 15 #[.pointer (some ⟨b,0,none⟩),.int .i64 1,.int .i64 1,.int .i64 p,.string d] w (Ret5 Ts col w b bd N (s.ask 1 1 p d).1 (errV (s.ask 1 1 p d).2)):=by
 have He:=Lib.hid (ask_ok (s:=s) (client:=1) (kind:=1) (p:=p) (d:=d) (by omega) (by omega) ha)
 have HIa:Hid (Inv { s with asks:=s.asks.set 1 (some ⟨1,p,d,[]⟩) }):=hI.asked (by omega) (by omega) (by omega) (by simp)
 have HBa:Hid (Bd K { s with asks:=s.asks.set 1 (some ⟨1,p,d,[]⟩) }):=show Bd _ _ from ⟨hB.use,hB.tag,hB.waits⟩
 obtain ⟨p0,e0,n0,_⟩:=h.ptr 1 (by omega)
 obtain rfl:=n0 ha
 have c0:w.cell? ⟨b,12,none⟩=some (.pointer none):=(h.cell 12).trans (congrArg some e0)
 have f0:=h.frozen 12
 have H:=Lib.hid h
 have hsz:¬ (4:Int)<(d.size:Int):=by omega
 have hse:=str_no h8
 clear h hI hB ha n0 e0 h8
 have hbl:=H.out.bl
 have c1:∀ o,(w.alloc o).cell? ⟨b,12,none⟩=some (.pointer none):=fun o=>(World.cell?_alloc_lt _ _ _ hbl).trans c0
 have f1:∀ o,(w.alloc o).frozen? ⟨b,12,none⟩=false:=fun o=>(World.frozen?_alloc_past _ _ _ hbl).trans f0
 go_enter Tryz.func15,Tryz.ntmps15
 go_wp2_with fail
 have hsz:(w.setCell ⟨b,12,none⟩ (.pointer (some ⟨w.heap.size,0,none⟩))).heap.size=w.heap.size:=by simp [World.setCell]
 have hbA:=(Below.refl (w.setCell ⟨b,12,none⟩ (.pointer (some ⟨w.heap.size,0,none⟩))).heap.size (w.setCell ⟨b,12,none⟩ (.pointer (some ⟨w.heap.size,0,none⟩)))).alloc (Nat.le_refl _) (.cells #[.int .i64 1,.int .i64 p,.string d,.slice none 0 0] 90)
 have hnew:=heap_alloc_new (w.setCell ⟨b,12,none⟩ (.pointer (some ⟨w.heap.size,0,none⟩))) (.cells #[.int .i64 1,.int .i64 p,.string d,.slice none 0 0] 90)
 rw [hsz] at hnew
 obtain ⟨col',hst,hrec⟩:=H.out.asked (c:=1) (by omega) (a:=⟨1,p,d,[]⟩) (B:=w.heap.size) (lv:=.slice none 0 0) (w':=(w.setCell ⟨b,12,none⟩ (.pointer (some ⟨w.heap.size,0,none⟩))).alloc (.cells #[.int .i64 1,.int .i64 p,.string d,.slice none 0 0] 90))
  ((Chg.refl.setCell (F:=fun k=>k=b) (.inl rfl) _).step hbA) (Nat.le_refl _) hnew (World.ownsRow_nil _ _ _ _) ((hbA.block _ (by rw [hsz]; exact hbl)).trans (heap_setCell_same _ _ 12 _ _ _ H.out.row))
 have hch:=(Chg.refl.setCell (F:=Fl col) (p:=⟨b,12,none⟩) (.inl (show col b≠0∧col b≠9 by rw [H.out.cb]; decide)) (.pointer (some ⟨w.heap.size,0,none⟩))).step hbA
 have Hst:=Lib.hid hst
 have Hrec:=Lib.hid hrec
 have Hch:=Lib.hid hch
 clear hst hrec hch hbA hnew hsz c0 c1 f0 f1
 generalize World.alloc _ _=w1 at Hst Hch ⊢
 refine (serve_any col' w1 b bd N _ _ K Hst.out HIa.out HBa.out h0 hK).mono ?_
 rintro e w2 ⟨y2,rfl,hst2,hc2,_⟩
 have Hst2:=Lib.hid hst2
 have HC2:=Lib.hid (Hch.out.recol hc2 Hrec.out.grow)
 clear hst2 hc2
 go_wp2_with fail
 go_ret
 rw [He.out]
 exact ⟨col',_,rfl,Hst2.out,HC2.out,Hrec.out.old,Hrec.out.grow⟩
theorem ask_busy_1_2 (col:Nat→Nat) (w:World) (b bd N:Nat) (x:Sv) (s:St) (p:Int) (d:ByteArray) (a:Ak) (h:StAt Ts col w b bd N x s) (h5:¬ p<0) (h6:¬ 32≤p) (h7:¬ 4<d.size) (ha:s.askAt 1=some a) :
  Calls Tryz.prog 15 #[.pointer (some ⟨b,0,none⟩),.int .i64 1,.int .i64 2,.int .i64 p,.string d] w (Ret5 Ts col w b bd N (s.ask 1 2 p d).1 (errV (s.ask 1 2 p d).2)):=by
 have He:=Lib.hid (ask_busy (s:=s) (client:=1) (kind:=2) (p:=p) (d:=d) (by omega) (by omega) (by show (s.askAt 1).isSome=true; rw [ha]; rfl))
 obtain ⟨p0,e0,_,q0⟩:=h.ptr 1 (by omega)
 obtain ⟨ba,rfl⟩:=q0 a ha
 have c0:w.cell? ⟨b,12,none⟩=some (.pointer (some ⟨ba,0,none⟩)):=(h.cell 12).trans (congrArg some e0)
 have H:=Lib.hid h
 have hsz:¬ (4:Int)<(d.size:Int):=by omega
 clear h ha q0 e0
 go_enter Tryz.func15,Tryz.ntmps15
 go_wp2_with fail
 go_ret
 rw [He.out]
 exact ⟨_,_,rfl,H.out,Chg.refl,.refl⟩
theorem ask_ok_1_2 (col:Nat→Nat) (w:World) (b bd N:Nat) (x:Sv) (s:St) (p:Int) (d:ByteArray) (K:Int) (h:StAt Ts col w b bd N x s) (hI:Inv s) (hB:Bd K s) (h0:0≤K) (hK:K≤800000000) (h5:¬ p<0) (h6:¬ 32≤p) (h7:¬ 4<d.size) (ha:s.askAt 1=none) :
  Calls Tryz.prog 15 #[.pointer (some ⟨b,0,none⟩),.int .i64 1,.int .i64 2,.int .i64 p,.string d] w (Ret5 Ts col w b bd N (s.ask 1 2 p d).1 (errV (s.ask 1 2 p d).2)):=by
 have He:=Lib.hid (ask_ok (s:=s) (client:=1) (kind:=2) (p:=p) (d:=d) (by omega) (by omega) ha)
 have HIa:Hid (Inv { s with asks:=s.asks.set 1 (some ⟨2,p,d,[]⟩) }):=hI.asked (by omega) (by omega) (by omega) (by simp)
 have HBa:Hid (Bd K { s with asks:=s.asks.set 1 (some ⟨2,p,d,[]⟩) }):=show Bd _ _ from ⟨hB.use,hB.tag,hB.waits⟩
 obtain ⟨p0,e0,n0,_⟩:=h.ptr 1 (by omega)
 obtain rfl:=n0 ha
 have c0:w.cell? ⟨b,12,none⟩=some (.pointer none):=(h.cell 12).trans (congrArg some e0)
 have f0:=h.frozen 12
 have H:=Lib.hid h
 have hsz:¬ (4:Int)<(d.size:Int):=by omega
 clear h hI hB ha n0 e0
 have hbl:=H.out.bl
 have c1:∀ o,(w.alloc o).cell? ⟨b,12,none⟩=some (.pointer none):=fun o=>(World.cell?_alloc_lt _ _ _ hbl).trans c0
 have f1:∀ o,(w.alloc o).frozen? ⟨b,12,none⟩=false:=fun o=>(World.frozen?_alloc_past _ _ _ hbl).trans f0
 go_enter Tryz.func15,Tryz.ntmps15
 go_wp2_with fail
 have hsz:(w.setCell ⟨b,12,none⟩ (.pointer (some ⟨w.heap.size,0,none⟩))).heap.size=w.heap.size:=by simp [World.setCell]
 have hbA:=(Below.refl (w.setCell ⟨b,12,none⟩ (.pointer (some ⟨w.heap.size,0,none⟩))).heap.size (w.setCell ⟨b,12,none⟩ (.pointer (some ⟨w.heap.size,0,none⟩)))).alloc (Nat.le_refl _) (.cells #[.int .i64 2,.int .i64 p,.string d,.slice none 0 0] 90)
 have hnew:=heap_alloc_new (w.setCell ⟨b,12,none⟩ (.pointer (some ⟨w.heap.size,0,none⟩))) (.cells #[.int .i64 2,.int .i64 p,.string d,.slice none 0 0] 90)
 rw [hsz] at hnew
 obtain ⟨col',hst,hrec⟩:=H.out.asked (c:=1) (by omega) (a:=⟨2,p,d,[]⟩) (B:=w.heap.size) (lv:=.slice none 0 0) (w':=(w.setCell ⟨b,12,none⟩ (.pointer (some ⟨w.heap.size,0,none⟩))).alloc (.cells #[.int .i64 2,.int .i64 p,.string d,.slice none 0 0] 90))
  ((Chg.refl.setCell (F:=fun k=>k=b) (.inl rfl) _).step hbA) (Nat.le_refl _) hnew (World.ownsRow_nil _ _ _ _) ((hbA.block _ (by rw [hsz]; exact hbl)).trans (heap_setCell_same _ _ 12 _ _ _ H.out.row))
 have hch:=(Chg.refl.setCell (F:=Fl col) (p:=⟨b,12,none⟩) (.inl (show col b≠0∧col b≠9 by rw [H.out.cb]; decide)) (.pointer (some ⟨w.heap.size,0,none⟩))).step hbA
 have Hst:=Lib.hid hst
 have Hrec:=Lib.hid hrec
 have Hch:=Lib.hid hch
 clear hst hrec hch hbA hnew hsz c0 c1 f0 f1
 generalize World.alloc _ _=w1 at Hst Hch ⊢
 refine (serve_any col' w1 b bd N _ _ K Hst.out HIa.out HBa.out h0 hK).mono ?_
 rintro e w2 ⟨y2,rfl,hst2,hc2,_⟩
 have Hst2:=Lib.hid hst2
 have HC2:=Lib.hid (Hch.out.recol hc2 Hrec.out.grow)
 clear hst2 hc2
 go_wp2_with fail
 go_ret
 rw [He.out]
 exact ⟨col',_,rfl,Hst2.out,HC2.out,Hrec.out.old,Hrec.out.grow⟩
theorem ask_busy_1_3 (col:Nat→Nat) (w:World) (b bd N:Nat) (x:Sv) (s:St) (d:ByteArray) (a:Ak) (h:StAt Ts col w b bd N x s) (h7:¬ 4<d.size) (h8:d.size=0) (ha:s.askAt 1=some a) :
  Calls Tryz.prog 15 #[.pointer (some ⟨b,0,none⟩),.int .i64 1,.int .i64 3,.int .i64 0,.string d] w (Ret5 Ts col w b bd N (s.ask 1 3 0 d).1 (errV (s.ask 1 3 0 d).2)):=by
 have He:=Lib.hid (ask_busy (s:=s) (client:=1) (kind:=3) (p:=0) (d:=d) (by omega) (by omega) (by show (s.askAt 1).isSome=true; rw [ha]; rfl))
 obtain ⟨p0,e0,_,q0⟩:=h.ptr 1 (by omega)
 obtain ⟨ba,rfl⟩:=q0 a ha
 have c0:w.cell? ⟨b,12,none⟩=some (.pointer (some ⟨ba,0,none⟩)):=(h.cell 12).trans (congrArg some e0)
 have H:=Lib.hid h
 have hsz:¬ (4:Int)<(d.size:Int):=by omega
 have hse:=str_no h8
 clear h ha q0 e0 h8
 go_enter Tryz.func15,Tryz.ntmps15
 go_wp2_with fail
 go_ret
 rw [He.out]
 exact ⟨_,_,rfl,H.out,Chg.refl,.refl⟩
theorem ask_busy_2_1 (col:Nat→Nat) (w:World) (b bd N:Nat) (x:Sv) (s:St) (p:Int) (d:ByteArray) (a:Ak) (h:StAt Ts col w b bd N x s) (h5:¬ p<0) (h6:¬ 32≤p) (h7:¬ 4<d.size) (h8:d.size=0) (ha:s.askAt 2=some a) :
  Calls Tryz.prog 15 #[.pointer (some ⟨b,0,none⟩),.int .i64 2,.int .i64 1,.int .i64 p,.string d] w (Ret5 Ts col w b bd N (s.ask 2 1 p d).1 (errV (s.ask 2 1 p d).2)):=by
 have He:=Lib.hid (ask_busy (s:=s) (client:=2) (kind:=1) (p:=p) (d:=d) (by omega) (by omega) (by show (s.askAt 2).isSome=true; rw [ha]; rfl))
 obtain ⟨p0,e0,_,q0⟩:=h.ptr 2 (by omega)
 obtain ⟨ba,rfl⟩:=q0 a ha
 have c0:w.cell? ⟨b,13,none⟩=some (.pointer (some ⟨ba,0,none⟩)):=(h.cell 13).trans (congrArg some e0)
 have H:=Lib.hid h
 have hsz:¬ (4:Int)<(d.size:Int):=by omega
 have hse:=str_no h8
 clear h ha q0 e0 h8
 go_enter Tryz.func15,Tryz.ntmps15
 go_wp2_with fail
 go_ret
 rw [He.out]
 exact ⟨_,_,rfl,H.out,Chg.refl,.refl⟩
theorem ask_ok_2_1 (col:Nat→Nat) (w:World) (b bd N:Nat) (x:Sv) (s:St) (p:Int) (d:ByteArray) (K:Int) (h:StAt Ts col w b bd N x s) (hI:Inv s) (hB:Bd K s) (h0:0≤K) (hK:K≤800000000) (h5:¬ p<0) (h6:¬ 32≤p) (h7:¬ 4<d.size) (h8:d.size=0) (ha:s.askAt 2=none) :
  Calls Tryz.prog 15 #[.pointer (some ⟨b,0,none⟩),.int .i64 2,.int .i64 1,.int .i64 p,.string d] w (Ret5 Ts col w b bd N (s.ask 2 1 p d).1 (errV (s.ask 2 1 p d).2)):=by
 have He:=Lib.hid (ask_ok (s:=s) (client:=2) (kind:=1) (p:=p) (d:=d) (by omega) (by omega) ha)
 have HIa:Hid (Inv { s with asks:=s.asks.set 2 (some ⟨1,p,d,[]⟩) }):=hI.asked (by omega) (by omega) (by omega) (by simp)
 have HBa:Hid (Bd K { s with asks:=s.asks.set 2 (some ⟨1,p,d,[]⟩) }):=show Bd _ _ from ⟨hB.use,hB.tag,hB.waits⟩
 obtain ⟨p0,e0,n0,_⟩:=h.ptr 2 (by omega)
 obtain rfl:=n0 ha
 have c0:w.cell? ⟨b,13,none⟩=some (.pointer none):=(h.cell 13).trans (congrArg some e0)
 have f0:=h.frozen 13
 have H:=Lib.hid h
 have hsz:¬ (4:Int)<(d.size:Int):=by omega
 have hse:=str_no h8
 clear h hI hB ha n0 e0 h8
 have hbl:=H.out.bl
 have c1:∀ o,(w.alloc o).cell? ⟨b,13,none⟩=some (.pointer none):=fun o=>(World.cell?_alloc_lt _ _ _ hbl).trans c0
 have f1:∀ o,(w.alloc o).frozen? ⟨b,13,none⟩=false:=fun o=>(World.frozen?_alloc_past _ _ _ hbl).trans f0
 go_enter Tryz.func15,Tryz.ntmps15
 go_wp2_with fail
 have hsz:(w.setCell ⟨b,13,none⟩ (.pointer (some ⟨w.heap.size,0,none⟩))).heap.size=w.heap.size:=by simp [World.setCell]
 have hbA:=(Below.refl (w.setCell ⟨b,13,none⟩ (.pointer (some ⟨w.heap.size,0,none⟩))).heap.size (w.setCell ⟨b,13,none⟩ (.pointer (some ⟨w.heap.size,0,none⟩)))).alloc (Nat.le_refl _) (.cells #[.int .i64 1,.int .i64 p,.string d,.slice none 0 0] 90)
 have hnew:=heap_alloc_new (w.setCell ⟨b,13,none⟩ (.pointer (some ⟨w.heap.size,0,none⟩))) (.cells #[.int .i64 1,.int .i64 p,.string d,.slice none 0 0] 90)
 rw [hsz] at hnew
 obtain ⟨col',hst,hrec⟩:=H.out.asked (c:=2) (by omega) (a:=⟨1,p,d,[]⟩) (B:=w.heap.size) (lv:=.slice none 0 0) (w':=(w.setCell ⟨b,13,none⟩ (.pointer (some ⟨w.heap.size,0,none⟩))).alloc (.cells #[.int .i64 1,.int .i64 p,.string d,.slice none 0 0] 90))
  ((Chg.refl.setCell (F:=fun k=>k=b) (.inl rfl) _).step hbA) (Nat.le_refl _) hnew (World.ownsRow_nil _ _ _ _) ((hbA.block _ (by rw [hsz]; exact hbl)).trans (heap_setCell_same _ _ 13 _ _ _ H.out.row))
 have hch:=(Chg.refl.setCell (F:=Fl col) (p:=⟨b,13,none⟩) (.inl (show col b≠0∧col b≠9 by rw [H.out.cb]; decide)) (.pointer (some ⟨w.heap.size,0,none⟩))).step hbA
 have Hst:=Lib.hid hst
 have Hrec:=Lib.hid hrec
 have Hch:=Lib.hid hch
 clear hst hrec hch hbA hnew hsz c0 c1 f0 f1
 generalize World.alloc _ _=w1 at Hst Hch ⊢
 refine (serve_any col' w1 b bd N _ _ K Hst.out HIa.out HBa.out h0 hK).mono ?_
 rintro e w2 ⟨y2,rfl,hst2,hc2,_⟩
 have Hst2:=Lib.hid hst2
 have HC2:=Lib.hid (Hch.out.recol hc2 Hrec.out.grow)
 clear hst2 hc2
 go_wp2_with fail
 go_ret
 rw [He.out]
 exact ⟨col',_,rfl,Hst2.out,HC2.out,Hrec.out.old,Hrec.out.grow⟩
theorem ask_busy_2_2 (col:Nat→Nat) (w:World) (b bd N:Nat) (x:Sv) (s:St) (p:Int) (d:ByteArray) (a:Ak) (h:StAt Ts col w b bd N x s) (h5:¬ p<0) (h6:¬ 32≤p) (h7:¬ 4<d.size) (ha:s.askAt 2=some a) :
  Calls Tryz.prog 15 #[.pointer (some ⟨b,0,none⟩),.int .i64 2,.int .i64 2,.int .i64 p,.string d] w (Ret5 Ts col w b bd N (s.ask 2 2 p d).1 (errV (s.ask 2 2 p d).2)):=by
 have He:=Lib.hid (ask_busy (s:=s) (client:=2) (kind:=2) (p:=p) (d:=d) (by omega) (by omega) (by show (s.askAt 2).isSome=true; rw [ha]; rfl))
 obtain ⟨p0,e0,_,q0⟩:=h.ptr 2 (by omega)
 obtain ⟨ba,rfl⟩:=q0 a ha
 have c0:w.cell? ⟨b,13,none⟩=some (.pointer (some ⟨ba,0,none⟩)):=(h.cell 13).trans (congrArg some e0)
 have H:=Lib.hid h
 have hsz:¬ (4:Int)<(d.size:Int):=by omega
 clear h ha q0 e0
 go_enter Tryz.func15,Tryz.ntmps15
 go_wp2_with fail
 go_ret
 rw [He.out]
 exact ⟨_,_,rfl,H.out,Chg.refl,.refl⟩
theorem ask_ok_2_2 (col:Nat→Nat) (w:World) (b bd N:Nat) (x:Sv) (s:St) (p:Int) (d:ByteArray) (K:Int) (h:StAt Ts col w b bd N x s) (hI:Inv s) (hB:Bd K s) (h0:0≤K) (hK:K≤800000000) (h5:¬ p<0) (h6:¬ 32≤p) (h7:¬ 4<d.size) (ha:s.askAt 2=none) :
  Calls Tryz.prog 15 #[.pointer (some ⟨b,0,none⟩),.int .i64 2,.int .i64 2,.int .i64 p,.string d] w (Ret5 Ts col w b bd N (s.ask 2 2 p d).1 (errV (s.ask 2 2 p d).2)):=by
 have He:=Lib.hid (ask_ok (s:=s) (client:=2) (kind:=2) (p:=p) (d:=d) (by omega) (by omega) ha)
 have HIa:Hid (Inv { s with asks:=s.asks.set 2 (some ⟨2,p,d,[]⟩) }):=hI.asked (by omega) (by omega) (by omega) (by simp)
 have HBa:Hid (Bd K { s with asks:=s.asks.set 2 (some ⟨2,p,d,[]⟩) }):=show Bd _ _ from ⟨hB.use,hB.tag,hB.waits⟩
 obtain ⟨p0,e0,n0,_⟩:=h.ptr 2 (by omega)
 obtain rfl:=n0 ha
 have c0:w.cell? ⟨b,13,none⟩=some (.pointer none):=(h.cell 13).trans (congrArg some e0)
 have f0:=h.frozen 13
 have H:=Lib.hid h
 have hsz:¬ (4:Int)<(d.size:Int):=by omega
 clear h hI hB ha n0 e0
 have hbl:=H.out.bl
 have c1:∀ o,(w.alloc o).cell? ⟨b,13,none⟩=some (.pointer none):=fun o=>(World.cell?_alloc_lt _ _ _ hbl).trans c0
 have f1:∀ o,(w.alloc o).frozen? ⟨b,13,none⟩=false:=fun o=>(World.frozen?_alloc_past _ _ _ hbl).trans f0
 go_enter Tryz.func15,Tryz.ntmps15
 go_wp2_with fail
 have hsz:(w.setCell ⟨b,13,none⟩ (.pointer (some ⟨w.heap.size,0,none⟩))).heap.size=w.heap.size:=by simp [World.setCell]
 have hbA:=(Below.refl (w.setCell ⟨b,13,none⟩ (.pointer (some ⟨w.heap.size,0,none⟩))).heap.size (w.setCell ⟨b,13,none⟩ (.pointer (some ⟨w.heap.size,0,none⟩)))).alloc (Nat.le_refl _) (.cells #[.int .i64 2,.int .i64 p,.string d,.slice none 0 0] 90)
 have hnew:=heap_alloc_new (w.setCell ⟨b,13,none⟩ (.pointer (some ⟨w.heap.size,0,none⟩))) (.cells #[.int .i64 2,.int .i64 p,.string d,.slice none 0 0] 90)
 rw [hsz] at hnew
 obtain ⟨col',hst,hrec⟩:=H.out.asked (c:=2) (by omega) (a:=⟨2,p,d,[]⟩) (B:=w.heap.size) (lv:=.slice none 0 0) (w':=(w.setCell ⟨b,13,none⟩ (.pointer (some ⟨w.heap.size,0,none⟩))).alloc (.cells #[.int .i64 2,.int .i64 p,.string d,.slice none 0 0] 90))
  ((Chg.refl.setCell (F:=fun k=>k=b) (.inl rfl) _).step hbA) (Nat.le_refl _) hnew (World.ownsRow_nil _ _ _ _) ((hbA.block _ (by rw [hsz]; exact hbl)).trans (heap_setCell_same _ _ 13 _ _ _ H.out.row))
 have hch:=(Chg.refl.setCell (F:=Fl col) (p:=⟨b,13,none⟩) (.inl (show col b≠0∧col b≠9 by rw [H.out.cb]; decide)) (.pointer (some ⟨w.heap.size,0,none⟩))).step hbA
 have Hst:=Lib.hid hst
 have Hrec:=Lib.hid hrec
 have Hch:=Lib.hid hch
 clear hst hrec hch hbA hnew hsz c0 c1 f0 f1
 generalize World.alloc _ _=w1 at Hst Hch ⊢
 refine (serve_any col' w1 b bd N _ _ K Hst.out HIa.out HBa.out h0 hK).mono ?_
 rintro e w2 ⟨y2,rfl,hst2,hc2,_⟩
 have Hst2:=Lib.hid hst2
 have HC2:=Lib.hid (Hch.out.recol hc2 Hrec.out.grow)
 clear hst2 hc2
 go_wp2_with fail
 go_ret
 rw [He.out]
 exact ⟨col',_,rfl,Hst2.out,HC2.out,Hrec.out.old,Hrec.out.grow⟩
theorem ask_busy_2_3 (col:Nat→Nat) (w:World) (b bd N:Nat) (x:Sv) (s:St) (d:ByteArray) (a:Ak) (h:StAt Ts col w b bd N x s) (h7:¬ 4<d.size) (h8:d.size=0) (ha:s.askAt 2=some a) :
  Calls Tryz.prog 15 #[.pointer (some ⟨b,0,none⟩),.int .i64 2,.int .i64 3,.int .i64 0,.string d] w (Ret5 Ts col w b bd N (s.ask 2 3 0 d).1 (errV (s.ask 2 3 0 d).2)):=by
 have He:=Lib.hid (ask_busy (s:=s) (client:=2) (kind:=3) (p:=0) (d:=d) (by omega) (by omega) (by show (s.askAt 2).isSome=true; rw [ha]; rfl))
 obtain ⟨p0,e0,_,q0⟩:=h.ptr 2 (by omega)
 obtain ⟨ba,rfl⟩:=q0 a ha
 have c0:w.cell? ⟨b,13,none⟩=some (.pointer (some ⟨ba,0,none⟩)):=(h.cell 13).trans (congrArg some e0)
 have H:=Lib.hid h
 have hsz:¬ (4:Int)<(d.size:Int):=by omega
 have hse:=str_no h8
 clear h ha q0 e0 h8
 go_enter Tryz.func15,Tryz.ntmps15
 go_wp2_with fail
 go_ret
 rw [He.out]
 exact ⟨_,_,rfl,H.out,Chg.refl,.refl⟩
end Go.Proofs.YtlomdfbnicbceaaGreat
