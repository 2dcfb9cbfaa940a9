/- pressed: slices.IndexFunc over the asks. -/
import Derived.Test.YtaeadmlgffaegaaGreatDoorQ26
set_option linter.unusedSimpArgs false
set_option linter.unusedVariables false
set_option maxRecDepth 100000
set_option maxHeartbeats 8000000
namespace Go.Proofs.YtaeadmlgffaegaaGreatDoor
open Go.RowKit
structure AsksAt (F:Nat→Nat→Prop) (w:World) (b off:Nat) (vs:List Value) (l:List (Option Ak)):Prop where
 len:vs.length=l.length
 cell:∀ (j:Nat) v,vs[j]?=some v→w.cell? ⟨b,off+j,none⟩=some v
 ask:∀ (j:Nat) v o,vs[j]?=some v→l[j]?=some o→AskAt Ts.A (F j) w v o
 ok:∀ a,some a ∈ l→AkOk a
theorem AskAt.below' {TA:TypeId} {F:Nat→Prop} {w w':World} {v:Value} {o:Option Ak} (h:AskAt TA F w v o) (hb:Below w.heap.size w w'):AskAt TA F w' v o:=h.keep (fun k _ hk=>hb.block k hk)
theorem indexp_any (F:Nat→Nat→Prop) (w:World) (b off cap:Nat) (vs:List Value) (l:List (Option Ak)) (h:AsksAt F w b off vs l) (h1:l.length≤cap) (h2:cap≤60000) :
  Calls Tryz.prog 133 #[.slice (some ⟨b,off,none⟩) l.length cap,.func (.func 98) #[] #[]] w (RetIdxB (fun n=>idxTells n (l.any (fun o=>isKind 2 o || isKind 3 o))) w):=by
 have Hl:=Lib.hid h
 clear h
 go_enter Tryz.func133,Tryz.ntmps133
 go_wp2
 go_loopw [8] (fun i wr=>∃ k:Nat,k≤l.length∧i=.int .i64 k∧Below w.heap.size w wr∧Hid ((l.take k).any (fun o=>isKind 2 o || isKind 3 o)=false)) (fun i _=>l.length - (intOf i).toNat)
 case atStart=>exact ⟨0,by omega,rfl,Below.refl _ _,rfl⟩
 case round =>
  obtain ⟨k,hk,rfl,hw,hall⟩:=hrel
  by_cases hlt:k<l.length
  ·have hx:l[k]?=some l[k]:=List.getElem?_eq_getElem hlt
   have hvl:k<vs.length:=by rw [Hl.out.len]; exact hlt
   have hv:vs[k]?=some vs[k]:=List.getElem?_eq_getElem hvl
   have k0:=cell_b hw (Hl.out.cell k _ hv)
   have Hat:=Lib.hid ((Hl.out.ask k _ _ hv hx).below' hw)
   have Hok:Hid (∀ a,l[k]=some a→AkOk a):=fun a e=>Hl.out.ok a (e▸List.getElem_mem hlt)
   have Hx:=Lib.hid hx
   clear hx hv
   generalize l[k]=o at *
   generalize vs[k]=vk at *
   go_wp2_with fail
   refine (pressed1_any (F k) wr vk o Hat.out Hok.out).mono ?_
   rintro e w1 ⟨rfl,hb1⟩
   have hw1:=hw.trans (hb1.mono hw.size)
   clear k0 hb1
   cases hs:(isKind 2 o || isKind 3 o) with
   |false =>
    have Hm:=Lib.hid hs
    clear hs
    go_wp2_with fail
    go_roundw
    case rel=>exact ⟨k+1,by omega,by go_num,hw1,by show _=false; rw [any_take_succ _ _ _ _ Hx.out,hall.out,Hm.out]; rfl⟩
    case measure=>simp [intOf]; omega
   |true =>
    have Hm:=Lib.hid hs
    clear hs
    go_wp2_with fail
    go_ret
    refine ⟨k,rfl,?_,hw1⟩
    rw [any_yes _ _ _ _ Hx.out Hm.out]
    simp [idxTells]
  ·go_wp2
   go_ret
   refine ⟨-1,rfl,?_,hw⟩
   rw [any_end _ _ _ (by omega) hall.out]
   simp [idxTells]
theorem containsp_any (F:Nat→Nat→Prop) (w:World) (b off cap:Nat) (vs:List Value) (l:List (Option Ak)) (h:AsksAt F w b off vs l) (h1:l.length≤cap) (h2:cap≤60000) :
  Calls Tryz.prog 97 #[.slice (some ⟨b,off,none⟩) l.length cap,.func (.func 98) #[] #[]] w (Ret (.bool (l.any (fun o=>isKind 2 o || isKind 3 o))) w):=by
 go_enter Tryz.func97,Tryz.ntmps97
 go_wp2_with fail
 refine (indexp_any F w b off cap vs l h h1 h2).mono ?_
 rintro e w1 ⟨n,rfl,hn,hb1⟩
 go_wp2_with fail
 go_ret
 refine ⟨?_,hb1⟩
 cases hb:(l.any (fun o=>isKind 2 o || isKind 3 o)) with
 |true=>rw [hb] at hn; have:=hn.2 rfl; simp [this]
 |false=>rw [hb] at hn; have:¬ 0≤n:=fun h=>by cases hn.1 h
         simp; omega
end Go.Proofs.YtaeadmlgffaegaaGreatDoor
namespace Go.Proofs.YtaeadmlgffaegaaGreatDoor
open Go.RowKit
theorem asks_row {col:Nat→Nat} {w:World} {b bd N:Nat} {x:Sv} {s:St} (h:StAt Ts col w b bd N x s) (hI:Inv s):AsksAt (Fa col) w b 11 [x.a0,x.a1,x.a2] s.asks:=by
 have h3:=h.asks
 refine ⟨by rw [h3]; rfl,fun j v hv=>?_,fun j v o hv ho=>?_,fun a ha=>?_⟩
 ·match j,hv with
  |0,hv=>cases hv; exact h.cell 11
  |1,hv=>cases hv; exact h.cell 12
  |2,hv=>cases hv; exact h.cell 13
 ·have e:s.askAt j=o:=by unfold St.askAt; rw [List.getD_eq_getElem?_getD,ho]; rfl
  match j,hv with
  |0,hv=>cases hv; exact e▸h.ask 0 (by omega)
  |1,hv=>cases hv; exact e▸h.ask 1 (by omega)
  |2,hv=>cases hv; exact e▸h.ask 2 (by omega)
 ·obtain ⟨j,hj⟩:=List.mem_iff_getElem?.1 ha
  exact hI.ask j a (by unfold St.askAt; rw [List.getD_eq_getElem?_getD,hj]; rfl)
theorem pressed_any (col:Nat→Nat) (w:World) (b bd N:Nat) (x:Sv) (s:St) (h:StAt Ts col w b bd N x s) (hI:Inv s) :
  Calls Tryz.prog 56 #[.pointer (some ⟨b,0,none⟩)] w (Ret (.bool s.pressed) w):=by
 have H:=Lib.hid h
 have HI:=Lib.hid hI
 have hA:=asks_row h hI
 have h3:=h.asks
 have Hp:Hid (s.pressed=(decide (3≤dirtyB s.bufs) || s.asks.any (fun o=>isKind 2 o || isKind 3 o))):=show _=_ from rfl
 have Hrow:=Lib.hid h.row
 have HA:=Lib.hid hA
 have H3:=Lib.hid h3
 clear h hI hA h3
 go_enter Tryz.func56,Tryz.ntmps56
 go_wp2_with fail
 refine (stdirty_any col w b bd N x s H.out HI.out.len8).mono ?_
 rintro e w1 ⟨rfl,hb1⟩
 have HB1:=Lib.hid hb1
 clear hb1
 rcases Nat.lt_or_ge (dirtyB s.bufs) 3 with h6 | h6
 ·have hn6:decide ((3:Int)≤(dirtyB s.bufs:Int))=false:=by rw [decide_eq_false_iff_not]; omega
  have Hd:Hid (decide (3≤dirtyB s.bufs)=false):=show _=_ by rw [decide_eq_false_iff_not]; omega
  clear h6
  go_wp2_with fail
  have hA1:AsksAt (Fa col) w1 b 11 [x.a0,x.a1,x.a2] s.asks:=asks_row (H.out.below HB1.out) HI.out
  have hc:=containsp_any (Fa col) w1 b 11 3 _ _ hA1 (by rw [H3.out]; omega) (by omega)
  rw [H3.out] at hc
  refine hc.mono ?_
  rintro e w2 ⟨rfl,hb2⟩
  have HB2:=Lib.hid hb2
  clear hb2 hc hA1
  go_wp2_with fail
  go_ret
  rw [Hp.out,Hd.out]
  exact ⟨by simp,HB1.out.trans (HB2.out.mono HB1.out.size)⟩
 ·have hn6:decide ((3:Int)≤(dirtyB s.bufs:Int))=true:=by rw [decide_eq_true_iff]; omega
  have Hd:Hid (decide (3≤dirtyB s.bufs)=true):=show _=_ by rw [decide_eq_true_iff]; omega
  clear h6
  go_wp2_with fail
  go_ret
  rw [Hp.out,Hd.out]
  exact ⟨by simp,HB1.out⟩
end Go.Proofs.YtaeadmlgffaegaaGreatDoor
namespace Go.Proofs.YtaeadmlgffaegaaGreatDoor
open Go.RowKit Go.Sort
theorem clean_st (col:Nat→Nat) (w:World) (b bd N:Nat) (x:Sv) (s:St) (h:StAt Ts col w b bd N x s) (hI:Inv s) (hu:s.use≤900000000∧s.tag≤900000000) :
  Calls Tryz.prog 24 #[.pointer (some ⟨b,0,none⟩)] w (Ret2 Ts col w b bd N x s.clean.1 (.bool s.clean.2)):=by
 have H:=Lib.hid h
 have HI:=Lib.hid hI
 have Hub:=Lib.hid hu
 have c11:w.cell? ⟨b,20,none⟩=some (.bool s.dead):=h.cell 20
 have c2:w.cell? ⟨b,2,none⟩=some x.bufs:=h.cell 2
 have Hc:Hid (s.clean=if s.dead || !s.pressed then (s,false) else if pickB s.bufs s.heldP<0 then (s,false) else s.queue true (pickB s.bufs s.heldP) (getB s.bufs (pickB s.bufs s.heldP)).1.data):=show _=_ from rfl
 have Hby:Hid (HeldBy w 58 #[.pointer (some ⟨b,0,none⟩)] #[] s.heldP):=held_by col w b bd N x s h (good_oks hI.good) hI.dv.two
 have Hin:Hid (InB s.bufs):=hI.inb
 have Hln:Hid (s.bufs.length≤65536):=show _≤_ by have:=hI.len8; omega
 have hz:=zero_buf
 clear h hI hu
 go_enter Tryz.func24,Tryz.ntmps24
 cases hd:s.dead with
 |true =>
  have Hd:=Lib.hid hd
  rw [hd] at c11
  clear hd
  go_wp2_with fail
  go_ret
  rw [Hc.out,Hd.out]
  exact ⟨_,rfl,H.out,Chg.refl,.refl⟩
 |false =>
  have Hd:=Lib.hid hd
  rw [hd] at c11
  clear hd
  go_wp2_with fail
  refine (pressed_any col w b bd N x s H.out HI.out).mono ?_
  rintro e w1 ⟨rfl,hb1⟩
  have HB1:=Lib.hid hb1
  have H1:=Lib.hid (H.out.below hb1)
  have c2':=cell_b hb1 c2
  clear hb1 c11 c2
  cases hp:s.pressed with
  |false =>
   have Hp:=Lib.hid hp
   clear hp
   go_wp2_with fail
   go_ret
   rw [Hc.out,Hd.out,Hp.out]
   exact ⟨_,rfl,H1.out,Chg.of_below HB1.out,.refl⟩
  |true =>
   have Hp:=Lib.hid hp
   clear hp
   go_wp2_with fail
   refine (pick_any (Im w1 col) s.bufs x.bufs 58 #[.pointer (some ⟨b,0,none⟩)] #[] s.heldP w1 H1.out.bufs Hin.out (Hby.out.step HB1.out) Hln.out).mono ?_
   rintro e w2 ⟨rfl,hb2⟩
   have HB2:=Lib.hid hb2
   have H2:=Lib.hid (H1.out.below hb2)
   have c3:=cell_b hb2 c2'
   clear hb2 c2'
   by_cases hn:pickB s.bufs s.heldP<0
   ·have hnd:decide (pickB s.bufs s.heldP<0)=true:=by simpa using hn
    have Hn:=Lib.hid hn
    clear hn
    go_wp2_with fail
    go_ret
    rw [Hc.out,Hd.out,Hp.out,if_neg (by decide),if_pos Hn.out]
    exact ⟨_,rfl,H2.out,Chg.of_below (HB1.out.trans (HB2.out.mono HB1.out.size)),.refl⟩
   ·have hnd:decide (pickB s.bufs s.heldP<0)=false:=by simpa using hn
    obtain ⟨y,hy,hpos,hg,_⟩:=pick_some HI.out.rises hn
    have Hpr:Hid (0≤pickB s.bufs s.heldP∧pickB s.bufs s.heldP≤31):=show _∧_ from hpos▸HI.out.inb y hy
    have Hsz:Hid ((getB s.bufs (pickB s.bufs s.heldP)).1.data.size≤16):=show _≤_ by rw [hg]; exact HI.out.size y hy
    have Hn:=Lib.hid hn
    clear hn hy hpos hg
    go_wp2_with fail
    refine (get_st H2.out HI.out _ w2 (Below.refl _ _)).mono ?_
    rintro e w3 ⟨rfl,hb3⟩
    have HB3:=Lib.hid hb3
    clear hb3 c3
    go_wp2_with fail
    refine (queue_any col _ b bd N x s true (pickB s.bufs s.heldP) (getB s.bufs (pickB s.bufs s.heldP)).1.data ((H2.out.below HB3.out).below ((Below.refl _ _).alloc (Nat.le_refl _) _)) (good_oks (good_app.1 HI.out.good).1) HI.out.wait6 ⟨HI.out.tag0,by have:=Hub.out; omega⟩ HI.out.now Hpr.out Hsz.out).mono ?_
    rintro e w4 ⟨y4,rfl,hst4,hc4,hav⟩
    have Hav:=Lib.hid hav
    have Hst4:=Lib.hid hst4
    have Hc4:=Lib.hid hc4
    clear hst4 hc4 hav
    go_wp2_with fail
    go_ret
    rw [Hc.out,Hd.out,Hp.out,if_neg (by decide),if_neg (Int.not_lt.2 Hn.out)]
    exact ⟨_,rfl,Hst4.out,((Chg.of_below (HB1.out.trans ((HB2.out.trans (HB3.out.mono HB2.out.size)).mono HB1.out.size))).step ((Below.refl _ _).alloc (Nat.le_refl _) _)).trans (Hc4.out.mono (fun k hk=>.inl hk)),Hav.out⟩
end Go.Proofs.YtaeadmlgffaegaaGreatDoor
namespace Go.Proofs.YtaeadmlgffaegaaGreatDoor
open Go.RowKit Go.Sort
def RetNew (T:Tys) (F:Nat→Prop) (w:World) (bd:Nat) (d:Dv):Ending→World→Prop :=
 fun e w'=>∃ (b:Nat) (col:Nat→Nat) (y:Sv),e=.returned (.pointer (some ⟨b,0,none⟩))∧StAt T col w' b bd 0 y (St.new d)∧Below w.heap.size w w'∧(∀ k,Fl col k→F k∨w.heap.size≤k)∧w.heap.size≤b
theorem stnew_any (S F:Nat→Prop) (w:World) (bd:Nat) (d:Dv) (h:DevAt TDp TPp S F w bd d) (hF:∀ k,F k→k<w.heap.size) (hSlt:∀ k,S k→k<w.heap.size) (hSF:∀ k,S k→¬ F k) :
  Calls Tryz.prog 16 #[.pointer (some ⟨bd,0,none⟩)] w (RetNew Ts F w bd d):=by
 classical
 have H:=Lib.hid h
 have HF:=Lib.hid hF
 have Hlt:=Lib.hid hSlt
 have HSF:=Lib.hid hSF
 clear h hF hSlt hSF
 go_enter Tryz.func16,Tryz.ntmps16
 go_wp2_with fail
 refine (drvnew_any S F w bd d H.out HF.out Hlt.out).mono ?_
 rintro e w1 ⟨rfl,hp,hb1,hs1⟩
 obtain ⟨bv,hbv⟩:∃ n,w.heap.size+1=n:=⟨_,rfl⟩
 have Hbv:=Lib.hid hbv
 rw [hbv] at hp ⊢
 have Hp:=Lib.hid hp
 have HB1:=Lib.hid hb1
 have Hs1:=Lib.hid hs1
 obtain ⟨x,hx⟩:∃ x:Sv,x=⟨bv,w.heap.size,0,.slice none 0 0,.slice none 0 0,.pointer none,.pointer none,.pointer none,noB,noB,noB,0,0,0⟩:=⟨_,rfl⟩
 clear hp hb1 hs1 hbv
 go_wp2_with fail
 go_ret
 obtain ⟨o,ho⟩:∃ o:Obj,o=.cells (x.row (St.new d) bd) Ts.S:=⟨_,rfl⟩
 have hoe:o=.cells (x.row (St.new d) bd) Ts.S:=ho
 have hA:Below w1.heap.size w1 (w1.alloc o):=(Below.refl _ _).alloc (Nat.le_refl _) _
 have hnew:(w1.alloc o).heap[w1.heap.size]?=some o:=heap_alloc_new _ _
 have hsz:(w1.alloc o).heap.size=w1.heap.size+1:=by simp
 have hs1:=Hs1.out
 have hbv:=Hbv.out
 have hwo:w1.alloc (.cells #[.pointer (some ⟨bd,0,none⟩),.pointer (some ⟨bv,0,none⟩),.slice none 0 0,.slice none 0 0,.bool false,.int .i64 0,.int .i64 0,.int .i64 0,.int .i64 0,.int .i64 0,.int .i64 0,.pointer none,.pointer none,.pointer none,.string ⟨#[]⟩,.string ⟨#[]⟩,.string ⟨#[]⟩,.int .i64 0,.int .i64 0,.int .i64 0,.bool false] 102)=w1.alloc o:=by rw [hoe,hx]; rfl
 rw [hwo]
 generalize w1.alloc o=w2 at hA hnew hsz
 rw [hoe] at hnew
 obtain ⟨col,hcol⟩:∃ f:Nat→Nat,∀ k,f k=if k=w1.heap.size then 1 else if k=bv then 2 else if k=w.heap.size then 3 else if F k then 4 else 0:=⟨_,fun _=>rfl⟩
 have c1:col w1.heap.size=1:=by rw [hcol,if_pos rfl]
 have c2:col bv=2:=by rw [hcol,if_neg (by omega),if_pos rfl]
 have c3:col w.heap.size=3:=by rw [hcol,if_neg (by omega),if_neg (by omega),if_pos rfl]
 have c4:∀ k,F k→col k=4:=fun k hk=>by have:=HF.out k hk; rw [hcol,if_neg (by omega),if_neg (by omega),if_neg (by omega),if_pos hk]
 have c0:∀ k,S k→col k=0:=fun k hk=>by have:=Hlt.out k hk; rw [hcol,if_neg (by omega),if_neg (by omega),if_neg (by omega),if_neg (HSF.out k hk)]
 have hdrv:=Hp.out.below hA
 have e1:x.bv=bv:=by rw [hx]
 have e2:x.bt=w.heap.size:=by rw [hx]
 have e3:x.n=0:=by rw [hx]
 have e4:x.bufs=.slice none 0 0:=by rw [hx]
 have e5:x.wait=.slice none 0 0:=by rw [hx]
 refine ⟨w1.heap.size,col,x,rfl,⟨hnew,?_,by rw [e3]; exact Nat.le_refl _,?_,?_,rfl,fun c hc=>?_,by rw [hx]; rfl,by rw [hx]; rfl,c1,by rw [e1]; exact c2,by rw [e2]; exact c3,fun k hk=>?_⟩,HB1.out.trans (hA.mono HB1.out.size),fun k hk=>?_,HB1.out.size⟩
 ·rw [e1,e2,e3]
  refine ⟨hdrv.row,hdrv.map,(hdrv.dev.mono c4).more (fun k hk=>⟨by have:=Hlt.out k hk; omega,c0 k hk⟩),?_,?_,?_⟩
  ·intro h1; have h2:col bv=4:=h1; rw [c2] at h2; cases h2
  ·intro h1; have h2:col w.heap.size=4:=h1; rw [c3] at h2; cases h2
  ·intro k hk
   constructor
   ·rintro rfl; have h2:=hk.2; rw [c2] at h2; cases h2
   ·rintro rfl; have h2:=hk.2; rw [c3] at h2; cases h2
 ·rw [e4]; exact BufsAt.nil
 ·rw [e5]; exact ⟨[],rfl,Rd.nil,by simp⟩
 ·match c,hc with
  |0,_=>show x.a0=_; rw [hx]
  |1,_=>show x.a1=_; rw [hx]
  |2,_=>show x.a2=_; rw [hx]
 ·rw [hcol] at hk
  split at hk
  ·omega
  ·split at hk
   ·omega
   ·split at hk
    ·omega
    ·split at hk
     ·rename_i hf; have:=HF.out k hf; omega
     ·exact absurd rfl hk
 ·have h1:col k≠0:=hk.1
  rw [hcol] at h1
  split at h1
  ·right; omega
  ·split at h1
   ·right; omega
   ·split at h1
    ·right; omega
    ·split at h1
     ·rename_i hf; exact .inl hf
     ·exact absurd rfl h1
theorem quiet_iff {s:St} (h3:s.asks.length=3):s.quiet=true↔(∀ c,c<3→s.askAt c=none)∧s.wait=[]∧s.v.d.l=[]:=by
 unfold St.quiet St.askAt
 obtain ⟨v,bf,wt,tn,nw,us,tg,aks,dn,er,dd⟩:=s
 match aks,h3 with
 | [a0,a1,a2],_ =>
  simp only [List.all_cons,List.all_nil,Bool.and_true,Bool.and_eq_true,Option.isNone_iff_eq_none,List.isEmpty_iff]
  constructor
  ·rintro ⟨⟨⟨h0,h1,h2⟩,h4⟩,h5⟩
   refine ⟨fun c hc=>?_,h4,h5⟩
   match c,hc with
   |0,_=>exact h0
   |1,_=>exact h1
   |2,_=>exact h2
  ·rintro ⟨h1,h4,h5⟩
   exact ⟨⟨⟨h1 0 (by omega),h1 1 (by omega),h1 2 (by omega)⟩,h4⟩,h5⟩
theorem quiet_any (col:Nat→Nat) (w:World) (b bd N:Nat) (x:Sv) (s:St) (h:StAt Ts col w b bd N x s) (hI:Inv s) :
  Calls Tryz.prog 71 #[.pointer (some ⟨b,0,none⟩)] w (Ret (.bool s.quiet) w):=by
 have H:=Lib.hid h
 have HI:=Lib.hid hI
 clear h hI
 go_enter Tryz.func71,Tryz.ntmps71
 go_wp2_with fail
 go_loop [4] (fun i=>∃ k:Nat,k≤3∧i=.int .i64 k∧Hid (∀ j,j<k→s.askAt j=none)) (fun i=>3 - (intOf i).toNat)
 case atStart=>exact ⟨0,by omega,rfl,fun j hj=>by omega⟩
 case round =>
  obtain ⟨k,hk,rfl,HN⟩:=hrel
  by_cases h3:k<3
  ·have h3':(k:Int)<3:=by omega
   go_wp2_with fail
   refine (waits_any col w b bd N x s k H.out h3).mono ?_
   rintro e w1 ⟨rfl,rfl⟩
   cases ho:s.askAt k with
   |some a =>
    have HQ:Hid (s.quiet=false):=show _=_ by
     rw [Bool.eq_false_iff]
     intro hq
     rw [((quiet_iff H.out.asks).1 hq).1 k h3] at ho
     cases ho
    clear ho
    simp only [Option.isSome_some]
    go_wp2_with fail
    go_ret
    rw [HQ.out]
    exact ⟨rfl,Below.refl _ _⟩
   |none =>
    have Ho:=Lib.hid ho
    clear ho
    simp only [Option.isSome_none]
    go_wp2_with fail
    go_round
    case rel =>
     refine ⟨k+1,by omega,by go_num,fun j hj=>?_⟩
     rcases Nat.lt_or_ge j k with h | h
     ·exact HN.out j h
     ·obtain rfl:j=k:=by omega
      exact Ho.out
    case measure=>simp [intOf]; omega
  ·obtain rfl:k=3:=by omega
   have h3':((3:Nat):Int)=3:=rfl
   go_wp2_with fail
   refine (stqueue_any col w b bd N x s H.out HI.out.wait6).mono ?_
   rintro e w1 ⟨v1,rfl,hv1,hb1⟩
   obtain ⟨A1,c1,e1,_,_⟩:=hv1.form
   subst e1
   have HB1:=Lib.hid hb1
   clear hv1 hb1
   by_cases hw:s.wait=[]
   ·have hl:s.wait.length=0:=by rw [hw]; rfl
    have Hw:=Lib.hid hw
    rw [hl]
    clear hw hl
    go_wp2_with fail
    refine (stbusy_any col w1 b bd N x s (H.out.below HB1.out) HI.out.dv.two).mono ?_
    rintro e w2 ⟨v2,rfl,hv2,hb2⟩
    obtain ⟨A2,c2,e2,_,_⟩:=hv2.form
    subst e2
    have HB2:=Lib.hid hb2
    clear hv2 hb2
    by_cases hl:s.v.d.l=[]
    ·have HQ:Hid (s.quiet=true):=show _=_ from (quiet_iff H.out.asks).2 ⟨HN.out,Hw.out,hl⟩
     have hn:s.v.d.l.length=0:=by rw [hl]; rfl
     rw [hn]
     clear hl hn
     go_wp2_with fail
     go_ret
     rw [HQ.out]
     exact ⟨rfl,HB1.out.trans (HB2.out.mono HB1.out.size)⟩
    ·have HQ:Hid (s.quiet=false):=show _=_ by
      rw [Bool.eq_false_iff]
      intro hq
      exact hl ((quiet_iff H.out.asks).1 hq).2.2
     have hn:(((s.v.d.l.length:Nat):Int) == 0)=false:=by simp only [beq_eq_false_iff_ne]; have:=List.length_pos_iff.2 hl; omega
     go_wp2_with fail
     go_ret
     rw [HQ.out]
     exact ⟨rfl,HB1.out.trans (HB2.out.mono HB1.out.size)⟩
   ·have HQ:Hid (s.quiet=false):=show _=_ by
     rw [Bool.eq_false_iff]
     intro hq
     exact hw ((quiet_iff H.out.asks).1 hq).2.1
    have hn:(((s.wait.length:Nat):Int) == 0)=false:=by simp only [beq_eq_false_iff_ne]; have:=List.length_pos_iff.2 hw; omega
    go_wp2_with fail
    go_ret
    rw [HQ.out]
    exact ⟨rfl,HB1.out⟩
end Go.Proofs.YtaeadmlgffaegaaGreatDoor
namespace Go.Proofs.YtaeadmlgffaegaaGreatDoor
open Go.RowKit Go.Sort
def goN (s:St):Nat→St
 |0=>s
 |n+1=>(goN s n).dispatch.1
theorem Inv.goN {s:St} (h:Inv s):∀ n,Inv (Go.Proofs.YtaeadmlgffaegaaGreatDoor.goN s n)
 |0=>h
 |n+1=>(Inv.goN h n).dispatch
theorem Bd.goN {K:Int} {s:St} (h:Bd K s):∀ n,Bd K (Go.Proofs.YtaeadmlgffaegaaGreatDoor.goN s n)
 |0=>h
 |n+1=>(Bd.goN h n).dispatch
theorem dispatch_false {s:St} (h:s.dispatch.2=false):s.dispatch.1=s:=by
 unfold St.dispatch at *
 split at h
 ·rename_i hn; rw [if_pos hn]
 ·cases h
theorem dispatch_len {s:St} (h:Inv s) (hd:s.dispatch.2=true):s.dispatch.1.v.d.l.length=s.v.d.l.length+1:=by
 by_cases hn:s.wait=[]∨2≤s.v.d.l.length
 ·rw [Inv.dispatch_no hn] at hd; cases hd
 ·simp only [not_or] at hn
  obtain ⟨j,r,t',hx,e⟩:=h.dispatched hn.1 (by omega)
  rw [e]
  show (s.v.d.l ++ [r]).length=_
  simp
theorem goN_end {s:St} (h:Inv s) {n:Nat} (hn:∀ j,j<n→(goN s j).dispatch.2=true) (he:(goN s n).dispatch.2=false):goN s n=s.go:=by
 have hl:∀ j,j≤n→(goN s j).v.d.l.length=s.v.d.l.length+j:=by
  intro j
  induction j with
  |zero=>intro _; rfl
  |succ j ih =>
   intro hj
   rw [goN,dispatch_len (h.goN j) (hn j (by omega)),ih (by omega)]
   omega
 have h2:n≤2:=by have:=hl n (Nat.le_refl _); have:=(h.goN n).dv.two; omega
 have hs:=dispatch_false he
 match n,h2 with
 |0,_ =>
  show s=s.dispatch.1.dispatch.1
  have e:s.dispatch.1=s:=hs
  rw [e,e]
 |1,_ =>
  show s.dispatch.1=s.dispatch.1.dispatch.1
  exact hs.symm
 |2,_=>rfl
theorem Ret5.after {T:Tys} {col col':Nat→Nat} {w w1 w':World} {b bd N:Nat} {t:St} {v:Value} {e:Ending} (hr:Ret5 T col' w1 b bd N t v e w') (hc:Chg (Fl col) w w1) (hrec:Rec col col' w w1):Ret5 T col w b bd N t v e w':=by
 obtain ⟨c2,z,h1,h2,h3,h4⟩:=hr
 exact ⟨c2,z,h1,h2,hc.recol h3 hrec.grow,hrec.trans h4 hc.size⟩
theorem StAt.moreN {T:Tys} {col:Nat→Nat} {w:World} {b bd N M:Nat} {x:Sv} {s:St} (h:StAt T col w b bd N x s) (hm:N≤M):StAt T col w b bd M x s :=
 ⟨h.row,h.drv,Nat.le_trans h.n hm,h.bufs,h.wait,h.asks,h.ask,h.done,h.errs,h.cb,h.cv,h.ct,h.lt⟩
def roomAt (bd:Nat) (w:World):Nat:=match w.cell? ⟨bd,65,none⟩ with
 |some (.slice _ n _)=>3 - n
 |_=>0
theorem StAt.room {T:Tys} {col:Nat→Nat} {w:World} {b bd N:Nat} {x:Sv} {s:St} (h:StAt T col w b bd N x s):roomAt bd w=3 - s.v.d.l.length:=by
 obtain ⟨_,h1,h2,wv,lv,cs,hrow,hw,hl,hcs,hok⟩:=h.drv.dev
 obtain ⟨A,cap,rfl,_,_⟩:=hl.form
 unfold roomAt
 rw [cell_of_row _ _ 65 _ _ _ hrow]
 have:=devCells_at_l s.v.d wv (.slice A cs.length cap) h1 h2
 rw [List.getElem?_toArray,this]
 simp only
 rw [← hcs,List.length_map]
theorem round_any (col:Nat→Nat) (w:World) (b bd N:Nat) (x:Sv) (s:St) (K:Int) (h:StAt Ts col w b bd N x s) (hI:Inv s) (hB:Bd K s) (h0:0≤K) (hK:K≤600000000) (hN:N≤900000000) :
  Calls Tryz.prog 27 #[.pointer (some ⟨b,0,none⟩)] w (Ret5 Ts col w b bd (N+1) s.round (.tuple #[])):=by
 have H:=Lib.hid h
 have HI:=Lib.hid hI
 have HB:=Lib.hid hB
 clear h hI hB
 go_enter Tryz.func27,Tryz.ntmps27
 go_wp2_with fail
 refine (tick_any col w b bd N x s K H.out HI.out HB.out h0 (by omega)).mono ?_
 rintro e w1 ⟨y1,rfl,hst1,hc1,_⟩
 have Hst1:=Lib.hid hst1
 have HC1:=Lib.hid hc1
 have HI1:=Lib.hid HI.out.tick
 have HB1:=Lib.hid (HB.out.tick h0)
 clear hst1 hc1
 go_wp2_with fail
 refine (clean_st col w1 b bd N y1 s.tick Hst1.out HI1.out ⟨by have:=HB1.out.use; omega,by have:=HB1.out.tag; omega⟩).mono ?_
 rintro e w2 ⟨y2,rfl,hst2,hc2,_⟩
 have Hst2:=Lib.hid hst2
 have HC2:=Lib.hid (HC1.out.two (Hst1.out.chg1 hc2))
 have HI2:=Lib.hid HI1.out.clean
 have HB2:=Lib.hid HB1.out.clean
 clear hst2 hc2
 go_wp2_with fail
 go_loopw [] (fun wr=>∃ (k:Nat) (col':Nat→Nat) (y:Sv),Hid (StAt Ts col' wr b bd N y (goN s.tick.clean.1 k))∧Hid (Chg (Fl col) w wr)∧Hid (Rec col col' w wr)∧Hid (∀ j,j<k→(goN s.tick.clean.1 j).dispatch.2=true)) (fun wr=>roomAt bd wr)
 case atStart=>exact ⟨0,col,y2,Hst2.out,HC2.out,.refl,fun j hj=>by omega⟩
 case round =>
  obtain ⟨k,col',y,HS,HC,HR,HD⟩:=hrel
  have HIk:=Lib.hid (HI2.out.goN k)
  have HBk:=Lib.hid (HB2.out.goN k)
  go_wp2_with fail
  refine (dispatch_any col' wr b bd N y _ HS.out HIk.out).mono ?_
  rintro e w3 ⟨c3,y3,rfl,hst3,hc3,hr3⟩
  have HC3:=Lib.hid (HC.out.recol hc3 HR.out.grow)
  have HR3:=Lib.hid (HR.out.trans hr3 HC.out.size)
  cases hd:(goN s.tick.clean.1 k).dispatch.2 with
  |true =>
   have Hst3:Hid (StAt Ts c3 w3 b bd N y3 (goN s.tick.clean.1 (k+1))):=hst3
   have HD3:Hid (∀ j,j<k+1→(goN s.tick.clean.1 j).dispatch.2=true):=fun j hj=>by
    rcases Nat.lt_or_ge j k with h | h
    ·exact HD.out j h
    ·obtain rfl:j=k:=by omega
     exact hd
   have Hm:Hid (roomAt bd w3<roomAt bd wr):=show _<_ by
    rw [Hst3.out.room,HS.out.room]
    have h1:=dispatch_len HIk.out hd
    have h2:=(HI2.out.goN (k+1)).dv.two
    show 3 - (goN s.tick.clean.1 k).dispatch.1.v.d.l.length<_
    have h2':(goN s.tick.clean.1 k).dispatch.1.v.d.l.length≤2:=h2
    omega
   clear hd hst3 hc3 hr3
   go_wp2_with fail
   go_roundw
   case rel=>exact ⟨k+1,c3,y3,Hst3.out,HC3.out,HR3.out,HD3.out⟩
   case measure=>exact Hm.out
  |false =>
   have He:=Lib.hid (goN_end HI2.out HD.out hd)
   have hst4:=hst3
   rw [dispatch_false hd,He.out] at hst4
   have Hst4:=Lib.hid hst4
   have HI4:=Lib.hid (HI2.out.go)
   have HB4:Hid (Bd (K+3+1) s.tick.clean.1.go):=He.out▸HBk.out
   clear hd hst3 hc3 hr3 hst4
   go_wp2_with fail
   refine (end_any c3 w3 b bd N y3 s.tick.clean.1.go 0 false (K+3+1) Hst4.out HI4.out HB4.out (by omega) (by omega) hN).mono ?_
   rintro e w4 hr4
   have Hr4:=Lib.hid (Ret5.after hr4 HC3.out HR3.out)
   obtain ⟨c4,y4,rfl,_⟩:=hr4
   go_wp2_with fail
   go_end0
   obtain ⟨c5,y5,_,h5,h6,h7⟩:=Hr4.out
   exact ⟨c5,y5,rfl,h5,h6,h7⟩
theorem settle_quiet {s:St} (h:s.quiet=true):∀ n,St.settle n s=(s,0)
 |0=>rfl
 |n+1=>by unfold St.settle; rw [if_pos h]
theorem settle_step {s:St} (h:s.quiet=false) (n:Nat):St.settle (n+1) s=((St.settle n s.round).1,(St.settle n s.round).2+1):=by
 rw [St.settle,if_neg (by rw [h]; decide)]
theorem settle_any (col:Nat→Nat) (w:World) (b bd N:Nat) (x:Sv) (s:St) (K:Int) (most:Nat) (h:StAt Ts col w b bd N x s) (hI:Inv s) (hB:Bd K s) (h0:0≤K) (hK:K+15 * most≤600000000) (hN:N+most≤900000000) (hm:most≤1000000) :
  Calls Tryz.prog 28 #[.pointer (some ⟨b,0,none⟩),.int .i64 (most:Int)] w (Ret5 Ts col w b bd (N+most) (St.settle most s).1 (.tuple #[.int .i64 ((St.settle most s).2:Nat),.bool (St.settle most s).1.quiet])):=by
 have H:=Lib.hid h
 have HI:=Lib.hid hI
 have HB:=Lib.hid hB
 clear h hI hB
 go_enter Tryz.func28,Tryz.ntmps28
 go_wp2_with fail
 go_loopw [6] (fun i wr=>∃ (k:Nat) (col':Nat→Nat) (y:Sv) (t:St),k≤most∧i=.int .i64 k∧Hid (StAt Ts col' wr b bd (N+k) y t)∧Hid (Chg (Fl col) w wr)∧Hid (Rec col col' w wr)∧Hid (Inv t)∧Hid (Bd (K+15 * k) t)∧Hid (St.settle most s=((St.settle (most - k) t).1,(St.settle (most - k) t).2+k))) (fun i _=>most - (intOf i).toNat)
 case atStart=>exact ⟨0,col,x,s,by omega,rfl,H.out,Chg.refl,.refl,HI.out,HB.out.mono (by omega),rfl⟩
 case round =>
  obtain ⟨k,col',y,t,hk,rfl,HS,HC,HR,HIt,HBt,HE⟩:=hrel
  go_wp2_with fail
  refine (quiet_any col' wr b bd (N+k) y t HS.out HIt.out).mono ?_
  rintro e w1 ⟨rfl,hb1⟩
  have HB1:=Lib.hid hb1
  have HS1:=Lib.hid (HS.out.below hb1)
  have HC1:=Lib.hid (HC.out.two (Chg.of_below hb1))
  clear hb1
  by_cases hq:t.quiet=true
  ·have HX:Hid (St.settle most s=(t,k)):=show _=_ by rw [HE.out,settle_quiet hq]; simp
   have Hq:=Lib.hid hq
   rw [hq]
   clear hq
   go_wp2_with fail
   refine (quiet_any col' w1 b bd (N+k) y t HS1.out HIt.out).mono ?_
   rintro e w2 ⟨rfl,hb2⟩
   have HB2:=Lib.hid hb2
   clear hb2
   go_wp2_with fail
   go_ret2
   rw [HX.out]
   exact ⟨col',y,rfl,(HS1.out.below HB2.out).moreN (by omega),HC1.out.two (Chg.of_below HB2.out),HR.out.old,HR.out.grow⟩
  ·have hq':t.quiet=false:=by simpa using hq
   rw [hq']
   by_cases hlt:k<most
   ·have hlt2:(k:Int)<(most:Int):=by omega
    have hkk:(k:Int)<1000000:=by omega
    have HX:Hid (St.settle most s=((St.settle (most - (k+1)) t.round).1,(St.settle (most - (k+1)) t.round).2+(k+1))):=show _=_ by
     rw [HE.out,show most - k=(most - (k+1))+1 by omega,settle_step hq']
     simp only [Prod.mk.injEq,true_and]
     omega
    clear hq hq'
    go_wp2_with fail
    refine (round_any col' w1 b bd (N+k) y t (K+15 * k) HS1.out HIt.out HBt.out (by omega) (by omega) (by omega)).mono ?_
    rintro e w2 hr2
    have Hr2:=Lib.hid (Ret5.after hr2 HC1.out ⟨HR.out.old,HR.out.grow⟩)
    obtain ⟨c2,y2,rfl,_⟩:=hr2
    obtain ⟨c3,y3,_,h3,h4,h5⟩:=Hr2.out
    have HS3:=Lib.hid h3
    have HC3:=Lib.hid h4
    have HR3:=Lib.hid h5
    have HI3:=Lib.hid HIt.out.round
    have HB3:=Lib.hid (HBt.out.round (by omega) HIt.out)
    clear h3 h4 h5 Hr2
    go_wp2_with fail
    go_roundw
    case rel=>exact ⟨k+1,c3,y3,_,by omega,by go_num,HS3.out,HC3.out,HR3.out,HI3.out,HB3.out.mono (by omega),HX.out⟩
    case measure=>simp [intOf]; omega
   ·obtain rfl:k=most:=by omega
    have hlt2:¬ (k:Int)<(k:Int):=by omega
    have HX:Hid (St.settle k s=(t,k)):=show _=_ by rw [HE.out,Nat.sub_self]; simp [St.settle]
    have Hq:=Lib.hid hq'
    clear hq hq'
    go_wp2_with fail
    refine (quiet_any col' w1 b bd (N+k) y t HS1.out HIt.out).mono ?_
    rintro e w2 ⟨rfl,hb2⟩
    have HB2:=Lib.hid hb2
    clear hb2
    go_wp2_with fail
    go_ret2
    rw [HX.out]
    exact ⟨col',y,rfl,HS1.out.below HB2.out,HC1.out.two (Chg.of_below HB2.out),HR.out.old,HR.out.grow⟩
end Go.Proofs.YtaeadmlgffaegaaGreatDoor
namespace Go.Proofs.YtaeadmlgffaegaaGreatDoor
open Go.RowKit Go.Sort
section
variable {T:Tys} {col col':Nat→Nat} {w w':World} {b bd N:Nat} {x:Sv} {s:St}
theorem rise_in (c:Nat) (hc:c≠0∧c≠9) {P:Nat→Prop} [DecidablePred P] (hP:∀ k,P k→¬ Fl col k):∀ k,(if P k then 9 else col k)=c↔col k=c:=fun k=>by
 split
 ·rename_i h
  have h1:=hP k h
  constructor
  ·intro e; exact absurd e.symm hc.2
  ·intro e; exact absurd (show Fl col k from ⟨by rw [e]; exact hc.1,by rw [e]; exact hc.2⟩) h1
 ·exact Iff.rfl
theorem StAt.far9 (h:StAt T col w b bd N x s) {F:Nat→Prop} (hc:Chg F w w') (h9:∀ k,F k→col k=9) (P:Nat→Prop) [DecidablePred P] (hP:∀ k,P k→w.heap.size≤k∧k<w'.heap.size) :
  StAt T (fun k=>if P k then 9 else col k) w' b bd N x s:=by
 have hP0:∀ k,P k→¬ Fl col k:=fun k hk hf=>hf.1 (h.s0 k (hP k hk).1)
 have hk:∀ k,col k≠9→k<w.heap.size→w'.heap[k]?=w.heap[k]?:=fun k hk hl=>hc.block k hl (fun e=>hk (h9 k e))
 have hi:∀ c,c≠0→c≠9→∀ k,(if P k then 9 else col k)=c↔col k=c:=fun c h0 h1=>rise_in c ⟨h0,h1⟩ hP0
 have hF:Fd (fun k=>if P k then 9 else col k)=Fd col:=funext fun k=>propext (hi 4 (by decide) (by decide) k)
 have hA:∀ c,c<3→Fa (fun k=>if P k then 9 else col k) c=Fa col c:=fun c hc=>funext fun k=>propext (hi (5+c) (by omega) (by omega) k)
 have him:∀ k,Im w col k→Im w' (fun k=>if P k then 9 else col k) k:=fun k hk=>⟨Nat.lt_of_lt_of_le hk.1 hc.size,by
  show (if P k then 9 else col k)=0
  rw [if_neg (fun hp=>by have:=(hP k hp).1; have:=hk.1; omega)]; exact hk.2⟩
 have hnv:∀ k,Im w' (fun k=>if P k then 9 else col k) k→k≠x.bv∧k≠x.bt:=by
  intro k hk
  have h1:(if P k then 9 else col k)=0:=hk.2
  refine ⟨fun e=>?_,fun e=>?_⟩
  ·rw [e,(hi 2 (by decide) (by decide) _).2 h.cv] at h1; omega
  ·rw [e,(hi 3 (by decide) (by decide) _).2 h.ct] at h1; omega
 obtain ⟨f,hf,hv⟩:=h.drv.map
 have lb:=h.bl
 have lv:=h.lt x.bv (by rw [h.cv]; decide)
 have lt:=h.lt x.bt (by rw [h.ct]; decide)
 refine ⟨(hk _ (by rw [h.cb]; decide) lb).trans h.row,?_,h.n,?_,?_,h.asks,fun c hc3=>?_,h.done,h.errs,(hi 1 (by decide) (by decide) _).2 h.cb,(hi 2 (by decide) (by decide) _).2 h.cv,(hi 3 (by decide) (by decide) _).2 h.ct,fun k hk=>?_⟩
 ·rw [hF]
  refine ⟨(hk _ (by rw [h.cv]; decide) lv).trans h.drv.row,⟨f,hf.keep (hk _ (by rw [h.ct]; decide) lt),hv⟩,?_,h.drv.nv,h.drv.nt,hnv⟩
  exact (h.drv.dev.keep (fun k hf hl=>hk k (by rw [show col k=4 from hf]; decide) hl) (fun k hs hl=>hk k (by rw [hs.2]; decide) hl)).more him
 ·exact (h.bufs.keep (fun k hs hl=>hk k (by rw [hs.2]; decide) hl)).more him
 ·exact (h.wait.keep (fun k hs hl=>hk k (by rw [hs.2]; decide) hl)).more him
 ·rw [hA c hc3]
  exact (h.ask c hc3).keep (fun k hf hl=>hk k (by rw [show col k=5+c from hf]; omega) hl)
 ·have hk:(if P k then 9 else col k)≠0:=hk
  split at hk
  ·rename_i e; exact (hP k e).2
  ·exact Nat.lt_of_lt_of_le (h.lt k hk) hc.size
theorem DevAt.bare {TD TP:TypeId} {S S' F:Nat→Prop} {d:Dv} (h:DevAt TD TP S F w b d) (hl:d.l=[]):DevAt TD TP S' F w b d:=by
 obtain ⟨wv,lv,cs,hrow,hw,ho,hcs,hok⟩:=h.two
 refine ⟨h.fb,h.kept,h.now,wv,lv,cs,hrow,hw,ho,hcs,fun c hc=>?_⟩
 have:cs=[]:=by rw [hl] at hcs; exact List.map_eq_nil_iff.1 hcs
 rw [this] at hc; cases hc
theorem StAt.blank {d:Dv} (h:StAt T col w b bd N x (St.new d)) (hl:d.l=[]) (P:Nat→Prop) [DecidablePred P] (hP:∀ k,P k→¬ Fl col k∧k<w.heap.size) :
  StAt T (fun k=>if P k then 9 else col k) w b bd N x (St.new d):=by
 have hP0:∀ k,P k→¬ Fl col k:=fun k hk=>(hP k hk).1
 have hi:∀ c,c≠0→c≠9→∀ k,(if P k then 9 else col k)=c↔col k=c:=fun c h0 h1=>rise_in c ⟨h0,h1⟩ hP0
 have hF:Fd (fun k=>if P k then 9 else col k)=Fd col:=funext fun k=>propext (hi 4 (by decide) (by decide) k)
 have hA:∀ c,c<3→Fa (fun k=>if P k then 9 else col k) c=Fa col c:=fun c hc=>funext fun k=>propext (hi (5+c) (by omega) (by omega) k)
 have hnv:∀ k,Im w (fun k=>if P k then 9 else col k) k→k≠x.bv∧k≠x.bt:=by
  intro k hk
  have h1:(if P k then 9 else col k)=0:=hk.2
  refine ⟨fun e=>?_,fun e=>?_⟩
  ·rw [e,(hi 2 (by decide) (by decide) _).2 h.cv] at h1; omega
  ·rw [e,(hi 3 (by decide) (by decide) _).2 h.ct] at h1; omega
 refine ⟨h.row,?_,h.n,?_,?_,h.asks,fun c hc3=>?_,h.done,h.errs,(hi 1 (by decide) (by decide) _).2 h.cb,(hi 2 (by decide) (by decide) _).2 h.cv,(hi 3 (by decide) (by decide) _).2 h.ct,fun k hk=>?_⟩
 ·rw [hF]
  exact ⟨h.drv.row,h.drv.map,h.drv.dev.bare hl,h.drv.nv,h.drv.nt,hnv⟩
 ·have hb:BufsAt (Im w col) w x.bufs []:=h.bufs
  obtain ⟨⟨A,cap,e,h1,h2,h3,_⟩,_⟩:=hb
  exact ⟨⟨A,cap,e,h1,h2,h3,fun hn=>absurd hn (Nat.lt_irrefl 0)⟩,by simp [St.new]⟩
 ·obtain ⟨cs,hcs,hrd,hok⟩:=h.wait
  have:cs=[]:=List.map_eq_nil_iff.1 hcs
  subst this
  obtain ⟨A,cap,e,h1,h2,h3,_⟩:=hrd
  exact ⟨[],rfl,⟨A,cap,e,h1,h2,h3,fun hn=>absurd hn (Nat.lt_irrefl 0)⟩,by simp⟩
 ·rw [hA c hc3]
  exact h.ask c hc3
 ·have hk:(if P k then 9 else col k)≠0:=hk
  split at hk
  ·rename_i e; exact (hP k e).2
  ·exact h.lt k hk
end
end Go.Proofs.YtaeadmlgffaegaaGreatDoor
