/- The stack, when its driver is another: what the driver made is the disk's. -/
import Derived.Test.YtlomdfbnicbceaaGreatM23
set_option linter.unusedSimpArgs false
set_option linter.unusedVariables false
set_option maxRecDepth 100000
set_option maxHeartbeats 8000000
namespace Go.Proofs.YtlomdfbnicbceaaGreat
open Go.RowKit
theorem AskAt.mono {TA:TypeId} {F G:Nat→Prop} {w:World} {v:Value} {o:Option Ak} (h:AskAt TA F w v o) (hg:∀ k,F k→k<w.heap.size→G k):AskAt TA G w v o:=by
 cases o with
 |none=>exact h
 |some a =>
  obtain ⟨ba,lv,h1,h2,h3,h4⟩:=h
  exact ⟨ba,lv,h1,hg ba h2 (Array.getElem?_eq_some_iff.1 h3).1,h3,⟨h4.1,fun k hk=>hg k (h4.2 k hk) (h4.1.lt k hk).2⟩⟩
section
variable {T:Tys} {col:Nat→Nat} {w w':World} {b bd N:Nat} {x:Sv} {s:St}
structure Rec (col col':Nat→Nat) (w w':World):Prop where
 old:∀ k,k<w.heap.size→col' k=col k
 grow:∀ k,Fl col' k→Fl col k∨w.heap.size≤k
theorem StAt.drvd (h:StAt T col w b bd N x s) {v':Drv} {n' N':Nat} {S' F':Nat→Prop} (hp:DrvAt T.D T.P T.V S' F' w' x.bv bd x.bt n' v') (hch:Chg (fun k=>Fd col k∨k=x.bt) w w') (hF:∀ k,F' k→Grow (Fd col) w w' k)
  (hS:∀ k,S' k→Grow (Im w col) w w' k) (hSF:∀ k,S' k→¬ F' k) (hn:n'≤N') :
  ∃ col',StAt T col' w' b bd N' { x with n:=n' } { s with v:=v' }∧Rec col col' w w'∧∀ k,S' k→Im w' col' k:=by
 classical
 obtain ⟨col',hcol⟩:∃ c:Nat→Nat,∀ k,c k=if w.heap.size≤k then (if F' k then 4 else 0) else col k:=⟨_,fun _=>rfl⟩
 have hold:∀ k,k<w.heap.size→col' k=col k:=fun k hk=>by rw [hcol,if_neg (by omega)]
 have hnew:∀ k,w.heap.size≤k→col' k=if F' k then 4 else 0:=fun k hk=>by rw [hcol,if_pos hk]
 have hk:∀ k,k<w.heap.size→col k≠4→col k≠3→w'.heap[k]?=w.heap[k]?:=fun k hl h4 h3=>hch.block k hl (fun hf=>hf.elim h4 (fun e=>h3 (by rw [e,h.ct])))
 have him:∀ k,Im w col k→Im w' col' k:=fun k hk=>⟨Nat.lt_of_lt_of_le hk.1 hch.size,by rw [hold k hk.1]; exact hk.2⟩
 have hbv:x.bv<w.heap.size:=(Array.getElem?_eq_some_iff.1 h.drv.row).1
 have hbt:x.bt<w.heap.size:=h.lt x.bt (by rw [h.ct]; decide)
 have hS':∀ k,S' k→Im w' col' k:=fun k hk=>by
  rcases hS k hk with h1 | ⟨h1,h2⟩
  ·exact him k h1
  ·exact ⟨h2,by rw [hnew k h1,if_neg (hSF k hk)]⟩
 have hF':∀ k,F' k→Fd col' k:=fun k hk=>by
  show col' k=4
  rcases hF k hk with h1 | ⟨h1,_⟩
  ·have h1':col k=4:=h1
   have hl:=h.lt k (by omega)
   rw [hold k hl]; exact h1
  ·rw [hnew k h1,if_pos hk]
 refine ⟨col',⟨(hk b h.bl (by rw [h.cb]; decide) (by rw [h.cb]; decide)).trans h.row,⟨hp.row,hp.map,(hp.dev.mono hF').more hS',?_,?_,?_⟩,hn,?_,?_,h.asks,fun c hc=>?_,h.done,h.errs,by rw [hold b h.bl]; exact h.cb,by rw [hold _ hbv]; exact h.cv,by rw [hold _ hbt]; exact h.ct,fun k hk=>?_⟩,⟨hold,fun k hk=>?_⟩,hS'⟩
 ·intro hf
  have h1:col' x.bv=4:=hf
  rw [hold _ hbv,h.cv] at h1; cases h1
 ·intro hf
  have h1:col' x.bt=4:=hf
  rw [hold _ hbt,h.ct] at h1; cases h1
 ·intro k hk
  constructor
  ·rintro rfl
   have h1:col' x.bv=0:=hk.2
   rw [hold _ hbv,h.cv] at h1; cases h1
  ·rintro rfl
   have h1:col' x.bt=0:=hk.2
   rw [hold _ hbt,h.ct] at h1; cases h1
 ·exact (h.bufs.keep (fun k hS hl=>hk k hl (by rw [hS.2]; decide) (by rw [hS.2]; decide))).more him
 ·exact (h.wait.keep (fun k hS hl=>hk k hl (by rw [hS.2]; decide) (by rw [hS.2]; decide))).more him
 ·exact ((h.ask c hc).mono (G:=Fa col' c) (fun k hf hl=>by show col' k=5+c; rw [hold k hl]; exact hf)).keep (fun k hf hl=>hk k hl (by have h1:col' k=5+c:=hf; rw [hold k hl] at h1; omega) (by have h1:col' k=5+c:=hf; rw [hold k hl] at h1; omega))
 ·have h1:col' k≠0:=hk
  rcases Nat.lt_or_ge k w.heap.size with hl | hl
  ·exact Nat.lt_of_lt_of_le hl hch.size
  ·rw [hnew k hl] at h1
   have hf:F' k:=by
    apply Classical.byContradiction
    intro hn
    rw [if_neg hn] at h1
    exact h1 rfl
   rcases hF k hf with h2 | ⟨_,h2⟩
   ·have h3:col k=4:=h2
    exact Nat.lt_of_lt_of_le (h.lt k (by omega)) hch.size
   ·exact h2
 ·rcases Nat.lt_or_ge k w.heap.size with hl | hl
  ·left
   have h1:col' k≠0∧col' k≠9:=hk
   rw [hold k hl] at h1; exact h1
  ·exact .inr hl
theorem Rec.refl {col:Nat→Nat} {w w':World}:Rec col col w w':=⟨fun _ _=>rfl,fun _ hk=>.inl hk⟩
theorem Rec.trans {c0 c1 c2:Nat→Nat} {w0 w1 w2:World} (h:Rec c0 c1 w0 w1) (k:Rec c1 c2 w1 w2) (hs:w0.heap.size≤w1.heap.size):Rec c0 c2 w0 w2 :=
 ⟨fun i hi=>(k.old i (by omega)).trans (h.old i hi),fun i hi=>(k.grow i hi).elim (fun h1=>h.grow i h1) (fun h1=>.inr (by omega))⟩
theorem Chg.recol {c0 c1:Nat→Nat} {a b c:World} (h:Chg (Fl c0) a b) (k:Chg (Fl c1) b c) (hg:∀ k,Fl c1 k→Fl c0 k∨a.heap.size≤k):Chg (Fl c0) a c :=
 ⟨k.os.trans h.os,k.tape.trans h.tape,k.output.trans h.output,Nat.le_trans h.size k.size,fun i hi hn=>(k.block i (Nat.lt_of_lt_of_le hi h.size) (fun hf=>(hg i hf).elim hn (fun h2=>by omega))).trans (h.block i hi hn)⟩
end
def Ret5 (T:Tys) (col:Nat→Nat) (w:World) (b bd N:Nat) (t:St) (v:Value):Ending→World→Prop :=
 fun e w'=>∃ (col':Nat→Nat) (y:Sv),e=.returned v∧StAt T col' w' b bd N y t∧Chg (Fl col) w w'∧Rec col col' w w'
end Go.Proofs.YtlomdfbnicbceaaGreat
