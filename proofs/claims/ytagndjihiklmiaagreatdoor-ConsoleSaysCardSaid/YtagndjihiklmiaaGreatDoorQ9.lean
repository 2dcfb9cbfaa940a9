/- How a disk lies in memory. -/
import Derived.Test.YtagndjihiklmiaaGreatDoorQ8
import Derived.Deep.MidRow
set_option linter.unusedSimpArgs false
set_option linter.unusedVariables false
set_option maxRecDepth 100000
set_option maxHeartbeats 8000000
namespace Go.Proofs.YtagndjihiklmiaaGreatDoor
open Go.RowKit
def devCells (d:Dv) (wv lv:Value):List Value:=d.kept.map .string ++ (d.now.map .string ++ [wv,lv])
def putCells (l:List (Nat × ByteArray)):List Value:=l.flatMap (fun p=>[.int .i64 (p.1:Int),.string p.2])
def Ow (F:Nat→Prop) (w:World) (e:TypeId) (size:Nat) (v:Value) (n:Nat) (xs:List Value):Prop:=w.ownsRow 0 e size v n xs∧∀ k,v.ownBlock=some k→F k
structure DevAt (TD TP:TypeId) (S F:Nat→Prop) (w:World) (b:Nat) (d:Dv):Prop where
 fb:F b
 kept:d.kept.length=32
 now:d.now.length=32
 two:∃ (wv lv:Value) (cs:List Rc),w.heap[b]?=some (.cells (devCells d wv lv).toArray TD (0,0))∧Ow F w TP 2 wv d.waits.length (putCells d.waits)∧Ow F w 117 6 lv cs.length (cs.flatMap Rc.cells)∧cs.map (·.r)=d.l∧∀ c ∈ cs,RcOk S w c
theorem ReqAt.rcOf {S:Nat→Prop} {w:World} {r:Rq} {dv tv:Value} (h:ReqAt S w (rqV r dv tv) r):RcOk S w ⟨r,dv,tv⟩:=by
 obtain ⟨c,rfl,e,hok⟩:=h;simp only [rqV,Value.agg.injEq,Array.mk.injEq,List.cons.injEq] at e;obtain ⟨c1,c2,c3⟩:=c;simp only at e;rw [e.2.2.2.1,e.2.2.2.2.1];exact hok
section
variable {F G S:Nat→Prop} {w w':World} {e TD TP:TypeId} {size n b:Nat} {v:Value} {xs:List Value} {d:Dv}
theorem Ow.nil:Ow F w e size (.slice none 0 0) 0 []:=⟨World.ownsRow_nil _ _ _ _,fun k hk=>by simp [Value.ownBlock] at hk⟩
theorem Ow.mono (h:Ow F w e size v n xs) (hg:∀ k,F k→G k):Ow G w e size v n xs:=⟨h.1,fun k hk=>hg k (h.2 k hk)⟩
theorem own_keepD {B:Nat} (h:w.ownsRow B e size v n xs) (hk:∀ k,v.ownBlock=some k→w'.heap[k]?=w.heap[k]?):w'.ownsRow B e size v n xs:=by
 refine ⟨h.1,?_⟩
 rcases h.2 with hn | ⟨g,cap,cur,rfl,hb,hgg,rest⟩
 ·exact .inl hn
 ·exact .inr ⟨g,cap,cur,rfl,hb,(hk g rfl).trans hgg,rest⟩
theorem Ow.keep (h:Ow F w e size v n xs) (hk:∀ k,F k→k<w.heap.size→w'.heap[k]?=w.heap[k]?):Ow F w' e size v n xs :=
 ⟨own_keepD h.1 (fun k hv=>hk k (h.2 k hv) (h.1.lt k hv).2),h.2⟩
theorem Ow.form (h:Ow F w e size v n xs):∃ A cap,v=.slice A n cap∧n≤cap∧cap≤maxLen:=by
 rcases h.1.2 with ⟨rfl,rfl⟩ | ⟨g,cap,cur,rfl,_,_,h1,h2,_⟩
 ·exact ⟨none,0,rfl,Nat.le_refl _,by simp [maxLen]⟩
 ·exact ⟨_,cap,rfl,h1,h2⟩
theorem Ow.rd (h:Ow F w e size v n xs):Rd F w size v n xs:=by
 rcases h.1.2 with ⟨rfl,rfl⟩ | ⟨g,cap,cur,rfl,hb,hh,hnc,hcm,hcs,htake⟩
 ·obtain rfl:xs=[]:=List.eq_nil_of_length_eq_zero (by simpa using h.1.1)
  exact Rd.nil
 ·refine ⟨_,cap,rfl,hnc,hcm,h.1.1,fun hn=>⟨g,0,rfl,h.2 g rfl,fun j u hu=>?_⟩⟩
  have:=h.1.cells (g:=g) rfl j u hu
  rwa [Go.WideShapes.add_plain] at this
theorem own_lo {B B':Nat} (h:w.ownsRow B e size v n xs) (hb:B'≤B):w.ownsRow B' e size v n xs:=by
 refine ⟨h.1,?_⟩
 rcases h.2 with hn | ⟨g,cap,cur,rfl,h1,rest⟩
 ·exact .inl hn
 ·exact .inr ⟨g,cap,cur,rfl,by omega,rest⟩
theorem own_sl (h:w.ownsRow 0 e size v n xs):∃ A c,v=.slice A n c:=by
 rcases h.2 with ⟨rfl,rfl⟩ | ⟨g,cap,cur,rfl,_⟩
 ·exact ⟨_,_,rfl⟩
 ·exact ⟨_,_,rfl⟩
theorem own_ne {cs:Array Value} (h:w.ownsRow 0 e size v n xs) (hb:w.heap[b]?=some (.cells cs TD (0,0))) (ht:e≠TD):∀ k,v.ownBlock=some k→k≠b:=by
 rintro k hk rfl
 rcases h.2 with ⟨rfl,_⟩ | ⟨g,cap,cur,rfl,_,hh,_⟩
 ·simp [Value.ownBlock] at hk
 ·simp [Value.ownBlock] at hk
  subst hk;rw [hb] at hh
  cases hh
  exact ht rfl
theorem own_two {e':TypeId} {size' n':Nat} {v':Value} {xs':List Value} (h:w.ownsRow 0 e size v n xs) (h':w.ownsRow 0 e' size' v' n' xs') (ht:e≠e'):∀ k,v.ownBlock=some k→v'.ownBlock≠some k:=by
 intro k hk hk'
 rcases h'.2 with ⟨rfl,_⟩ | ⟨g,cap,cur,rfl,_,hh,_⟩
 ·simp [Value.ownBlock] at hk'
 ·simp [Value.ownBlock] at hk'
  subst hk';exact own_ne h hh ht _ hk rfl
theorem Grow.lt (h:∀ k,F k→k<w.heap.size) (hs:w.heap.size≤w'.heap.size):∀ k,Grow F w w' k→k<w'.heap.size:=fun k hk=>hk.elim (fun hk=>by have:=h k hk; omega) (·.2)
theorem DevAt.keep (h:DevAt TD TP S F w b d) (hF:∀ k,F k→k<w.heap.size→w'.heap[k]?=w.heap[k]?) (hS:∀ k,S k→k<w.heap.size→w'.heap[k]?=w.heap[k]?):DevAt TD TP S F w' b d:=by
 obtain ⟨hb,h1,h2,wv,lv,cs,hr,hw,hl,he,hc⟩:=h;have hlt:b<w.heap.size:=(Array.getElem?_eq_some_iff.1 hr).1;exact ⟨hb,h1,h2,wv,lv,cs,(hF b hb hlt).trans hr,hw.keep hF,hl.keep hF,he,fun c hm=>(hc c hm).keep hS⟩
theorem DevAt.mono (h:DevAt TD TP S F w b d) (hg:∀ k,F k→G k):DevAt TD TP S G w b d:=by
 obtain ⟨hb,h1,h2,wv,lv,cs,hr,hw,hl,he,hc⟩:=h;exact ⟨hg b hb,h1,h2,wv,lv,cs,hr,hw.mono hg,hl.mono hg,he,hc⟩
theorem DevAt.more {S':Nat→Prop} (h:DevAt TD TP S F w b d) (hg:∀ k,S k→S' k):DevAt TD TP S' F w b d:=by
 obtain ⟨hb,h1,h2,wv,lv,cs,hr,hw,hl,he,hc⟩:=h;exact ⟨hb,h1,h2,wv,lv,cs,hr,hw,hl,he,fun c hm=>(hc c hm).more hg⟩
theorem DevAt.below (h:DevAt TD TP S F w b d) (hb:Below w.heap.size w w'):DevAt TD TP S F w' b d:=h.keep (fun k _ hk=>hb.block k hk) (fun k _ hk=>hb.block k hk)
theorem DevAt.apart (h:DevAt TD TP S F w b d) (hc:Chg G w w') (hFG:∀ k,F k→¬ G k) (hSG:∀ k,S k→¬ G k):DevAt TD TP S F w' b d:=h.keep (hc.keep hFG) (hc.keep hSG)
theorem devCells_len (d:Dv) (wv lv:Value) (h1:d.kept.length=32) (h2:d.now.length=32):(devCells d wv lv).length=66:=by simp [devCells,h1,h2]
theorem devCells_at_l (d:Dv) (wv lv:Value) (h1:d.kept.length=32) (h2:d.now.length=32):(devCells d wv lv)[65]?=some lv:=by
 unfold devCells;rw [List.getElem?_append_right (by simp [h1]),List.getElem?_append_right (by simp [h1,h2])];simp [h1,h2]
theorem devCells_at_w (d:Dv) (wv lv:Value) (h1:d.kept.length=32) (h2:d.now.length=32):(devCells d wv lv)[64]?=some wv:=by
 unfold devCells;rw [List.getElem?_append_right (by simp [h1]),List.getElem?_append_right (by simp [h1,h2])];simp [h1,h2]
theorem devCells_at_now (d:Dv) (wv lv:Value) (h1:d.kept.length=32) (i:Nat) (s:ByteArray) (hi:d.now[i]?=some s):(devCells d wv lv)[32+i]?=some (.string s):=by
 have hlt:=(List.getElem?_eq_some_iff.1 hi).1;unfold devCells;rw [List.getElem?_append_right (by simp [h1]),List.getElem?_append_left (by simp [h1]; omega)];simp [h1,List.getElem?_map,hi]
theorem devCells_set_l (d:Dv) (wv lv lv':Value) (h1:d.kept.length=32) (h2:d.now.length=32):(devCells d wv lv).toArray.setIfInBounds 65 lv'=(devCells d wv lv').toArray:=by
 rw [List.setIfInBounds_toArray];unfold devCells;rw [List.set_append_right _ _ (by simp [h1]),List.set_append_right _ _ (by simp [h1,h2])];simp [h1,h2]
theorem devCells_set_w (d:Dv) (wv wv' lv:Value) (h1:d.kept.length=32) (h2:d.now.length=32):(devCells d wv lv).toArray.setIfInBounds 64 wv'=(devCells d wv' lv).toArray:=by
 rw [List.setIfInBounds_toArray];unfold devCells;rw [List.set_append_right _ _ (by simp [h1]),List.set_append_right _ _ (by simp [h1,h2])];simp [h1,h2]
theorem devCells_set_now (d:Dv) (wv lv:Value) (h1:d.kept.length=32) (h2:d.now.length=32) (i:Nat) (hi:i<32) (s:ByteArray):(devCells d wv lv).toArray.setIfInBounds (32+i) (.string s)=(devCells { d with now:=d.now.set i s } wv lv).toArray:=by
 rw [List.setIfInBounds_toArray];unfold devCells;rw [List.set_append_right _ _ (by simp [h1]),List.set_append_left _ _ (by simp [h1,h2]; omega)];simp [h1,h2,List.map_set]
theorem devCells_set_kept (d:Dv) (wv lv:Value) (h1:d.kept.length=32) (i:Nat) (hi:i<32) (s:ByteArray):(devCells d wv lv).toArray.setIfInBounds i (.string s)=(devCells { d with kept:=d.kept.set i s } wv lv).toArray:=by
 rw [List.setIfInBounds_toArray];unfold devCells;rw [List.set_append_left _ _ (by simp [h1]; omega)];simp [h1,List.map_set]
theorem DevAt.setL {a:World} {lv lv' wv:Value} {cs':List Rc} {l':List Rq} (hc:Chg F a w) (hF:∀ k,F k→k<a.heap.size) (hb:F b) (hk:d.kept.length=32) (hn:d.now.length=32)
  (hrow:w.heap[b]?=some (.cells (devCells d wv lv).toArray TD (0,0))) (hw:Ow (Grow F a w) w TP 2 wv d.waits.length (putCells d.waits))
  (hl:w.ownsRow 0 117 6 lv' cs'.length (cs'.flatMap Rc.cells)) (hlF:∀ k,lv'.ownBlock=some k→F k∨a.heap.size≤k) (hcs:cs'.map (·.r)=l') (hok:∀ c ∈ cs',RcOk S w c)
  (hSF:∀ k,S k→¬ F k) (hTP:TP≠TD) (hTD:117≠TD) :
  DevAt TD TP S (Grow F a (w.setCell ⟨b,65,none⟩ lv')) (w.setCell ⟨b,65,none⟩ lv') b { d with l:=l' }∧Chg F a (w.setCell ⟨b,65,none⟩ lv'):=by
 have hsz:(w.setCell ⟨b,65,none⟩ lv').heap.size=w.heap.size:=by simp [World.setCell]
 have hother:∀ k,k≠b→(w.setCell ⟨b,65,none⟩ lv').heap[k]?=w.heap[k]?:=fun k hk=>Below.heap_setCell _ _ _ _ hk
 refine ⟨⟨.inl hb,hk,hn,wv,lv',cs',?_,?_,?_,hcs,fun c hm=>(hok c hm).keep (fun k hs _=>hother k (fun e=>hSF k hs (e▸hb)))⟩,hc.setCell (.inl hb) _⟩
 ·rw [heap_setCell_same _ _ _ _ _ _ hrow,devCells_set_l _ _ _ _ hk hn]; rfl
 ·refine ⟨own_keepD hw.1 (fun k hv=>hother k (own_ne hw.1 hrow hTP k hv)),fun k hv=>?_⟩
  have:=hw.2 k hv;unfold Grow at this ⊢
  rwa [hsz]
 ·refine ⟨own_keepD hl (fun k hv=>hother k (own_ne hl hrow hTD k hv)),fun k hv=>?_⟩
  rcases hlF k hv with h | h
  ·exact .inl h
  ·exact .inr ⟨h,by rw [hsz]; exact (hl.lt k hv).2⟩
theorem DevAt.setNow (h:DevAt TD TP S F w b d) (i:Nat) (hi:i<32) (s:ByteArray) (hSF:∀ k,S k→¬ F k) (hTP:TP≠TD) (hTD:117≠TD) :
  DevAt TD TP S F (w.setCell ⟨b,32+i,none⟩ (.string s)) b { d with now:=d.now.set i s }:=by
 obtain ⟨hb,hk,hn,wv,lv,cs,hrow,hw,hl,hcs,hok⟩:=h;have hother:∀ k,k≠b→(w.setCell ⟨b,32+i,none⟩ (.string s)).heap[k]?=w.heap[k]?:=fun k hk=>Below.heap_setCell _ _ _ _ hk
 refine ⟨hb,hk,by simpa using hn,wv,lv,cs,?_,⟨own_keepD hw.1 (fun k hv=>hother k (own_ne hw.1 hrow hTP k hv)),hw.2⟩,⟨own_keepD hl.1 (fun k hv=>hother k (own_ne hl.1 hrow hTD k hv)),hl.2⟩,hcs,fun c hm=>(hok c hm).keep (fun k hs _=>hother k (fun e=>hSF k hs (e▸hb)))⟩;rw [heap_setCell_same _ _ _ _ _ _ hrow,devCells_set_now _ _ _ hk hn i hi]
theorem DevAt.setKept (h:DevAt TD TP S F w b d) (i:Nat) (hi:i<32) (s:ByteArray) (hSF:∀ k,S k→¬ F k) (hTP:TP≠TD) (hTD:117≠TD) :
  DevAt TD TP S F (w.setCell ⟨b,i,none⟩ (.string s)) b { d with kept:=d.kept.set i s }:=by
 obtain ⟨hb,hk,hn,wv,lv,cs,hrow,hw,hl,hcs,hok⟩:=h;have hother:∀ k,k≠b→(w.setCell ⟨b,i,none⟩ (.string s)).heap[k]?=w.heap[k]?:=fun k hk=>Below.heap_setCell _ _ _ _ hk
 refine ⟨hb,by simpa using hk,hn,wv,lv,cs,?_,⟨own_keepD hw.1 (fun k hv=>hother k (own_ne hw.1 hrow hTP k hv)),hw.2⟩,⟨own_keepD hl.1 (fun k hv=>hother k (own_ne hl.1 hrow hTD k hv)),hl.2⟩,hcs,fun c hm=>(hok c hm).keep (fun k hs _=>hother k (fun e=>hSF k hs (e▸hb)))⟩;rw [heap_setCell_same _ _ _ _ _ _ hrow,devCells_set_kept _ _ _ hk i hi]
theorem DevAt.setW {a:World} {lv wv wv':Value} {cs:List Rc} {l':List (Nat × ByteArray)} (hc:Chg F a w) (hb:F b) (hk:d.kept.length=32) (hn:d.now.length=32)
  (hrow:w.heap[b]?=some (.cells (devCells d wv lv).toArray TD (0,0))) (hl:Ow (Grow F a w) w 117 6 lv cs.length (cs.flatMap Rc.cells))
  (hw:w.ownsRow 0 TP 2 wv' l'.length (putCells l')) (hwF:∀ k,wv'.ownBlock=some k→F k∨a.heap.size≤k) (hcs:cs.map (·.r)=d.l) (hok:∀ c ∈ cs,RcOk S w c)
  (hSF:∀ k,S k→¬ F k) (hTP:TP≠TD) (hTD:117≠TD) :
  DevAt TD TP S (Grow F a (w.setCell ⟨b,64,none⟩ wv')) (w.setCell ⟨b,64,none⟩ wv') b { d with waits:=l' }∧Chg F a (w.setCell ⟨b,64,none⟩ wv'):=by
 have hsz:(w.setCell ⟨b,64,none⟩ wv').heap.size=w.heap.size:=by simp [World.setCell]
 have hother:∀ k,k≠b→(w.setCell ⟨b,64,none⟩ wv').heap[k]?=w.heap[k]?:=fun k hk=>Below.heap_setCell _ _ _ _ hk
 refine ⟨⟨.inl hb,hk,hn,wv',lv,cs,?_,?_,?_,hcs,fun c hm=>(hok c hm).keep (fun k hs _=>hother k (fun e=>hSF k hs (e▸hb)))⟩,hc.setCell (.inl hb) _⟩
 ·rw [heap_setCell_same _ _ _ _ _ _ hrow,devCells_set_w _ _ _ _ hk hn]; rfl
 ·refine ⟨own_keepD hw (fun k hv=>hother k (own_ne hw hrow hTP k hv)),fun k hv=>?_⟩
  rcases hwF k hv with h | h
  ·exact .inl h
  ·exact .inr ⟨h,by rw [hsz]; exact (hw.lt k hv).2⟩
 ·refine ⟨own_keepD hl.1 (fun k hv=>hother k (own_ne hl.1 hrow hTD k hv)),fun k hv=>?_⟩
  have:=hl.2 k hv;unfold Grow at this ⊢
  rwa [hsz]
theorem rows_at {A:Option Addr} {cap:Nat} {cs:List Rc} (h:Rd S w 6 (.slice A cs.length cap) cs.length (cs.flatMap Rc.cells)) {i:Nat} {c:Rc} (hi:cs[i]?=some c) :
  ∃ b off,A=some ⟨b,off,none⟩∧b<w.heap.size∧w.cell? ⟨b,off+i * 6,none⟩=some (.bool c.r.write)∧w.cell? ⟨b,off+i * 6+1,none⟩=some (.int .i64 c.r.lo)∧w.cell? ⟨b,off+i * 6+2,none⟩=some (.int .i64 c.r.many) ∧
   w.cell? ⟨b,off+i * 6+3,none⟩=some c.dv∧w.cell? ⟨b,off+i * 6+4,none⟩=some c.tv∧w.cell? ⟨b,off+i * 6+5,none⟩=some (.int .i64 c.r.born):=by
 have hlt:=(List.getElem?_eq_some_iff.1 hi).1;obtain ⟨b,off,e,hS,hlt,hc⟩:=h.at_ (by omega) (by omega);have hg:=fun j hj=>flat_get cs i j c hi hj
 exact ⟨b,off,e,hlt,hc _ _ (hg 0 (by omega)),hc _ _ (hg 1 (by omega)),hc _ _ (hg 2 (by omega)),hc _ _ (hg 3 (by omega)),hc _ _ (hg 4 (by omega)),hc _ _ (hg 5 (by omega))⟩
end
end Go.Proofs.YtagndjihiklmiaaGreatDoor
namespace Go.Proofs.YtagndjihiklmiaaGreatDoor
open Go.RowKit
def RetDev (TD TP:TypeId) (S F:Nat→Prop) (w:World) (b:Nat) (d':Dv) (v:Value):Ending→World→Prop :=
 fun e w'=>e=.returned v∧DevAt TD TP S (Grow F w w') w' b d'∧Chg F w w'
abbrev TDp:TypeId:=138
abbrev TPp:TypeId:=173
theorem rd_req6 (S:Nat→Prop) (w:World) (b:Nat) (T:TypeId) (r:Rq) (dv tv:Value) (hb:w.heap[b]?=some (.cells #[.bool r.write,.int .i64 r.lo,.int .i64 r.many,dv,tv,.int .i64 r.born] T (0,0))) (hS:S b) :
  Rd S w 6 (.slice (some ⟨b,0,none⟩) 1 1) 1 (Rc.cells ⟨r,dv,tv⟩):=by
 refine ⟨_,1,rfl,Nat.le_refl _,by simp [maxLen],rfl,fun _=>⟨b,0,rfl,hS,fun j u hu=>?_⟩⟩;rw [cell_of_row _ _ _ _ _ _ hb]
 simpa [Rc.cells] using hu
theorem rc_one (S:Nat→Prop) {w:World} {c:Rc} (h:RcOk S w c):∀ u ∈ c.cells,u.oneCell'=true:=by
 obtain ⟨Ad,cd,e1,_,_⟩:=h.data.form;obtain ⟨At,ct,e2,_,_⟩:=h.tags.form;intro u hu;simp only [Rc.cells,e1,e2] at hu;simp at hu;rcases hu with rfl | rfl | rfl | rfl | rfl | rfl <;> rfl
theorem devstart_any (S F:Nat→Prop) (w:World) (b:Nat) (d:Dv) (r:Rq) (rv:Value) (h:DevAt TDp TPp S F w b d) (hr:ReqAt S w rv r) (hF:∀ k,F k→k<w.heap.size) (hSF:∀ k,S k→¬ F k) (h2:d.l.length≤2) :
  Calls Tryz.prog 130 #[.pointer (some ⟨b,0,none⟩),rv] w (RetDev TDp TPp S F w b (d.start r).1 (errV (d.start r).2)):=by
 obtain ⟨Ad,cd,At,ct,rfl,_,_,_,_,_,_,_⟩:=hr.opened;obtain ⟨i0,hi0,hz0,hz1,hz2⟩:=info_parts reqInfo;obtain ⟨hb,hk,hn,wv,lv,cs,hrow,hw,hl,hcs,hok⟩:=h;have hlen:cs.length=d.l.length:=by rw [← hcs,List.length_map]
 obtain ⟨A,cap,rfl,hc1,hc2⟩:=hl.form;unfold maxLen at hc2;rw [hlen] at hl hrow hc1;have Hlen:=Lib.hid hlen;clear hlen;have c65:w.cell? ⟨b,65,none⟩=some (.slice A d.l.length cap):=by rw [cell_of_row _ _ _ _ _ _ hrow]; simpa using devCells_at_l d wv _ hk hn
 have f65:w.frozen? ⟨b,65,none⟩=false:=frozen_of_row _ _ _ _ _ hrow;have hbl:b<w.heap.size:=(Array.getElem?_eq_some_iff.1 hrow).1;have Hr:=Lib.hid hr;have Hrow:=Lib.hid hrow;have Hw:=Lib.hid hw;have Hl:=Lib.hid hl;have Hcs:=Lib.hid hcs;have Hok:=Lib.hid hok;have HF:=Lib.hid hF;have HS:=Lib.hid hSF;have Hb:=Lib.hid hb;clear hr hrow hw hl hcs hok hF hSF hb;by_cases h3:d.l.length=2
 ·have h3':((d.l.length:Int) == 2)=true:=by simp; omega
  go_enter Tryz.func130,Tryz.ntmps130;go_wp2_with fail;go_ret;have hd:d.start r=(d,7):=if_pos h3;rw [hd];have hb1:=(Below.refl w.heap.size w).alloc (Nat.le_refl _) (Obj.cells #[Value.bool r.write,Value.int IntKind.i64 r.lo,Value.int IntKind.i64 r.many,Value.slice Ad r.data.length cd,Value.slice At r.tags.length ct,Value.int IntKind.i64 r.born] 117);refine ⟨rfl,?_,Chg.of_below hb1⟩;exact DevAt.mono (DevAt.below ⟨Hb.out,hk,hn,wv,_,cs,Hrow.out,Hw.out,by rw [Hlen.out]; exact Hl.out,Hcs.out,Hok.out⟩ hb1) (fun k hk=>.inl hk)
 ·have h3':((d.l.length:Int) == 2)=false:=by simp; omega
  go_enter Tryz.func130,Tryz.ntmps130;go_wp2_with fail;have L:=(Lay.refl w).alloc' w.heap.size #[Value.bool r.write,Value.int IntKind.i64 r.lo,Value.int IntKind.i64 r.many,Value.slice Ad r.data.length cd,Value.slice At r.tags.length ct,Value.int IntKind.i64 r.born] 117 rfl;have hb1:=(Below.refl w.heap.size w).alloc (Nat.le_refl _) (Obj.cells #[Value.bool r.write,Value.int IntKind.i64 r.lo,Value.int IntKind.i64 r.many,Value.slice Ad r.data.length cd,Value.slice At r.tags.length ct,Value.int IntKind.i64 r.born] 117);generalize hW1:World.alloc _ _=W1 at L hb1 ⊢;have hrow1:W1.heap[b]?=some (.cells (devCells d wv (.slice A d.l.length cap)).toArray TDp (0,0)):=(hb1.block _ hbl).trans Hrow.out;have c65':W1.cell? ⟨b,65,none⟩=some (.slice A d.l.length cap):=by rw [cell_of_row _ _ _ _ _ _ hrow1]; simpa using devCells_at_l d wv _ hk hn
  have f65':W1.frozen? ⟨b,65,none⟩=false:=frozen_of_row _ _ _ _ _ hrow1;obtain ⟨k0,k1,k2,k3,k4,k5⟩:=L.c6 0 rfl;have hl1:=(Hl.out.keep (fun k _ hk=>hb1.block k hk)).1;have Hown:=Lib.hid (hl1.drew);have Hreq:=Lib.hid (rc_one S (c:=⟨r,.slice Ad r.data.length cd,.slice At r.tags.length ct⟩) Hr.out.rcOf);have Hne:Hid (∀ k,k=b→some k≠(Value.slice A d.l.length cap).ownBlock):=fun k hkb e=>own_ne hl1 hrow1 (by decide) k e.symm hkb
  have hbl1:b<W1.drew.heap.size:=Nat.lt_of_lt_of_le hbl hb1.size;have hbl2:b<W1.heap.size:=hbl1;clear c65 f65 hW1 hrow1
  go_region_law (first
   |(refine step_append_rd (S:=fun _=>True) _ rfl (.tmp 16) (.tmp 18) _ rfl 0 117 i0 _ 6 80 Tryz.underlying50 hi0 hz0 hz1 hz2 rfl (by omega) (.slice A d.l.length cap) d.l.length (cs.flatMap Rc.cells) (by simp [Act.eval,Act.put]) (Hown.out.alloc _) (.slice (some ⟨W1.heap.size,0,none⟩) 1 1) 1 (Rc.cells ⟨r,.slice Ad r.data.length cd,.slice At r.tags.length ct⟩) (by simp [Act.eval,Act.put]) (rd_req6 _ _ _ 117 r _ _ (heap_alloc_new _ _) trivial) Hreq.out (by simp only [maxLen]; omega) (by omega) (by omega) ?_; intro v1 w1 hown1 hg1 hat1; obtain ⟨A1,c1,rfl⟩:=own_sl hown1
     have q1:w1.cell? ⟨b,65,none⟩=some (.slice A d.l.length cap):=hg1.cell ((World.cell?_alloc_lt _ _ _ hbl1).trans c65') (Hne.out b rfl)
     have q2:w1.frozen? ⟨b,65,none⟩=false:=(World.frozen?_of_block (hg1.block b (by simp; omega) (Hne.out b rfl))).trans ((World.frozen?_alloc_past _ _ _ hbl1).trans f65')))
  all_goals
   have hg0:w.heap.size≤W1.heap.size:=hb1.size;have hbA:=(Below.refl W1.heap.size W1).alloc (Nat.le_refl _) (Obj.cells #[Value.bool r.write,Value.int IntKind.i64 r.lo,Value.int IntKind.i64 r.many,Value.slice Ad r.data.length cd,Value.slice At r.tags.length ct,Value.int IntKind.i64 r.born] 117);have hc0:Chg F w w1:=(((Chg.of_below hb1).step hbA).drew).grown hg1 (fun k hk=>.inl (Hl.out.2 k hk));have hkS:∀ k,S k→k<w.heap.size→w1.heap[k]?=w.heap[k]?:=hc0.keep HS.out;have hb2:(World.drew (W1.alloc (Obj.cells #[Value.bool r.write,Value.int IntKind.i64 r.lo,Value.int IntKind.i64 r.many,Value.slice Ad r.data.length cd,Value.slice At r.tags.length ct,Value.int IntKind.i64 r.born] 117))).heap.size=W1.heap.size+1:=by simp
   have hkW:∀ k,k<w.heap.size→some k≠(Value.slice A d.l.length cap).ownBlock→w1.heap[k]?=w.heap[k]?:=fun k hk hne=>by
    rw [hg1.block k (by rw [hb2]; omega) hne];exact (hbA.drew.block k (by omega)).trans (hb1.block k hk)
   have hfin:=DevAt.setL (TD:=TDp) (TP:=TPp) (S:=S) (lv:=.slice A d.l.length cap) (lv':=.slice A1 (d.l.length+1) c1) (cs':=cs ++ [⟨r,.slice Ad r.data.length cd,.slice At r.tags.length ct⟩]) hc0 HF.out Hb.out hk hn ((hkW b hbl (Hne.out b rfl)).trans Hrow.out)
    ⟨own_keepD Hw.out.1 (fun k hv=>hkW k (Hw.out.1.lt k hv).2 (fun e=>own_two Hw.out.1 Hl.out.1 (by decide) k hv e.symm)),fun k hv=>.inl (Hw.out.2 k hv)⟩
    (by rw [List.length_append,Hlen.out,List.flatMap_append]; simpa using hown1)
    (fun k hv=>by
     rcases hat1 with h | h
     ·exact .inl (Hl.out.2 k (h▸hv))
     ·rw [hv] at h; injection h with h; rw [hb2] at h; exact .inr (by omega))
    rfl
    (fun c hm=>by
     rcases List.mem_append.1 hm with hm | hm
     ·exact (Hok.out c hm).keep hkS
     ·simp at hm; subst hm; exact Hr.out.rcOf.keep hkS)
    HS.out (by decide) (by decide)
   go_wp2_with fail;go_ret;have hd:d.start r=({ d with l:=d.l ++ [r] },0):=if_neg h3;rw [hd];refine ⟨rfl,?_,hfin.2⟩;have:=hfin.1
   rwa [List.map_append,Hcs.out] at this
end Go.Proofs.YtagndjihiklmiaaGreatDoor
namespace Go.Proofs.YtagndjihiklmiaaGreatDoor
open Go.RowKit
abbrev TDr:TypeId:=52
abbrev TPr:TypeId:=135
theorem rdevstart_any (S F:Nat→Prop) (w:World) (b:Nat) (d:Dv) (r:Rq) (rv:Value) (h:DevAt TDr TPr S F w b d) (hr:ReqAt S w rv r) (hF:∀ k,F k→k<w.heap.size) (hSF:∀ k,S k→¬ F k) (h2:d.l.length≤2) :
  Calls Tryz.prog 64 #[.pointer (some ⟨b,0,none⟩),rv] w (RetDev TDr TPr S F w b (d.start r).1 (.int .i64 (d.start r).2)):=by
 obtain ⟨Ad,cd,At,ct,rfl,_,_,_,_,_,_,_⟩:=hr.opened;obtain ⟨i0,hi0,hz0,hz1,hz2⟩:=info_parts reqInfo;obtain ⟨hb,hk,hn,wv,lv,cs,hrow,hw,hl,hcs,hok⟩:=h;have hlen:cs.length=d.l.length:=by rw [← hcs,List.length_map]
 obtain ⟨A,cap,rfl,hc1,hc2⟩:=hl.form;unfold maxLen at hc2;rw [hlen] at hl hrow hc1;have Hlen:=Lib.hid hlen;clear hlen;have c65:w.cell? ⟨b,65,none⟩=some (.slice A d.l.length cap):=by rw [cell_of_row _ _ _ _ _ _ hrow]; simpa using devCells_at_l d wv _ hk hn
 have f65:w.frozen? ⟨b,65,none⟩=false:=frozen_of_row _ _ _ _ _ hrow;have hbl:b<w.heap.size:=(Array.getElem?_eq_some_iff.1 hrow).1;have Hr:=Lib.hid hr;have Hrow:=Lib.hid hrow;have Hw:=Lib.hid hw;have Hl:=Lib.hid hl;have Hcs:=Lib.hid hcs;have Hok:=Lib.hid hok;have HF:=Lib.hid hF;have HS:=Lib.hid hSF;have Hb:=Lib.hid hb;clear hr hrow hw hl hcs hok hF hSF hb;by_cases h3:d.l.length=2
 ·have h3':((d.l.length:Int) == 2)=true:=by simp; omega
  go_enter Tryz.func64,Tryz.ntmps64;go_wp2_with fail;go_ret;have hd:d.start r=(d,7):=if_pos h3;rw [hd];have hb1:=(Below.refl w.heap.size w).alloc (Nat.le_refl _) (Obj.cells #[Value.bool r.write,Value.int IntKind.i64 r.lo,Value.int IntKind.i64 r.many,Value.slice Ad r.data.length cd,Value.slice At r.tags.length ct,Value.int IntKind.i64 r.born] 117);refine ⟨rfl,?_,Chg.of_below hb1⟩;exact DevAt.mono (DevAt.below ⟨Hb.out,hk,hn,wv,_,cs,Hrow.out,Hw.out,by rw [Hlen.out]; exact Hl.out,Hcs.out,Hok.out⟩ hb1) (fun k hk=>.inl hk)
 ·have h3':((d.l.length:Int) == 2)=false:=by simp; omega
  go_enter Tryz.func64,Tryz.ntmps64;go_wp2_with fail;have L:=(Lay.refl w).alloc' w.heap.size #[Value.bool r.write,Value.int IntKind.i64 r.lo,Value.int IntKind.i64 r.many,Value.slice Ad r.data.length cd,Value.slice At r.tags.length ct,Value.int IntKind.i64 r.born] 117 rfl;have hb1:=(Below.refl w.heap.size w).alloc (Nat.le_refl _) (Obj.cells #[Value.bool r.write,Value.int IntKind.i64 r.lo,Value.int IntKind.i64 r.many,Value.slice Ad r.data.length cd,Value.slice At r.tags.length ct,Value.int IntKind.i64 r.born] 117);generalize hW1:World.alloc _ _=W1 at L hb1 ⊢;have hrow1:W1.heap[b]?=some (.cells (devCells d wv (.slice A d.l.length cap)).toArray TDr (0,0)):=(hb1.block _ hbl).trans Hrow.out;have c65':W1.cell? ⟨b,65,none⟩=some (.slice A d.l.length cap):=by rw [cell_of_row _ _ _ _ _ _ hrow1]; simpa using devCells_at_l d wv _ hk hn
  have f65':W1.frozen? ⟨b,65,none⟩=false:=frozen_of_row _ _ _ _ _ hrow1;obtain ⟨k0,k1,k2,k3,k4,k5⟩:=L.c6 0 rfl;have hl1:=(Hl.out.keep (fun k _ hk=>hb1.block k hk)).1;have Hown:=Lib.hid (hl1.drew);have Hreq:=Lib.hid (rc_one S (c:=⟨r,.slice Ad r.data.length cd,.slice At r.tags.length ct⟩) Hr.out.rcOf);have Hne:Hid (∀ k,k=b→some k≠(Value.slice A d.l.length cap).ownBlock):=fun k hkb e=>own_ne hl1 hrow1 (by decide) k e.symm hkb
  have hbl1:b<W1.drew.heap.size:=Nat.lt_of_lt_of_le hbl hb1.size;have hbl2:b<W1.heap.size:=hbl1;clear c65 f65 hW1 hrow1;have HT:=Lib.hid (Rd.of_own (S:=fun _=>True) _ (fun _ _=>trivial) hl1);have Hones:Hid (∀ u ∈ cs.flatMap Rc.cells,u.oneCell'=true):=fun u hu=>by obtain ⟨c,hc,hu⟩:=List.mem_flatMap.1 hu; exact rc_one S (Hok.out c hc) u hu
  have hbA:∀ u:World,Below u.heap.size u (u.alloc (Obj.cells #[Value.bool r.write,Value.int IntKind.i64 r.lo,Value.int IntKind.i64 r.many,Value.slice Ad r.data.length cd,Value.slice At r.tags.length ct,Value.int IntKind.i64 r.born] 117)):=fun u=>(Below.refl u.heap.size u).alloc (Nat.le_refl _) _
  have hTD:∀ (u:World) v n xs,u.ownsRow W1.heap.size 117 6 v n xs→∀ k,v.ownBlock=some k→W1.heap.size≤k:=fun u v n xs h k hk=>(h.lt k hk).1
  have HA:=Lib.hid hbA;have HD:=Lib.hid hTD;clear hbA hTD
  go_region_law (first
   |(refine step_append_rd (S:=fun _=>True) _ rfl (.const (.slice none 0 0)) (.tmp 15) _ rfl W1.heap.size 117 i0 _ 6 80 Tryz.underlying50 hi0 hz0 hz1 hz2 rfl (by omega) (.slice none 0 0) 0 [] (by simp [Act.eval,Act.put]) (World.ownsRow_nil _ _ _ _) (.slice A d.l.length cap) d.l.length (cs.flatMap Rc.cells) (by simp [Act.eval,Act.put]) (HT.out.below ((Below.refl W1.heap.size W1).drew)) (fun u hu=>Hones.out u hu) (by simp only [maxLen]; omega) (by omega) (by simp) ?_
     intro v1 w1 hown1 hg1 hat1;clear hat1;have hy1:Below W1.heap.size W1 w1:=((Below.refl W1.heap.size W1).drew).grown hg1 (by simp) (fun k hk=>by simp [Value.ownBlock] at hk);obtain ⟨A1,c1,rfl⟩:=own_sl (own_lo hown1 (Nat.zero_le _));have q0:=cell_b hy1 k0;have q1:=cell_b hy1 k1;have q2:=cell_b hy1 k2;have q3:=cell_b hy1 k3;have q4:=cell_b hy1 k4;have q5:=cell_b hy1 k5
     have hq:=hy1.size)
   |(refine step_append_rd (S:=fun _=>True) _ rfl (.const (.slice none 0 0)) (.tmp 15) _ rfl W1.heap.size 117 i0 _ 6 80 Tryz.underlying50 hi0 hz0 hz1 hz2 rfl (by omega) (.slice none 0 0) 0 [] (by simp [Act.eval,Act.put]) (World.ownsRow_nil _ _ _ _) (.slice A d.l.length cap) d.l.length (cs.flatMap Rc.cells) (by simp [Act.eval,Act.put]) (HT.out.below (HA.out W1).drew) (fun u hu=>Hones.out u hu) (by simp only [maxLen]; omega) (by omega) (by simp; try omega) ?_
     intro v1 w1 hown1 hg1 hat1;clear hat1;have hy1:Below W1.heap.size W1 w1:=((HA.out W1).drew).grown hg1 (by simp) (fun k hk=>by simp [Value.ownBlock] at hk);have hrq:=(hg1.block W1.heap.size (by simp) (by simp [Value.ownBlock])).trans (heap_alloc_new W1 (Obj.cells #[Value.bool r.write,Value.int IntKind.i64 r.lo,Value.int IntKind.i64 r.many,Value.slice Ad r.data.length cd,Value.slice At r.tags.length ct,Value.int IntKind.i64 r.born] 117));obtain ⟨A1,c1,rfl⟩:=own_sl (own_lo hown1 (Nat.zero_le _))
     have hq:=hy1.size)
   |(refine step_append_rd (S:=fun _=>True) _ rfl (.tmp 16) (.tmp 18) _ rfl W1.heap.size 117 i0 _ 6 80 Tryz.underlying50 hi0 hz0 hz1 hz2 rfl (by omega) (.slice A1 (0+d.l.length) c1) (0+d.l.length) ([] ++ cs.flatMap Rc.cells) (by simp [Act.eval,Act.put]) hown1 (.slice (some ⟨W1.heap.size,0,none⟩) 1 1) 1 (Rc.cells ⟨r,.slice Ad r.data.length cd,.slice At r.tags.length ct⟩) (by simp [Act.eval,Act.put]) (rd_req6 _ _ _ 117 r _ _ hrq trivial) Hreq.out (by simp only [maxLen]; omega) (by omega) (by omega) ?_
     intro v2 w2 hown2 hg2 hat2;clear hat2;have hy2:Below W1.heap.size W1 w2:=hy1.grown hg2 hq (HD.out _ _ _ _ hown1);obtain ⟨A2,c2,rfl⟩:=own_sl (own_lo hown2 (Nat.zero_le _));have p1:=cell_b hy2 c65'
     have p2:=(hy2.frozen (p:=⟨b,65,none⟩) hbl2).trans f65')
   |(refine step_append_rd (S:=fun _=>True) _ rfl (.tmp 16) (.tmp 18) _ rfl W1.heap.size 117 i0 _ 6 80 Tryz.underlying50 hi0 hz0 hz1 hz2 rfl (by omega) (.slice A1 (0+d.l.length) c1) (0+d.l.length) ([] ++ cs.flatMap Rc.cells) (by simp [Act.eval,Act.put]) (hown1.alloc _) (.slice (some ⟨w1.heap.size,0,none⟩) 1 1) 1 (Rc.cells ⟨r,.slice Ad r.data.length cd,.slice At r.tags.length ct⟩) (by simp [Act.eval,Act.put]) (rd_req6 _ _ _ 117 r _ _ (heap_alloc_new _ _) trivial) Hreq.out (by simp only [maxLen]; omega) (by omega) (by simp; omega) ?_
     intro v2 w2 hown2 hg2 hat2;clear hat2;have hy2:Below W1.heap.size W1 w2:=(hy1.trans ((HA.out w1).mono hq)).grown hg2 (by simp; omega) (HD.out _ _ _ _ hown1);obtain ⟨A2,c2,rfl⟩:=own_sl (own_lo hown2 (Nat.zero_le _));have p1:=cell_b hy2 c65'
     have p2:=(hy2.frozen (p:=⟨b,65,none⟩) hbl2).trans f65'))
  all_goals
   have hg0:w.heap.size≤W1.heap.size:=hb1.size;have hB2:Below w.heap.size w w2:=hb1.trans (hy2.mono hg0);have hc0:Chg F w w2:=Chg.of_below hB2;simp only [Nat.zero_add,List.nil_append] at hown2
   have hfin:=DevAt.setL (TD:=TDr) (TP:=TPr) (S:=S) (lv:=.slice A d.l.length cap) (cs':=cs ++ [⟨r,.slice Ad r.data.length cd,.slice At r.tags.length ct⟩]) hc0 HF.out Hb.out hk hn ((hB2.block b hbl).trans Hrow.out)
    ((Hw.out.keep (fun k _ hk=>hB2.block k hk)).mono (fun k hk=>.inl hk))
    (by rw [List.length_append,Hlen.out,List.flatMap_append]; simpa using own_lo hown2 (Nat.zero_le _))
    (fun k hv=>.inr (by have:=(hown2.lt k hv).1; omega))
    rfl
    (fun c hm=>by
     rcases List.mem_append.1 hm with hm | hm
     ·exact (Hok.out c hm).below hB2
     ·simp at hm; subst hm; exact Hr.out.rcOf.below hB2)
    HS.out (by decide) (by decide)
   go_wp2_with fail;go_ret;have hd:d.start r=({ d with l:=d.l ++ [r] },0):=if_neg h3;rw [hd];refine ⟨rfl,?_,hfin.2⟩;have:=hfin.1
   rwa [List.map_append,Hcs.out] at this
end Go.Proofs.YtagndjihiklmiaaGreatDoor
