/- The reference's stack: serve: What each round of it needs. -/
import Derived.Test.YtagndjihiklmiaaGreatDoorQ29
import Derived.Test.YtagndjihiklmiaaGreatDoorQ30
set_option linter.unusedSimpArgs false
set_option linter.unusedVariables false
set_option maxRecDepth 100000
set_option maxHeartbeats 8000000
namespace Go.Proofs.YtagndjihiklmiaaGreatDoor
open Go.RowKit Go.Sort
section
variable {T:Tys} {col col':Nat→Nat} {w w' w1:World} {b bd N:Nat} {x:Sv} {s:St}
theorem StAt.paintA (h:StAt T col w b bd N x s) (hb:Below w.heap.size w w') {c:Nat} (hc:c<3) (P:Nat→Prop) [DecidablePred P] (hP:∀ k,P k→w.heap.size≤k∧k<w'.heap.size) :
  StAt T (fun k=>if P k then 5+c else col k) w' b bd N x s:=by
 have hold:∀ k,k<w.heap.size→(if P k then 5+c else col k)=col k:=fun k hl=>if_neg (fun hp=>by have:=(hP k hp).1; omega)
 have hF:Fd (fun k=>if P k then 5+c else col k)=Fd col:=funext fun k=>propext ⟨fun e=>by
  have e:(if P k then 5+c else col k)=4:=e
  split at e
  ·omega
  ·exact e,fun e=>by
  have e:col k=4:=e;show (if P k then 5+c else col k)=4
  rw [hold k (h.lt k (by omega))]; exact e⟩
 have him:∀ k,Im w col k→Im w' (fun k=>if P k then 5+c else col k) k:=fun k hk=>⟨Nat.lt_of_lt_of_le hk.1 hb.size,(hold k hk.1).trans hk.2⟩
 have g:=h.below hb;have lv:=h.lt x.bv (by rw [h.cv]; decide);have lt:=h.lt x.bt (by rw [h.ct]; decide)
 have hnv:∀ k,Im w' (fun k=>if P k then 5+c else col k) k→k≠x.bv∧k≠x.bt:=fun k hk =>
  ⟨fun e=>(by have h1:=hk.2; rw [e] at h1; exact absurd (((hold _ lv).trans h.cv).symm.trans h1) (by decide)),fun e=>(by have h1:=hk.2; rw [e] at h1; exact absurd (((hold _ lt).trans h.ct).symm.trans h1) (by decide))⟩
 refine ⟨g.row,?_,g.n,(h.bufs.below hb).more him,(h.wait.below hb).more him,g.asks,fun j hj=>?_,g.done,g.errs,(hold b h.bl).trans h.cb,(hold _ lv).trans h.cv,(hold _ lt).trans h.ct,fun k hk=>?_⟩
 ·rw [hF]
  exact ⟨g.drv.row,g.drv.map,((h.drv.below hb).dev).more him,g.drv.nv,g.drv.nt,hnv⟩
 ·exact ((h.ask j hj).mono (G:=Fa (fun k=>if P k then 5+c else col k) j) (fun k hf hl=>(hold k hl).trans hf)).keep (fun k _ hl=>hb.block k hl)
 ·have hk:(if P k then 5+c else col k)≠0:=hk
  split at hk
  ·rename_i e; exact (hP k e).2
  ·exact Nat.lt_of_lt_of_le (h.lt k hk) hb.size
theorem StAt.lefted (h:StAt T col w b bd N x s) {c:Nat} (hc:c<3) {a:Ak} {ba:Nat} (ha:s.askAt c=some a) (hv:x.av c=.pointer (some ⟨ba,0,none⟩)) (hb:Below w.heap.size w w1) {lv:Value} {l:List Int} (hown:w1.ownsRow w.heap.size 3 1 lv l.length (l.map (.int .i64))) :
  ∃ col',StAt T col' (w1.setCell ⟨ba,3,none⟩ lv) b bd N x { s with asks:=s.asks.set c (some { a with left:=l }) }∧Rec col col' w w∧Chg (Fl col) w (w1.setCell ⟨ba,3,none⟩ lv):=by
 classical
 obtain ⟨lv0,hrow,hfa,_⟩:=h.askc hc ha hv;have hl:=(Array.getElem?_eq_some_iff.1 hrow).1;have hP:∀ k,lv.ownBlock=some k→w.heap.size≤k∧k<w1.heap.size:=fun k hk=>hown.lt k hk
 have g:=h.paintA hb hc (fun k=>lv.ownBlock=some k) hP
 have hfa':Fa (fun k=>if lv.ownBlock=some k then 5+c else col k) c ba:=by
  show (if _ then _ else _)=_
  split
  ·rfl
  ·exact hfa
 have r1:=(hb.block _ hl).trans hrow;refine ⟨_,g.askd hc (Chg.setCell Chg.refl (.inl hfa') _) ⟨ba,lv,hv,hfa',heap_setCell_same _ _ 3 _ _ lv r1,⟨own_lo (own_keepD hown fun k hk=>heap_setCell_other _ _ _ _ (by have:=(hP k hk).1; simp; omega)) (Nat.zero_le _),fun k hk=>(if_pos hk:(if lv.ownBlock=some k then 5+c else col k)=5+c)⟩⟩,⟨fun k hk=>if_neg (fun hp=>by have:=(hP k hp).1; omega),fun k hk=>?_⟩,Chg.setCell (Chg.of_below hb) (.inl (Fl.of_a hc ba hfa)) _⟩;by_cases hp:lv.ownBlock=some k
 ·exact .inr (hP k hp).1
 ·left
  have h1:(if lv.ownBlock=some k then 5+c else col k)≠0∧(if lv.ownBlock=some k then 5+c else col k)≠9:=hk;rw [if_neg hp] at h1; exact h1
def A5 (T:Tys) (col:Nat→Nat) (w:World) (b bd N:Nat) (t:St) (w':World):Prop:=∃ (col':Nat→Nat) (y:Sv),StAt T col' w' b bd N y t∧Chg (Fl col) w w'∧Rec col col' w w
theorem A5.to {t:St} {y:Sv} (hc:Chg (Fl col) w w1) (hr:Rec col col' w w) (hs:StAt T col' w' b bd N y t) (h1:Chg (Fl col') w1 w'):A5 T col w b bd N t w':=⟨col',y,hs,hc.recol h1 hr.grow,hr⟩
theorem A5.to2 {t:St} {y:Sv} {col2:Nat→Nat} (hc:Chg (Fl col) w w1) (hr:Rec col col' w w) (hr2:Rec col' col2 w1 w1) (hs:StAt T col2 w' b bd N y t) (h1:Chg (Fl col') w1 w'):A5 T col w b bd N t w' :=
 ⟨col2,y,hs,hc.recol h1 hr.grow,⟨fun k hk=>(hr2.old k (Nat.lt_of_lt_of_le hk hc.size)).trans (hr.old k hk),fun k hk=>(hr2.grow k hk).elim (hr.grow k) (fun h2=>.inr (Nat.le_trans hc.size h2))⟩⟩
end
theorem rget_st {col:Nat→Nat} {w:World} {b bd N:Nat} {x:Sv} {s:St} (h:StAt Tr col w b bd N x s) (hI:Inv s) (p:Int) {g:Bf × Bool} (hg:getB s.bufs p=g) (w':World) (hb:Below w.heap.size w w') :
  Calls Tryz.prog 60 #[x.bufs,.int .i64 p] w' (Ret (.tuple #[.agg #[.int .i64 g.1.pos,.string g.1.data,.bool g.1.dirty,.int .i64 g.1.used],.bool g.2]) w'):=hg▸rget_any _ _ _ p _ (h.bufs.below hb) hI.rises (by have:=hI.len8; omega)
theorem held_box (u:World) (T:TypeId) (hs:List Bool) (h:hs.length=32):((u.alloc (.cells (hldV (List.replicate 32 false)) T)).setCells u.heap.size 0 (hs.map .bool)).heap[u.heap.size]?=some (.cells (hldV hs) T (0,0))∧Below u.heap.size u ((u.alloc (.cells (hldV (List.replicate 32 false)) T)).setCells u.heap.size 0 (hs.map .bool)):=by
 have h2:=heap_setCells_row u.heap.size _ (hs.map .bool) 0 _ _ (heap_alloc_new u (.cells (hldV (List.replicate 32 false)) T))
 have hsm:setMany (hldV (List.replicate 32 false)) 0 (hs.map .bool)=(hs.map .bool).toArray:=by
  have:=setMany_mid (hs.map Value.bool) [] ((List.replicate 32 false).map Value.bool) [] (by simp [h])
  simpa [hldV] using this
 rw [hsm] at h2;exact ⟨h2,(Chg.setCells (F:=fun q=>u.heap.size≤q) (Chg.of_below ((Below.refl _ _).alloc (Nat.le_refl _) _)) (.inl (Nat.le_refl _)) 0 (hs.map .bool)).below (fun q hq=>hq) (Nat.le_refl _)⟩
def pE (o:Option (List Bf)):Int:=if o.isSome then 0 else 7
def RetPutB (o:Option (List Bf)) (w:World):Ending→World→Prop:=fun e w'=>∃ v,e=.returned (.tuple #[v,.int .i64 (pE o)])∧(∀ m,o=some m→w'.ownsRow w.heap.size 107 4 v m.length (flatB m))∧Below w.heap.size w w'
theorem rput_st {col:Nat→Nat} {w:World} {b bd N:Nat} {x:Sv} {s:St} (h:StAt Tr col w b bd N x s) (hI:Inv s) (y:Bf) {o:Option (List Bf)} (ho:putB s.bufs y s.heldP=o) (u:World) (hb:Below w.heap.size w u) :
  Calls Tryz.prog 69 #[x.bufs,bfV y,.agg (hldV (hlOf s))] u (RetPutB o u):=by
 have hp:putB s.bufs y (heldL (hlOf s))=o:=(putB_congr hI.inb (fun p h0 h1=>hlOf_at s h0 h1)).trans ho
 cases o with
 |none =>
  refine (rput_none _ s.bufs x.bufs y (hlOf s) u (h.bufs.below hb) hI.rises hI.inb (hlOf_len s) hI.len8 hp).mono ?_;rintro e w' ⟨rfl,hb'⟩;exact ⟨_,rfl,(fun m hm=>nomatch hm),hb'⟩
 |some m =>
  refine (rput_some _ s.bufs m x.bufs y (hlOf s) u (h.bufs.below hb) hI.rises hI.inb (hlOf_len s) hI.len8 hp).mono ?_;rintro e w' ⟨v,rfl,ho,hb'⟩;exact ⟨v,rfl,fun m' hm=>(by cases hm; exact ho),hb'⟩
theorem Inv.used1 {s:St} (h:Inv s):Inv { s with use:=s.use+1 } :=
 { h with used:=fun b hb=>⟨(h.used b hb).1,by have:=(h.used b hb).2; show b.used≤s.use+1; omega⟩,use0:=by have:=h.use0; show 0≤s.use+1; omega }
def loopOf:Code→Option Code
 |.seq a b=>(loopOf a).or (loopOf b)
 |.block _ a=>loopOf a
 |.loop b=>some b
 |_=>none
theorem frame_srv (a:Act) {v0 v2:Value} (h:a.tmps.size=222) (hd:a.defers=[]) (h0:a.tmps[0]?=some v0) (h2:a.tmps[2]?=some v2):∃ f:Nat→Value,a=⟨#[v0,f 1,v2,f 3,f 4,f 5,f 6,f 7,f 8,f 9,f 10,f 11,f 12,f 13,f 14,f 15,f 16,f 17,f 18,f 19,f 20,f 21,f 22,f 23,f 24,f 25,f 26,f 27,f 28,f 29,f 30,f 31,f 32,f 33,f 34,f 35,f 36,f 37,f 38,f 39,f 40,f 41,f 42,f 43,f 44,f 45,f 46,f 47,f 48,f 49,f 50,f 51,f 52,f 53,f 54,f 55,f 56,f 57,f 58,f 59,f 60,f 61,f 62,f 63,f 64,f 65,f 66,f 67,f 68,f 69,f 70,f 71,f 72,f 73,f 74,f 75,f 76,f 77,f 78,f 79,f 80,f 81,f 82,f 83,f 84,f 85,f 86,f 87,f 88,f 89,f 90,f 91,f 92,f 93,f 94,f 95,f 96,f 97,f 98,f 99,f 100,f 101,f 102,f 103,f 104,f 105,f 106,f 107,f 108,f 109,f 110,f 111,f 112,f 113,f 114,f 115,f 116,f 117,f 118,f 119,f 120,f 121,f 122,f 123,f 124,f 125,f 126,f 127,f 128,f 129,f 130,f 131,f 132,f 133,f 134,f 135,f 136,f 137,f 138,f 139,f 140,f 141,f 142,f 143,f 144,f 145,f 146,f 147,f 148,f 149,f 150,f 151,f 152,f 153,f 154,f 155,f 156,f 157,f 158,f 159,f 160,f 161,f 162,f 163,f 164,f 165,f 166,f 167,f 168,f 169,f 170,f 171,f 172,f 173,f 174,f 175,f 176,f 177,f 178,f 179,f 180,f 181,f 182,f 183,f 184,f 185,f 186,f 187,f 188,f 189,f 190,f 191,f 192,f 193,f 194,f 195,f 196,f 197,f 198,f 199,f 200,f 201,f 202,f 203,f 204,f 205,f 206,f 207,f 208,f 209,f 210,f 211,f 212,f 213,f 214,f 215,f 216,f 217,f 218,f 219,f 220,f 221],[]⟩:=by
 obtain ⟨⟨l⟩,d⟩:=a;subst hd
 obtain ⟨g,hg⟩:∃ g:Nat→Value,∀ i,g i=l.getD i undef:=⟨_,fun _=>rfl⟩
 have e:l=(List.range 222).map g:=by
  apply List.ext_getElem?;intro i;rw [List.getElem?_map];by_cases hi:i<222
  ·rw [List.getElem?_range hi,Option.map_some,hg,List.getD_eq_getElem?_getD,List.getElem?_eq_getElem (show i<l.length from by have h:l.length=222:=h; omega)]; rfl
  ·rw [List.getElem?_eq_none (by have h:l.length=222:=h; omega),List.getElem?_eq_none (by simp; omega)]; rfl
 have e0:g 0=v0:=by
  have h0:l[0]?=some v0:=by simpa using h0
  rw [hg,List.getD_eq_getElem?_getD,h0]; rfl
 have e2:g 2=v2:=by
  have h2:l[2]?=some v2:=by simpa using h2
  rw [hg,List.getD_eq_getElem?_getD,h2]; rfl
 refine ⟨g,?_⟩;rw [← e0,← e2,e];rfl
structure Srv (C:Code) (Q:Exit→Act→World→Prop) (col:Nat→Nat) (w:World) (b bd N k:Nat) (a0:Act) (wr:World) (col1:Nat→Nat) (y:Sv) (t:St) (a:Ak) (ba:Nat):Prop where
 code:Tryz.f57.body.bind loopOf=some C
 k3:k<3
 size:a0.tmps.size=222
 defers:a0.defers=[]
 p0:a0.tmps[0]?=some (.pointer (some ⟨b,0,none⟩))
 p2:a0.tmps[2]?=some (.int .i64 (k:Int))
 st:StAt Tr col1 wr b bd N y t
 chg:Chg (Fl col) w wr
 recol:Rec col col1 w w
 inv:Inv t
 use:0≤t.use∧t.use≤900000000∧0≤t.tag∧t.tag≤900000000
 ask:t.askAt k=some a
 ptr:y.av k=.pointer (some ⟨ba,0,none⟩)
 fin:∀ a' w',a'.tmps.size=222→a'.defers=[]→a'.tmps[0]?=some (.pointer (some ⟨b,0,none⟩))→a'.tmps[2]?=some (.int .i64 ((k+1:Nat):Int))→A5 Tr col w b bd N (t.serve1 k) w'→Q .normal a' w'
theorem srv_dead (C:Code) (Q:Exit→Act→World→Prop) (col:Nat→Nat) (w:World) (b bd N k:Nat) (a0:Act) (wr:World) (col1:Nat→Nat) (y:Sv) (t:St) (a:Ak) (ba:Nat) (h:Srv C Q col w b bd N k a0 wr col1 y t a ba) (hk1:¬ a.kind=1) (hdd:t.dead=true):C.wp Tryz.prog Q a0 wr:=by
 obtain ⟨hC,h3,z1,z2,z3,z4,hst,hch,hrec,hIn,hu,ho,ep,hto⟩:=h;obtain ⟨f,rfl⟩:=frame_srv a0 z1 z2 z3 z4;have HT:=Lib.hid hto;have HS:=Lib.hid hst;have HC:=Lib.hid hch;have HR:=Lib.hid hrec;have HIn:=Lib.hid hIn;have Hu:=Lib.hid hu;have hz:=zero_buf;obtain ⟨j0,hj0,hy0,hy1,hy2⟩:=info_parts intInfo;have hk3:(k:Int)<3:=by omega
 have hk0:¬ (k:Int)<0:=by omega
 have cA:wr.cell? ⟨b,11+k,none⟩=some (.pointer (some ⟨ba,0,none⟩)):=(hst.cellA h3).trans (congrArg some ep);obtain ⟨lv,hrow,hfa,how⟩:=hst.askc h3 ho ep;have Hne:=Lib.hid (hst.ask_ne hfa);have Ha:=Lib.hid (hIn.ask k a ho);have Ho:=Lib.hid ho;have Ep:=Lib.hid ep;have Hrow:=Lib.hid hrow;have How:=Lib.hid how;have k0:wr.cell? ⟨ba,0,none⟩=some (.int .i64 a.kind):=cell_of_row _ _ 0 _ _ _ hrow;have p1:wr.cell? ⟨ba,1,none⟩=some (.int .i64 a.pos):=cell_of_row _ _ 1 _ _ _ hrow;have c2:wr.cell? ⟨b,2,none⟩=some y.bufs:=hst.cell 2
 have hgg:∃ g,getB t.bufs a.pos=g:=⟨_,rfl⟩
 obtain ⟨g,hg⟩:=hgg;have Hg:=Lib.hid hg;have Hfb:Hid (Fl col1 b):=show _∧_ from ⟨by rw [hst.cb]; decide,by rw [hst.cb]; decide⟩;have Hln:Hid (t.bufs.length≤65536):=show _≤_ by have:=hIn.len8; omega
 have Hlo:Hid (0≤a.pos∧a.pos<32):=show _∧_ by have:=Ha.out.lo; have:=Ha.out.hi; omega
 obtain ⟨hs,hhs⟩:∃ l,hlOf t=l:=⟨_,rfl⟩
 have hlen:hs.length=32:=hhs▸hlOf_len t;have Hhs:=Lib.hid hhs;have Hlen:=Lib.hid hlen;have hC:=Option.some.inj (Eq.symm hC);subst hC;clear z1 z2 z3 z4 hst hch hrec hIn hu hto hhs hlen ho ep hrow how hfa hg;have hk1b:(a.kind == 1)=false:=by simp only [beq_eq_false_iff_ne]; exact hk1
 have c20:wr.cell? ⟨b,20,none⟩=some (.bool t.dead):=HS.out.cell 20;rw [hdd] at c20
 have Hsr:Hid (t.serve1 k=t.answer k noB 9):=show _=_ by
  unfold St.serve1;rw [Ho.out];simp only;rw [if_neg hk1];rcases Ha.out.kind with h | h | h
  ·exact absurd h hk1
  ·rw [if_pos h]; unfold St.write; rw [hdd,if_pos rfl]
  ·rw [if_neg (by omega),if_pos h]; unfold St.sync; rw [hdd,if_pos rfl]
 clear hdd hk1;go_wp2_with fail;refine (ranswer_any col1 wr b bd N y t k noB 9 HS.out h3).mono ?_;rintro e w4 ⟨rfl,hS7,hst7⟩;have Hst7:=Lib.hid hst7;have HK7:=Lib.hid (hS7.chg Hfb.out);clear hst7 hS7 c20 k0 cA p1 c2;go_wp2_with fail;refine HT.out _ _ rfl rfl rfl (by first | rfl | go_num) ?_;rw [Hsr.out];exact A5.to HC.out HR.out Hst7.out HK7.out
end Go.Proofs.YtagndjihiklmiaaGreatDoor
namespace Go.Proofs.YtagndjihiklmiaaGreatDoor
open Go.RowKit Go.Sort
theorem srv_read (C:Code) (Q:Exit→Act→World→Prop) (col:Nat→Nat) (w:World) (b bd N k:Nat) (a0:Act) (wr:World) (col1:Nat→Nat) (y:Sv) (t:St) (a:Ak) (ba:Nat) (h:Srv C Q col w b bd N k a0 wr col1 y t a ba) (hk1:a.kind=1):C.wp Tryz.prog Q a0 wr:=by
 obtain ⟨hC,h3,z1,z2,z3,z4,hst,hch,hrec,hIn,hu,ho,ep,hto⟩:=h;obtain ⟨f,rfl⟩:=frame_srv a0 z1 z2 z3 z4;have HT:=Lib.hid hto;have HS:=Lib.hid hst;have HC:=Lib.hid hch;have HR:=Lib.hid hrec;have HIn:=Lib.hid hIn;have Hu:=Lib.hid hu;have hz:=zero_buf;obtain ⟨j0,hj0,hy0,hy1,hy2⟩:=info_parts intInfo;have hk3:(k:Int)<3:=by omega
 have hk0:¬ (k:Int)<0:=by omega
 have cA:wr.cell? ⟨b,11+k,none⟩=some (.pointer (some ⟨ba,0,none⟩)):=(hst.cellA h3).trans (congrArg some ep);obtain ⟨lv,hrow,hfa,how⟩:=hst.askc h3 ho ep;have Hne:=Lib.hid (hst.ask_ne hfa);have Ha:=Lib.hid (hIn.ask k a ho);have Ho:=Lib.hid ho;have Ep:=Lib.hid ep;have Hrow:=Lib.hid hrow;have How:=Lib.hid how;have k0:wr.cell? ⟨ba,0,none⟩=some (.int .i64 a.kind):=cell_of_row _ _ 0 _ _ _ hrow;have p1:wr.cell? ⟨ba,1,none⟩=some (.int .i64 a.pos):=cell_of_row _ _ 1 _ _ _ hrow;have c2:wr.cell? ⟨b,2,none⟩=some y.bufs:=hst.cell 2
 have hgg:∃ g,getB t.bufs a.pos=g:=⟨_,rfl⟩
 obtain ⟨g,hg⟩:=hgg;have Hg:=Lib.hid hg;have Hfb:Hid (Fl col1 b):=show _∧_ from ⟨by rw [hst.cb]; decide,by rw [hst.cb]; decide⟩;have Hln:Hid (t.bufs.length≤65536):=show _≤_ by have:=hIn.len8; omega
 have Hlo:Hid (0≤a.pos∧a.pos<32):=show _∧_ by have:=Ha.out.lo; have:=Ha.out.hi; omega
 obtain ⟨hs,hhs⟩:∃ l,hlOf t=l:=⟨_,rfl⟩
 have hlen:hs.length=32:=hhs▸hlOf_len t;have Hhs:=Lib.hid hhs;have Hlen:=Lib.hid hlen;have hC:=Option.some.inj (Eq.symm hC);subst hC;clear z1 z2 z3 z4 hst hch hrec hIn hu hto hhs hlen ho ep hrow how hfa hg;have Hsv:Hid (t.serve1 k=t.read k a):=show _=_ from serve1_read Ho.out hk1;rw [hk1] at k0;clear hk1;have Hs:Hid ((Tryz.prog.info? 109).map (·.size)=some (hs.map Value.bool).length):=show _=_ by rw [List.length_map,Hlen.out]; kernel_rfl
 have Hoc:Hid ((hs.map Value.bool).toArray.all (·.oneCell')=true):=all_oneCell_toArray (fun v hv=>by obtain ⟨s,_,rfl⟩:=List.mem_map.1 hv; rfl);go_wp2_with fail
 obtain ⟨FB,hFB⟩:∃ F:Array Value,F=#[.int .i64 g.1.pos,.string g.1.data,.bool g.1.dirty,.int .i64 g.1.used]:=⟨_,rfl⟩
 refine wp_region_ev mixed [(33,fun v _=>v=(.pointer (some ⟨b,0,none⟩))),(34,fun v _=>v=(.pointer (some ⟨b,0,none⟩))),(35,fun v _=>v=(.pointer (some ⟨b,2,none⟩))),(36,fun v _=>v=y.bufs),(37,fun v _=>v=(.pointer (some ⟨ba,0,none⟩))),(38,fun v _=>v=(.pointer (some ⟨ba,0,none⟩))),(39,fun v _=>v=(.pointer (some ⟨ba,1,none⟩))),(40,fun v _=>v=(.int .i64 a.pos)),(41,fun v _=>v=(.tuple #[.agg #[.int .i64 g.1.pos,.string g.1.data,.bool g.1.dirty,.int .i64 g.1.used],.bool g.2])),(32,fun v _=>v=(.tuple #[.agg #[.int .i64 g.1.pos,.string g.1.data,.bool g.1.dirty,.int .i64 g.1.used],.bool g.2])),(42,fun v _=>v=(.agg #[.int .i64 g.1.pos,.string g.1.data,.bool g.1.dirty,.int .i64 g.1.used])),(43,fun v _=>v=(.bool g.2)),(4,BxF 107 FB wr.heap.size),(5,fun v _=>v=(.bool g.2))] (fun u=>Below wr.heap.size wr u) (BR 107 FB wr.heap.size) (BxE 107 FB 13) (by as_aux_lemma=>kernel_rfl) rfl (by decide) (Below.refl _ _).drew ?st33 (fun k vs u u' h hr=>h.step hr) ?steps33 ?fin33;case st33=>repeat' first | exact trivial | exact fun v u u' h hr=>h.step hr | exact fun v u u' h _=>h | refine ⟨?_,?_⟩
 case steps33 =>
  refine ⟨?_,?_,?_,?_,?_,?_,?_,?_,?a33,?_,?_,?_,?b33,?c33,?_,trivial⟩
  case a33 =>
   intro ρ u hp hJ hr;have r1:ρ _=y.bufs:=hr.1;have r2:ρ _=.int .i64 a.pos:=hr.2.1;clear hr;refine gives_enter (f:=60) (args:=#[y.bufs,.int .i64 a.pos]) (w':=u) ?_ ((rget_st HS.out HIn.out _ Hg.out u hJ).mono ?_)
   ·have hpf:=hp.func 60
    go_simp
   rintro e u' ⟨rfl,hb⟩;exact ⟨_,rfl,rfl,hJ.trans (hb.mono hJ.size),BR.below hb,fun h=>absurd h (by decide)⟩
  case b33 =>
   intro ρ u hp hJ hr;clear hr;refine gives_value (v:=.pointer (some ⟨u.heap.size,0,none⟩)) (w':=u.alloc (.cells #[.int .i64 0,.string ⟨#[]⟩,.bool false,.int .i64 0] 107)) ?_ ⟨⟨_,rfl,hJ.size,⟨_,by rw [hFB]; rfl,heap_alloc_new _ _⟩⟩,hJ.trans (((Below.refl _ _).alloc (Nat.le_refl _) _).mono hJ.size),BR.below ((Below.refl _ _).alloc (Nat.le_refl _) _),fun h=>absurd h (by decide)⟩;go_simp
  case c33 =>
   intro ρ u hp hJ hr;obtain ⟨bb,y0,y1,y2,y3,e1,z0,z1,z2,z3,f0,g1,g2,g3⟩:=bx_store hr.1 hFB;have r2:ρ _=.agg #[.int .i64 g.1.pos,.string g.1.data,.bool g.1.dirty,.int .i64 g.1.used]:=hr.2.1;clear hr;refine gives_skip (w':=_) ?_ ⟨trivial,hJ.trans g3,g1,BxE.at e1 rfl g2⟩;clear g1 g2 g3;go_simp
  all_goals
   intro ρ u hp hJ hr;have r1:ρ _=_:=hr.1;clear hr;have d2:=cell_b hJ c2;have d1:=cell_b hJ p1;refine gives_value (v:=_) (w':=u) ?_ ⟨rfl,hJ,BR.refl _,fun h=>absurd h (by decide)⟩;go_simp
 intro f u hF hJ hU hE;have f4:BxF 107 FB wr.heap.size (f 4) u:=hF.2.2.2.2.2.2.2.2.2.2.2.2.1;have f5:f 5=.bool g.2:=hF.2.2.2.2.2.2.2.2.2.2.2.2.2.1;obtain ⟨bb,e6,hbb,hbz⟩:=f4;have hbx:u.heap[bb]?=some (.cells FB 107 (0,0)):=hE 13 _ rfl rfl bb (by rw [argsOf_store rfl,e6]; rfl);clear hF hU hE c2 p1;rw [hFB] at hbx;clear hbz hFB FB;have HJ:=Lib.hid hJ;have Hbx:=Lib.hid hbx;have Hbb:=Lib.hid hbb;clear hJ hbx hbb;simp only [laid];have H1:=Lib.hid (HS.out.below HJ.out);go_wp2_with fail;refine (rheld_any col1 u b bd N y t H1.out HIn.out).mono ?_;rintro e u1 ⟨rfl,hb1⟩;rw [Hhs.out];obtain ⟨hbox,hbB⟩:=held_box u1 109 hs Hlen.out;have HT:Hid ((u1.alloc (.cells (hldV (List.replicate 32 false)) 109)).there u1.heap.size 0 (hs.map Value.bool).toArray.size):=show World.there _ _ _ _ from there_of_row (heap_alloc_new _ _) 0 _ (by rw [List.size_toArray,List.length_map,Hlen.out]; decide)
 go_upto_region 8 with (refine wpList_store_mid rfl 109 (.tmp 6) (.tmp 45) rfl u1.heap.size 0 (hs.map Value.bool).toArray rfl rfl HT.out (by rw [List.size_toArray]; exact Hs.out) Hoc.out ?_; generalize hW2:World.setCells _ _ _ _=W2)
 have hW2:(u1.alloc (.cells (hldV (List.replicate 32 false)) 109)).setCells u1.heap.size 0 (hs.map .bool)=W2:=hW2;rw [hW2] at hbox hbB;have hB2:=HJ.out.trans ((hb1.trans (hbB.mono hb1.size)).mono HJ.out.size);have H2:=Lib.hid (HS.out.below hB2);have HK2:Hid (Chg (Fl col1) wr W2):=show Chg _ _ _ from Chg.of_below hB2;have Hbx2:=Lib.hid ((hb1.trans (hbB.mono hb1.size)).block _ (Array.getElem?_eq_some_iff.1 Hbx.out).1 |>.trans Hbx.out);have Hr2:=Lib.hid ((hB2.block _ (Array.getElem?_eq_some_iff.1 Hrow.out).1).trans Hrow.out);have Hbo:=Lib.hid hbox;clear hbox hbB hW2 hb1 hB2 HT
 cases hgt:g.2 with
 |true =>
  rw [hgt] at f5;have Hrd:Hid (t.read k a=({ t with use:=t.use+1,bufs:=useB t.bufs a.pos (t.use+1) }:St).answer k g.1.data 0):=show _=_ by unfold St.read; rw [Hg.out,hgt,if_pos rfl]
  have c9:W2.cell? ⟨b,9,none⟩=some (.int .i64 t.use):=H2.out.cell 9;have f9:=H2.out.frozen 9;have hw:IntKind.i64.wrap (t.use+1)=t.use+1:=by have:=Hu.out; rw [IntKind.wrap_i64]; omega
  clear hgt;go_wp2_with fail;have hS4:=(Same1.refl (b:=b) (w:=W2)).setCell 9 (.int .i64 (t.use+1));have H4:=Lib.hid (H2.out.used hS4 (n:=t.use+1) (heap_setCell_same _ _ 9 _ _ _ H2.out.row));have HK4:=Lib.hid (HK2.out.two (hS4.chg Hfb.out));have hbb:bb≠b:=by have:=Hbb.out; have:=HS.out.bl; omega
  have Hbx4:=Lib.hid ((hS4.block bb hbb).trans Hbx2.out);have p1:(W2.setCell ⟨b,9,none⟩ (.int .i64 (t.use+1))).cell? ⟨ba,1,none⟩=some (.int .i64 a.pos):=cell_of_row _ _ 1 _ _ _ ((hS4.block ba Hne.out).trans Hr2.out);have Hbb2:=Lib.hid hbb;clear hS4 c9 f9 hw hbb;generalize W2.setCell ⟨b,9,none⟩ (.int .i64 (t.use+1))=W4 at H4 HK4 Hbx4 p1 ⊢;have c2:W4.cell? ⟨b,2,none⟩=some y.bufs:=H4.out.cell 2;have c9:W4.cell? ⟨b,9,none⟩=some (.int .i64 (t.use+1)):=H4.out.cell 9;refine wp_region_tail (n:=16) 1000 [] [] mixed [(54,fun v _=>v=(.pointer (some ⟨b,0,none⟩))),(55,fun v _=>v=(.pointer (some ⟨b,0,none⟩))),(56,fun v _=>v=(.pointer (some ⟨b,0,none⟩))),(57,fun v _=>v=(.pointer (some ⟨b,2,none⟩))),(58,fun v _=>v=y.bufs),(59,fun v _=>v=(.pointer (some ⟨ba,0,none⟩))),(60,fun v _=>v=(.pointer (some ⟨ba,0,none⟩))),(61,fun v _=>v=(.pointer (some ⟨ba,1,none⟩))),(62,fun v _=>v=(.int .i64 a.pos)),(63,fun v _=>v=(.pointer (some ⟨b,0,none⟩))),(64,fun v _=>v=(.pointer (some ⟨b,0,none⟩))),(65,fun v _=>v=(.pointer (some ⟨b,9,none⟩))),(66,fun v _=>v=(.int .i64 (t.use+1))),(67,(fun v u=>u.ownsRow W4.heap.size 107 4 v (useB t.bufs a.pos (t.use+1)).length (flatB (useB t.bufs a.pos (t.use+1))))),(68,fun v _=>v=(.pointer (some ⟨b,0,none⟩))),(69,fun v _=>v=(.pointer (some ⟨b,2,none⟩)))] (fun u=>Below W4.heap.size W4 u) (fun _ u u'=>Below u.heap.size u u') (by as_aux_lemma=>kernel_rfl) rfl rfl rfl (by as_aux_lemma=>kernel_rfl) rfl (by decide) (by as_aux_lemma=>kernel_rfl) (by as_aux_lemma=>kernel_rfl) (Below.refl _ _).drew ?st10 ?sm10 ?steps10 ?fin10;case st10=>exact fun i hi=>by repeat' first | exact trivial | exact fun v u u' h hr=>own_below h hr | exact fun v u u' h _=>h | refine ⟨?_,?_⟩
  case sm10=>repeat' first | exact trivial | exact .inr (fun v u u' h hr=>own_below h hr) | exact .inr (fun v u u' h _=>h) | refine ⟨?_,?_⟩
  case steps10 =>
   refine ⟨?_,?_,?_,?_,?_,?_,?_,?_,?_,?_,?_,?_,?_,?a10,?_,?_,trivial⟩
   case a10 =>
    intro ρ u hp hJ hr;have r1:ρ _=y.bufs:=hr.1;have r2:ρ _=.int .i64 a.pos:=hr.2.1;have r3:ρ _=.int .i64 (t.use+1):=hr.2.2.1;clear hr;refine gives_enter (f:=102) (args:=#[y.bufs,.int .i64 a.pos,.int .i64 (t.use+1)]) (w':=u) ?_ ((ruse_any (Im u col1) t.bufs y.bufs a.pos (t.use+1) u (H4.out.below hJ).bufs Hln.out).mono ?_)
    ·have hpf:=hp.func 102
     go_simp
    rintro e u' ⟨v2,rfl,ho2,hb2⟩;exact ⟨_,rfl,own_lo ho2 hJ.size,hJ.trans (hb2.mono hJ.size),hb2⟩
   all_goals
    intro ρ u hp hJ hr;have r1:ρ _=_:=hr.1;clear hr;have d1:=cell_b hJ c2;have d2:=cell_b hJ p1;have d3:=cell_b hJ c9;refine gives_value (v:=_) (w':=u) ?_ ⟨rfl,hJ,Below.refl _ _⟩;go_simp
  case fin10 =>
   intro f ρ u hF hJ hU hp hρ;have f69:f 69=.pointer (some ⟨b,2,none⟩):=(hF.2.2.2.2.2.2.2.2.2.2.2.2.2.2.2.1).resolve_left (by simp);have f67:u.ownsRow W4.heap.size 107 4 (f 67) (useB t.bufs a.pos (t.use+1)).length (flatB (useB t.bufs a.pos (t.use+1))):=(hF.2.2.2.2.2.2.2.2.2.2.2.2.2.1).resolve_left (by simp);obtain ⟨A2,n2,m2,e2,en⟩:=own_slice' f67;rw [e2,← en] at f67;have q1:ρ (.tmp 69)=.pointer (some ⟨b,2,none⟩):=(hρ 69).trans f69;have q2:ρ (.tmp 67)=.slice A2 n2 m2:=(hρ 67).trans e2;have H5:=Lib.hid (H4.out.below hJ);have HB5:=Lib.hid hJ;have q3:u.cell? ⟨b,2,none⟩=some y.bufs:=H5.out.cell 2;have q4:=H5.out.frozen 2;have Ho2:=Lib.hid f67;have Hen:=Lib.hid en;clear hF hU hp hρ f69 f67 hJ en e2;refine gives_skip (w':=u.setCell ⟨b,2,none⟩ (.slice A2 n2 m2)) (by go_simp) ?_;simp only [laid,List.take_succ_cons,List.take_zero];have hS5:=(Same1.refl (b:=b) (w:=u)).setCell 2 (.slice A2 n2 m2);have hv5:BufsAt (S0 col1) u (.slice A2 n2 m2) (useB t.bufs a.pos (t.use+1)):=bufs_of_own (fun k hk=>H4.out.s0 k hk) (Hen.out▸Ho2.out) ((HIn.out.useB a.pos (t.use+1) (by omega)).bok (by show t.use+1≤_; have:=Hu.out; omega));have H6:=Lib.hid (H5.out.bufd hS5 hv5 (heap_setCell_same _ _ 2 _ _ _ H5.out.row));have HK6:=Lib.hid ((HK4.out.two (Chg.of_below HB5.out)).two (hS5.chg Hfb.out))
   have k1:(u.setCell ⟨b,2,none⟩ (.slice A2 n2 m2)).cell? ⟨bb,1,none⟩=some (.string g.1.data) :=
    cell_of_row _ _ 1 _ _ _ ((hS5.block bb Hbb2.out).trans ((HB5.out.block _ (Array.getElem?_eq_some_iff.1 Hbx4.out).1).trans Hbx4.out))
   clear hS5 hv5 q1 q2 q3 q4 c2 c9 p1;generalize u.setCell ⟨b,2,none⟩ (.slice A2 n2 m2)=u3 at k1 HK6 H6 ⊢;go_wp2_with fail;refine (ranswer_any col1 u3 b bd N _ _ k g.1.data 0 H6.out h3).mono ?_;rintro e w4 ⟨rfl,hS7,hst7⟩;have Hst7:=Lib.hid hst7;have HK7:=Lib.hid (HK6.out.two (hS7.chg Hfb.out));clear hst7 hS7 k1;go_wp2_with fail;refine HT.out _ _ rfl rfl rfl (by first | rfl | go_num) ?_;rw [Hsv.out,Hrd.out];exact A5.to HC.out HR.out Hst7.out HK7.out
 |false =>
  rw [hgt] at f5;have Hrd:Hid (t.read k a=if t.heldP a.pos then t else (t.queue false a.pos noB).1):=show _=_ by unfold St.read; rw [Hg.out,hgt]; rfl
  have hp0:¬ a.pos<0:=by have:=Hlo.out; omega
  have hp32:a.pos<32:=Hlo.out.2;have p1:W2.cell? ⟨ba,1,none⟩=some (.int .i64 a.pos):=cell_of_row _ _ 1 _ _ _ Hr2.out
  have ch:W2.cell? ⟨u1.heap.size,a.pos.toNat,none⟩=some (.bool (t.heldP a.pos)):=by
   rw [cell_of_row _ _ _ _ _ _ Hbo.out,hldV_get Hlen.out (by have:=Hlo.out; omega),Int.toNat_of_nonneg Hlo.out.1,← Hhs.out,hlOf_at t Hlo.out.1 (by have:=Hlo.out; omega)]
  clear hgt
  cases hh:t.heldP a.pos with
  |true =>
   have Hh:=Lib.hid hh;rw [hh] at ch;clear hh;go_wp2_with fail;refine HT.out _ _ rfl rfl rfl (by first | rfl | go_num) ?_;rw [Hsv.out,Hrd.out,Hh.out,if_pos rfl];exact A5.to HC.out HR.out H2.out HK2.out
  |false =>
   have Hh:=Lib.hid hh;rw [hh] at ch;clear hh;go_wp2_with fail;refine (rqueue_any col1 W2 b bd N y t false a.pos noB (.slice none 0 0) H2.out (good_oks (good_app.1 HIn.out.good).1) HIn.out.wait6 ⟨Hu.out.2.2.1,by have:=Hu.out; omega⟩ HIn.out.now ⟨Ha.out.lo,Ha.out.hi⟩ noB16 ⟨Rd.nil,fun s hs=>by cases hs⟩).mono ?_;rintro e w4 ⟨y4,rfl,hst4,hc4,hav⟩;have Hst4:=Lib.hid hst4;have HK4:=Lib.hid (HK2.out.two (HS.out.chg1 hc4));clear hst4 hc4 hav ch p1;go_wp2_with fail;refine HT.out _ _ rfl rfl rfl (by first | rfl | go_num) ?_;rw [Hsv.out,Hrd.out,Hh.out,if_neg (by decide)];exact A5.to HC.out HR.out Hst4.out HK4.out
end Go.Proofs.YtagndjihiklmiaaGreatDoor
