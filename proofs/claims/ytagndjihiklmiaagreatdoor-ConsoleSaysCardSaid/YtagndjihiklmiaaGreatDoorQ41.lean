/- script.Check: which steps may be. -/
import Derived.Test.YtagndjihiklmiaaGreatDoorQ39
import Derived.Test.YtagndjihiklmiaaGreatDoorQ40
import Derived.Lib.AppendIntMem
import Derived.Lib.AtoiBound
import Derived.Lib.ItoaLen
set_option linter.unusedSimpArgs false
set_option linter.unusedVariables false
set_option maxRecDepth 100000
set_option maxHeartbeats 8000000
namespace Go.Proofs.YtagndjihiklmiaaGreatDoor
open Go.RowKit
structure Stp where
 word:ByteArray
 a:Int
 b:Int
 data:ByteArray
abbrev stpV (z:Stp):Value:=.agg #[.string z.word,.int .i64 z.a,.int .i64 z.b,.string z.data]
def hyphen:ByteArray:=⟨#[45]⟩
def partsB (k:Nat) (z:Stp):Bool:=(k<1 && z.a != 0) || (k<2 && z.b != 0) || (k<3 && !z.data.toList.isEmpty)
def boundB (z:Stp):Bool:=decide (z.a<0) || decide (999<z.a) || decide (z.b<0) || decide (999<z.b) || decide (9<(z.data.size:Int))
def checkM (z:Stp):Nat:=match formK z.word with
 |none=>3
 |some k=>if partsB k z then 3 else if boundB z then 1 else if blankB z.data || z.data.toList == [45] then 3 else 0
structure StpBox (T:TypeId) (b:Nat) (z:Stp) (w W:World):Prop where
 bel:Below w.heap.size w W
 lo:w.heap.size≤b
 hi:b<W.heap.size
 row:W.heap[b]?=some (.cells #[.string z.word,.int .i64 z.a,.int .i64 z.b,.string z.data] T (0,0))
theorem StpBox.new (T:TypeId) (z:Stp) (w:World):StpBox T w.heap.size z w (w.alloc (.cells #[.string z.word,.int .i64 z.a,.int .i64 z.b,.string z.data] T)) :=
 ⟨(Below.refl _ _).alloc (Nat.le_refl _) _,Nat.le_refl _,by simp,heap_alloc_new w _⟩
theorem StpBox.step {T:TypeId} {b:Nat} {z:Stp} {w W W':World} (h:StpBox T b z w W) (hb:Below W.heap.size W W'):StpBox T b z w W' :=
 ⟨h.bel.trans (hb.mono h.bel.size),h.lo,Nat.lt_of_lt_of_le h.hi hb.size,(hb.block _ h.hi).trans h.row⟩
theorem StpBox.c {T:TypeId} {b:Nat} {z:Stp} {w W:World} (h:StpBox T b z w W):W.cell? ⟨b,0,none⟩=some (.string z.word)∧W.cell? ⟨b,1,none⟩=some (.int .i64 z.a)∧W.cell? ⟨b,2,none⟩=some (.int .i64 z.b)∧W.cell? ⟨b,3,none⟩=some (.string z.data) :=
 ⟨cell_of_row _ _ 0 _ _ _ h.row,cell_of_row _ _ 1 _ _ _ h.row,cell_of_row _ _ 2 _ _ _ h.row,cell_of_row _ _ 3 _ _ _ h.row⟩
theorem contains1 (s:ByteArray) (c:UInt8) (r:Bool) (h:decide (0≤Lib.indexByte s.data.toList c)=r) (w:World):Calls Tryz.prog 75 #[.string s,.string ⟨#[c]⟩] w (RetSame (.bool r) w) :=
 (Tryz.strings_Contains_one s c w).mono fun e w' ⟨h1,h2⟩=>⟨by rw [h1,h],h2.symm⟩
theorem formT_none {s:ByteArray} (h:formK s=none):formT s=.tuple #[.string ⟨#[]⟩,.bool false]:=by unfold formT; rw [h]
theorem formT_some {s:ByteArray} {k:Nat} (h:formK s=some k):formT s=.tuple #[.string ⟨(formS k).toArray⟩,.bool true]:=by unfold formT; rw [h]
theorem empty_of {s:ByteArray} (h:s.toList.isEmpty=true):s=⟨#[]⟩:=by
 rw [ByteArray.toList_eq] at h;obtain ⟨⟨l⟩⟩:=s
 cases l with
 |nil=>rfl
 |cons _ _=>simp at h
theorem checks_any (z:Stp) (w:World) (hs:z.word.size≤maxLen):Calls Tryz.prog 40 #[stpV z] w (Ret (errV (checkM z)) w):=by
 rcases hk:formK z.word with _ | k;have hT:=formT_none hk;have hm:checkM z=3:=by unfold checkM; rw [hk]
 rw [hm];clear hm;rotate_left;have hT:=formT_some hk;have h3:=formK_le hk;rcases (by omega:k=0∨k=1∨k=2∨k=3) with rfl | rfl | rfl | rfl;change formT z.word=.tuple #[.string ⟨#[]⟩,.bool true] at hT;rcases Bool.eq_false_or_eq_true (z.a != 0) with ha | ha;have hm:checkM z=3:=by unfold checkM; rw [hk]; simp [partsB,boundB,ha]
 rw [hm];clear hm;rotate_left;rcases Bool.eq_false_or_eq_true (z.b != 0) with hb0 | hb0;have hm:checkM z=3:=by unfold checkM; rw [hk]; simp [partsB,boundB,ha,hb0]
 rw [hm];clear hm;rotate_left;rcases (Bool.eq_false_or_eq_true z.data.toList.isEmpty).symm with hd | hd;have hm:checkM z=3:=by unfold checkM; rw [hk]; simp [partsB,boundB,ha,hb0,hd]
 rw [hm];clear hm;rotate_left;have hz:z.data.size≤9:=by rw [empty_of hd]; decide
 have hB:blankB z.data=false:=by rw [empty_of hd]; rfl
 have hq:(z.data.toList == [45])=false:=by rw [empty_of hd,ByteArray.toList_eq]; rfl
 have e5:decide (9<(z.data.size:Int))=false:=by rw [empty_of hd]; rfl
 have hb9:z.b=0:=by simpa using hb0
 have e3:decide (z.b<0)=false:=by rw [hb9]; rfl
 have e4:decide (999<z.b)=false:=by rw [hb9]; rfl
 clear hb9;have ha9:z.a=0:=by simpa using ha
 have e1:decide (z.a<0)=false:=by rw [ha9]; rfl
 have e2:decide (999<z.a)=false:=by rw [ha9]; rfl
 clear ha9;have hm:checkM z=0:=by unfold checkM; rw [hk]; simp [partsB,boundB,ha,hb0,hd,e5,e3,e4,e1,e2,hB,hq]
 rw [hm];clear hm;rotate_left;change formT z.word=.tuple #[.string ⟨#[97]⟩,.bool true] at hT;rcases Bool.eq_false_or_eq_true (z.b != 0) with hb0 | hb0;have hm:checkM z=3:=by unfold checkM; rw [hk]; simp [partsB,boundB,hb0]
 rw [hm];clear hm;rotate_left;rcases (Bool.eq_false_or_eq_true z.data.toList.isEmpty).symm with hd | hd;have hm:checkM z=3:=by unfold checkM; rw [hk]; simp [partsB,boundB,hb0,hd]
 rw [hm];clear hm;rotate_left;have hz:z.data.size≤9:=by rw [empty_of hd]; decide
 have hB:blankB z.data=false:=by rw [empty_of hd]; rfl
 have hq:(z.data.toList == [45])=false:=by rw [empty_of hd,ByteArray.toList_eq]; rfl
 have e5:decide (9<(z.data.size:Int))=false:=by rw [empty_of hd]; rfl
 have hb9:z.b=0:=by simpa using hb0
 have e3:decide (z.b<0)=false:=by rw [hb9]; rfl
 have e4:decide (999<z.b)=false:=by rw [hb9]; rfl
 clear hb9;rcases Bool.eq_false_or_eq_true (decide (z.a<0)) with e1 | e1;have hm:checkM z=1:=by unfold checkM; rw [hk]; simp [partsB,boundB,hb0,hd,e5,e3,e4,e1]
 rw [hm];clear hm;rotate_left;rcases Bool.eq_false_or_eq_true (decide (999<z.a)) with e2 | e2;have hm:checkM z=1:=by unfold checkM; rw [hk]; simp [partsB,boundB,hb0,hd,e5,e3,e4,e1,e2]
 rw [hm];clear hm;rotate_left;have hm:checkM z=0:=by unfold checkM; rw [hk]; simp [partsB,boundB,hb0,hd,e5,e3,e4,e1,e2,hB,hq]
 rw [hm];clear hm;rotate_left;change formT z.word=.tuple #[.string ⟨#[97,98]⟩,.bool true] at hT;rcases (Bool.eq_false_or_eq_true z.data.toList.isEmpty).symm with hd | hd;have hm:checkM z=3:=by unfold checkM; rw [hk]; simp [partsB,boundB,hd]
 rw [hm];clear hm;rotate_left;have hz:z.data.size≤9:=by rw [empty_of hd]; decide
 have hB:blankB z.data=false:=by rw [empty_of hd]; rfl
 have hq:(z.data.toList == [45])=false:=by rw [empty_of hd,ByteArray.toList_eq]; rfl
 have e5:decide (9<(z.data.size:Int))=false:=by rw [empty_of hd]; rfl
 rcases Bool.eq_false_or_eq_true (decide (z.a<0)) with e1 | e1;have hm:checkM z=1:=by unfold checkM; rw [hk]; simp [partsB,boundB,hd,e5,e1]
 rw [hm];clear hm;rotate_left;rcases Bool.eq_false_or_eq_true (decide (999<z.a)) with e2 | e2;have hm:checkM z=1:=by unfold checkM; rw [hk]; simp [partsB,boundB,hd,e5,e1,e2]
 rw [hm];clear hm;rotate_left;rcases Bool.eq_false_or_eq_true (decide (z.b<0)) with e3 | e3;have hm:checkM z=1:=by unfold checkM; rw [hk]; simp [partsB,boundB,hd,e5,e1,e2,e3]
 rw [hm];clear hm;rotate_left;rcases Bool.eq_false_or_eq_true (decide (999<z.b)) with e4 | e4;have hm:checkM z=1:=by unfold checkM; rw [hk]; simp [partsB,boundB,hd,e5,e1,e2,e3,e4]
 rw [hm];clear hm;rotate_left;have hm:checkM z=0:=by unfold checkM; rw [hk]; simp [partsB,boundB,hd,e5,e1,e2,e3,e4,hB,hq]
 rw [hm];clear hm;rotate_left;change formT z.word=.tuple #[.string ⟨#[97,98,100]⟩,.bool true] at hT;rcases Bool.eq_false_or_eq_true (decide (z.a<0)) with e1 | e1;have hm:checkM z=1:=by unfold checkM; rw [hk]; simp [partsB,boundB,e1]
 rw [hm];clear hm;rotate_left;rcases Bool.eq_false_or_eq_true (decide (999<z.a)) with e2 | e2;have hm:checkM z=1:=by unfold checkM; rw [hk]; simp [partsB,boundB,e1,e2]
 rw [hm];clear hm;rotate_left;rcases Bool.eq_false_or_eq_true (decide (z.b<0)) with e3 | e3;have hm:checkM z=1:=by unfold checkM; rw [hk]; simp [partsB,boundB,e1,e2,e3]
 rw [hm];clear hm;rotate_left;rcases Bool.eq_false_or_eq_true (decide (999<z.b)) with e4 | e4;have hm:checkM z=1:=by unfold checkM; rw [hk]; simp [partsB,boundB,e1,e2,e3,e4]
 rw [hm];clear hm;rotate_left;rcases Bool.eq_false_or_eq_true (decide (9<(z.data.size:Int))) with e5 | e5;have hm:checkM z=1:=by unfold checkM; rw [hk]; simp [partsB,boundB,e1,e2,e3,e4,e5]
 rw [hm];clear hm;rotate_left;have hz:z.data.size≤9:=by have:=of_decide_eq_false e5; omega
 cases hB:blankB z.data
 rcases Bool.eq_false_or_eq_true (z.data.toList == [45]) with hq | hq;have hm:checkM z=3:=by unfold checkM; rw [hk]; simp [partsB,boundB,e1,e2,e3,e4,e5,hB,hq]
 rw [hm];clear hm;rotate_left;have hm:checkM z=0:=by unfold checkM; rw [hk]; simp [partsB,boundB,e1,e2,e3,e4,e5,hB,hq]
 rw [hm];clear hm;rotate_left;have hm:checkM z=3:=by unfold checkM; rw [hk]; simp [partsB,boundB,e1,e2,e3,e4,e5,hB]
 rw [hm];clear hm;rotate_left
 all_goals
  go_enter Tryz.func40,Tryz.ntmps40;go_wp2_with fail;have B:=StpBox.new 42 z w;generalize World.alloc _ _=W at B ⊢;generalize w.heap.size=bb at B ⊢;refine (form_any z.word W hs).mono ?_;rintro e w1 ⟨rfl,hb1⟩;rw [hT];have B1:=B.step hb1;obtain ⟨c0,c1,c2,c3⟩:=B1.c;have HB:=Lib.hid B1;clear B B1 hb1;go_wp2_with (first | (go_at_call 75; (first | (refine (contains1 _ _ true (by decide) _).mono ?_) | (refine (contains1 _ _ false (by decide) _).mono ?_)); rintro e w2 ⟨rfl,rfl⟩))
  first
   |(go_ret
     exact ⟨rfl,HB.out.bel⟩)
   |(refine (cany_any z.data w1 hz).mono ?_
     rintro e w2 ⟨rfl,hb2⟩;have B2:=HB.out.step hb2;obtain ⟨d0,d1,d2,d3⟩:=B2.c;have HB2:=Lib.hid B2;clear B2 hb2 c0 c1 c2 c3;rw [hB];go_wp2;go_ret
     exact ⟨rfl,HB2.out.bel⟩)
end Go.Proofs.YtagndjihiklmiaaGreatDoor
namespace Go.Proofs.YtagndjihiklmiaaGreatDoor
open Go.RowKit
structure Env (w:World):Prop where
 max:∃ m,w.cell? ⟨0,0,none⟩=some (.int .i64 m)
 tab:Lib.TabIs Tryz.prog w "internal/strconv.uint64pow10" .u64 Lib.pow10Tab
 syn:∃ tp p,w.var? Tryz.prog "strconv.ErrSyntax" = some #[.iface tp p]
 rng:∃ tp p,w.var? Tryz.prog "strconv.ErrRange" = some #[.iface tp p]
theorem var_below {P:Program} {w w':World} {n:String} {cs:Array Value} (h:w.var? P n=some cs) (hb:Below w.heap.size w w'):w'.var? P n=some cs:=by
 unfold World.var? at *
 cases hg:P.globalNamed n with
 |none=>simp [hg] at h
 |some g =>
  simp only [hg,Option.bind_some] at h ⊢
  have hlt:g<w.heap.size:=by
   rcases Nat.lt_or_ge g w.heap.size with h' | h'
   ·exact h'
   ·simp [Array.getElem?_eq_none h'] at h
  rw [hb.block _ hlt];exact h
theorem Env.below {w w':World} (h:Env w) (hb:Below w.heap.size w w'):Env w':=by
 obtain ⟨⟨m,h1⟩,h2,⟨t3,p3,h3⟩,⟨t4,p4,h4⟩⟩:=h;refine ⟨⟨m,?_⟩,var_below h2 hb,⟨t3,p3,var_below h3 hb⟩,⟨t4,p4,var_below h4 hb⟩⟩
 have hlt:0<w.heap.size:=by
  rcases Nat.lt_or_ge 0 w.heap.size with h' | h'
  ·exact h'
  ·simp [World.cell?,Array.getElem?_eq_none h'] at h1
 exact (hb.cell (p:=⟨0,0,none⟩) hlt).trans h1
def itoaB (n:Int):ByteArray:=⟨(Lib.itoa n).toArray⟩
theorem itoa_any (n:Int) (w:World) (h0 : -9223372036854775808≤n) (h1:n≤9223372036854775807) (hE:Env w) :
  Calls Tryz.prog 51 #[.int .i64 n] w (Ret (.string (itoaB n)) w) :=
 (Tryz.strconv_Itoa n h0 h1 w hE.tab).mono fun e w' ⟨he,k,os,hw⟩=>⟨he,by rw [hw]; exact Lib.below_grow _ _ (Nat.le_refl _) _ _⟩
def atoiM (s:ByteArray):Option Int:=match Lib.atoiAll s.data.toList with
 |.ok v=>some v
 |_=>none
theorem atoiM_bounds {s:ByteArray} {v:Int} (h:atoiM s=some v) : -9223372036854775808≤v∧v≤9223372036854775807:=by
 unfold atoiM at h
 split at h
 ·rename_i v' hv
  cases h
  exact Lib.atoiAll_bounds hv
 ·cases h
def RetAtoi (s:ByteArray) (w:World):Ending→World→Prop:=fun e w'=>Below w.heap.size w w'∧∃ n x,e=.returned (.tuple #[.int .i64 n,x])∧match atoiM s with
 |some v=>n=v∧x=.nilIface
 |none=>∃ t p,x=.iface t p
theorem atoi_any (s:ByteArray) (w:World) (hs:s.size≤281474976710656) (hE:Env w):Calls Tryz.prog 74 #[.string s] w (RetAtoi s w):=by
 unfold RetAtoi
 cases h:Lib.atoiAll s.data.toList with
 |ok v =>
  refine (Tryz.strconv_Atoi_ok s (by omega) v h w).mono ?_;rintro e w' ⟨rfl,hw⟩;have e1:atoiM s=some v:=by unfold atoiM; rw [h]
  rw [e1];refine ⟨?_,v,.nilIface,rfl,rfl,rfl⟩
  rcases hw with rfl | ⟨t,rfl⟩
  ·exact Below.refl _ _
  ·exact Lib.bytesWorld_below _ _ _
 |_ =>
  have e1:atoiM s=none:=by unfold atoiM; rw [h]
  obtain ⟨t3,p3,h3⟩:=hE.syn;obtain ⟨t4,p4,h4⟩:=hE.rng;rw [e1]
  first
   |(refine (Any.strconv_Atoi_range_var Tryz.laysC172 s hs h t4 p4 w h4).mono ?_
     rintro e w' ⟨N,rfl,_,_,hb⟩
     exact ⟨hb,_,_,rfl,_,_,rfl⟩)
   |(refine (Any.strconv_Atoi_syntax_var Tryz.laysC172 s hs h t3 p3 w h3).mono ?_
     rintro e w' ⟨N,rfl,_,_,hb⟩
     exact ⟨hb,_,_,rfl,_,_,rfl⟩)
end Go.Proofs.YtagndjihiklmiaaGreatDoor

namespace Go.Proofs.YtagndjihiklmiaaGreatDoor
open Go.RowKit Go.Sort
def kindP (b:Bool):ByteArray:=if b then ⟨#[119]⟩ else ⟨#[114]⟩
def itoas (l:List Int) (k:Nat):List ByteArray:=(l.take k).map itoaB
def joinP (xs:List ByteArray) (c:UInt8):ByteArray:=⟨(Lib.join (xs.map (·.data.toList)) [c]).toArray⟩
def textP (r:Rq):ByteArray:=(kindP r.write ++ ((itoaB r.lo ++ ⟨#[43]⟩) ++ itoaB r.many)) ++ ⟨#[35]⟩ ++ joinP (itoas r.tags r.tags.length) 44
theorem itoas_succ {l:List Int} {k:Nat} {x:Int} (h:l[k]?=some x):itoas l (k+1)=itoas l k ++ [itoaB x]:=by
 unfold itoas; rw [List.take_add_one,h]; simp
theorem itoas_len {l:List Int} {k:Nat} (h:k≤l.length):(itoas l k).length=k:=by unfold itoas; simp; omega
theorem ptrInfo:(Tryz.prog.info? 9).map (fun i=>(i.zero,i.size,i.bytes))=some (some (.string ByteArray.empty),1,16):=by kernel_rfl
theorem itoaB_size (n:Int) (h0 : -9223372036854775808≤n) (h1:n≤9223372036854775807):(itoaB n).size≤21:=Lib.itoa_length_le n h0 h1
theorem joinC_len (c:UInt8):∀ (xs:List (List UInt8)) (B:Nat),(∀ x ∈ xs,x.length≤B)→(Lib.join xs [c]).length≤xs.length * (B+1)
 | [],B,_=>by simp [Lib.join,List.intercalate]
 | [a],B,h=>by
  have:=h a (by simp);simp [Lib.join,List.intercalate]; omega
 |a :: b :: r,B,h=>by
  have h1:=h a (by simp);have h2:=joinC_len c (b :: r) B (fun x hx=>h x (by simp at hx ⊢; right; exact hx));have e:Lib.join (a :: b :: r) [c]=a ++ [c] ++ Lib.join (b :: r) [c]:=by simp [Lib.join,List.intercalate]
  rw [e];simp only [List.length_append,List.length_cons,List.length_nil] at h2 ⊢;have:(r.length+1+1) * (B+1)=(r.length+1) * (B+1)+(B+1):=by rw [Nat.succ_mul]
  omega
theorem joinP_size (xs:List ByteArray) (c:UInt8) (B:Nat) (h:∀ x ∈ xs,x.size≤B):(joinP xs c).size≤xs.length * (B+1):=by
 have:=joinC_len c (xs.map (·.data.toList)) B (fun x hx=>by
  obtain ⟨y,hy,rfl⟩:=List.mem_map.1 hx;have:=h y hy
  simpa using this)
 rw [List.length_map] at this;exact this
theorem joinp_own {w:World} {base n cap:Nat} {A:Option Addr} {xs:List ByteArray} (c:UInt8) (hown:w.ownsRow base 9 1 (.slice A n cap) n (xs.map .string)) (hn:xs.length=n) (hl:(joinP xs c).size≤100000) (hN:n≤100000) :
  Calls Tryz.prog 98 #[.slice A n cap,.string ⟨#[c]⟩] w (Ret (.string (joinP xs c)) w):=by
 rcases Nat.eq_zero_or_pos n with h0 | h0
 ·subst h0
  obtain rfl:xs=[]:=List.eq_nil_of_length_eq_zero hn;refine (Tryz.strings_Join_none A cap _ w).mono ?_;rintro e w' ⟨rfl,rfl⟩;exact ⟨rfl,Below.refl _ _⟩
 ·obtain ⟨g,cap',e,hg,hlt,hcap,_⟩:=own_form hown h0
  cases e
  subst hn
  exact (Tryz.strings_Join g 0 _ xs ⟨#[c]⟩ w (fun j x hx=>by
   have:=hown.cells (g:=g) rfl j (.string x) (by rw [List.getElem?_map,hx]; rfl)
   simpa [Go.WideShapes.add_plain] using this) hlt (by omega) hcap (Nat.le_trans (show (Lib.join (xs.map (·.data.toList)) [c]).length≤100000 from hl) (by decide))).mono fun e w' h=>h
theorem textP_size {r:Rq} (h:∀ x ∈ r.tags,-9223372036854775808≤x∧x≤9223372036854775807) (h1 : -9223372036854775808≤r.lo∧r.lo≤9223372036854775807) (h2 : -9223372036854775808≤r.many∧r.many≤9223372036854775807) (ht:r.tags.length≤8):(textP r).size≤300:=by
 have a1:=itoaB_size r.lo h1.1 h1.2;have a2:=itoaB_size r.many h2.1 h2.2
 have a3:=joinP_size (itoas r.tags r.tags.length) 44 21 (fun x hx=>by
  unfold itoas at hx;obtain ⟨y,hy,rfl⟩:=List.mem_map.1 hx;have:=h y (List.mem_of_mem_take hy)
  exact itoaB_size y this.1 this.2)
 rw [itoas_len (Nat.le_refl _)] at a3;have a4:r.tags.length * (21+1)≤8 * 22:=Nat.mul_le_mul ht (Nat.le_refl _);have a5:(kindP r.write).size=1:=by unfold kindP; split <;> rfl
 unfold textP;simp only [ByteArray.size_append,a5];have e1:(⟨#[43]⟩:ByteArray).size=1:=rfl;have e2:(⟨#[35]⟩:ByteArray).size=1:=rfl;omega
theorem textp_any (S:Nat→Prop) (r:Rq) (v:Value) (w:World) (h:ReqAt S w v r) (ht:r.tags.length≤8) (hE:Env w) :
  Calls Tryz.prog 97 #[v,.func (.func 51) #[] #[]] w (Ret (.string (textP r)) w):=by
 obtain ⟨i0,hi0,hz0,hz1,hz2⟩:=info_parts ptrInfo;obtain ⟨Ad,cd,At,ct,rfl,_,hat,_,_,⟨l1,l2⟩,⟨m1,m2⟩,_⟩:=h.opened;have Ht:=Lib.hid hat;have HE:=Lib.hid hE;clear hat h hE;have s1:=itoaB_size r.lo l1 l2;have s2:=itoaB_size r.many m1 m2;have Hl:=Lib.hid (fun w (hE:Env w)=>itoa_any r.lo w l1 l2 hE);have Hm:=Lib.hid (fun w (hE:Env w)=>itoa_any r.many w m1 m2 hE);have hT:Hid (textP r=(kindP r.write ++ ((itoaB r.lo ++ ⟨#[43]⟩) ++ itoaB r.many)) ++ ⟨#[35]⟩ ++ joinP (itoas r.tags r.tags.length) 44):=rfl;generalize textP r=tr at hT ⊢;generalize itoaB r.lo=dl at *;generalize itoaB r.many=dm at *
 cases hw:r.write
 all_goals
  rw [hw] at hT;simp only [kindP,reduceIte,Bool.false_eq_true] at hT;go_enter Tryz.func97,Tryz.ntmps97;go_wp2_with fail;have L:=(Lay.refl w).alloc' w.heap.size #[Value.bool r.write,Value.int IntKind.i64 r.lo,Value.int IntKind.i64 r.many,Value.slice Ad r.data.length cd,Value.slice At r.tags.length ct,Value.int IntKind.i64 r.born] 117 rfl;rw [hw] at L;generalize World.alloc _ _=W at L ⊢;obtain ⟨c0,c1,c2,c3,c4,c5⟩:=L.c6 0 rfl;have c1:=cell_regrown c1;have c2:=cell_regrown c2;have z1:¬ (9223372036854775807<dl.size+1):=by omega
  have z2:¬ (9223372036854775807<dl.size+1+dm.size):=by omega
  have z3:¬ (9223372036854775807<1+(dl.size+1+dm.size)):=by omega
  have HEn:Hid (∀ dq osq,Env (grow (redrawn W dq) osq)):=fun dq osq=>(HE.out.below L.below).below (below_regrown W dq osq)
  refine wp_region_quiet_below mixed (by kernel_rfl) ?_;repeat (quiet_step (first | (go_at_call 51; first | (with_reducible exact Calls.rg (Hl.out _ (HEn.out _ _))) | (with_reducible exact Calls.rg (Hm.out _ (HEn.out _ _))))))
  refine wpQuiet_nil ?_;intro _ hw';obtain ⟨⟨dq,osq⟩,hw''⟩:=hw';subst hw'';have L2:=L.step (below_regrown W dq osq);generalize grow (redrawn W dq) osq=W2 at L2 ⊢;clear c0 c1 c2 c3 c4 c5 L z1 z2 z3;have HL:=Lib.hid L2;obtain ⟨c0,c1,c2,c3,c4,c5⟩:=L2.c6 0 rfl;clear L2;go_wp2_with fail;clear c0 c1 c2 c3 c4 c5;go_loopw [6,28] (fun v i wr=>∃ (k:Nat),k≤r.tags.length∧i=.int .i64 k∧Below W2.heap.size W2 wr∧Hid (wr.ownsRow W2.heap.size 9 1 v k ((itoas r.tags k).map .string))) (fun _ i _=>r.tags.length - (intOf i).toNat)
  case atStart=>exact ⟨0,by omega,rfl,Below.refl _ _,World.ownsRow_nil _ _ _ _⟩
  case round =>
   obtain ⟨k,hk,rfl,hb,HO⟩:=hrel;by_cases hlt:k<r.tags.length
   ·obtain ⟨b,off,rfl,_,_,hc⟩:=((Ht.out.below HL.out.below).below hb).at_ (by omega)
    have hx:r.tags[k]?=some r.tags[k]:=List.getElem?_eq_getElem hlt;obtain ⟨hcell,hx1,hx2⟩:=hc k _ hx;have Hx:=Lib.hid hx;clear hx hc;generalize r.tags[k]=x at *;have hk1:(k:Int)<(r.tags.length:Int):=by omega
    have hds:=itoaB_size x hx1 hx2;have Hd:=Lib.hid (fun w (hE:Env w)=>itoa_any x w hx1 hx2 hE);have Hdec:=Lib.hid (itoas_succ Hx.out);generalize itoaB x=dx at *;go_wp2_with fail;refine (Hd.out _ ((HE.out.below HL.out.below).below hb)).mono ?_;rintro e w1 ⟨rfl,hb1⟩;have hbr:=(Below.refl w1.heap.size w1).alloc (Nat.le_refl _) (Obj.cells #[Value.string dx] 9);have hw1:=hb.trans (hb1.mono hb.size);have hwb:=hw1.trans (hbr.mono hw1.size)
    have hba:=(hb1.trans (hbr.mono hb1.size):Below wr.heap.size wr _)
    have HO1:=Lib.hid (own_keepL HO.out (fun g _ hg=>hba.block g hg));have Hrow:=Lib.hid (rd_row1 w1 (.string dx) 9);have Hwb:=Lib.hid hwb;clear hbr hba hwb;go_wp2_with (at_builtin; refine wpList_append_rd (S:=fun _=>True) _ rfl (.tmp 32) (.tmp 36) _ rfl W2.heap.size 9 i0 _ 1 16 Tryz.underlying22 hi0 hz0 hz1 hz2 rfl (by omega) _ k ((itoas r.tags k).map .string) rfl HO1.out _ 1 _ rfl Hrow.out (fun u hu=>by simp at hu; subst hu; rfl) (by simp only [maxLen]; omega) (by omega) Hwb.out.size ?_; intro v5 w5 hown5 hg5 hat5);have HB5:=Lib.hid (Hwb.out.grown hg5 Hwb.out.size (fun k hk=>(HO1.out.lt k hk).1));have HO5:=Lib.hid hown5;clear hown5 hg5 hat5;go_roundw
    case rel=>exact ⟨k+1,by omega,by go_num,HB5.out,by show World.ownsRow _ _ _ _ _ _ _; rw [Hdec.out,List.map_append]; exact HO5.out⟩
    case measure=>simp [intOf]; omega
   ·obtain rfl:k=r.tags.length:=by omega
    have hj:(joinP (itoas r.tags r.tags.length) 44).size≤400:=by
     have:=joinP_size (itoas r.tags r.tags.length) 44 21 (fun x hx=>by
      unfold itoas at hx;obtain ⟨y,hy,rfl⟩:=List.mem_map.1 hx;have h1:=Ht.out.2 y (List.mem_of_mem_take hy)
      exact itoaB_size y h1.1 h1.2)
     rw [itoas_len (Nat.le_refl _)] at this;have h4:r.tags.length * (21+1)≤8 * 22:=Nat.mul_le_mul ht (Nat.le_refl _);omega
    obtain ⟨A6,c6,rfl⟩:=own_slice HO.out;have Hil:=Lib.hid (itoas_len (l:=r.tags) (Nat.le_refl _));have Hjo:=Lib.hid (fun hN=>joinp_own (44:UInt8) HO.out Hil.out (by omega) hN);have Hj:=Lib.hid hj;generalize joinP (itoas r.tags r.tags.length) 44=JJ at *;have hj2:=Hj.out;have y1:¬ (9223372036854775807<1+(dl.size+1+dm.size)+1):=by omega
    have y2:¬ (9223372036854775807<1+(dl.size+1+dm.size)+1+JJ.size):=by omega
    go_wp2_with fail;refine (Hjo.out (by omega)).mono ?_;rintro e w7 ⟨rfl,hb7⟩;go_wp2_with fail;go_ret;exact ⟨congrArg (fun t=>Ending.returned (Value.string t)) hT.out.symm,HL.out.below.trans (Below.mono (hb.trans (hb7.mono hb.size)) HL.out.size)⟩
def p_okB:ByteArray:=⟨#[111,107]⟩
def p_errB:ByteArray:=⟨#[101,114,114,111,114,32]⟩
def doneB (n:Nat):ByteArray:=if n=0 then p_okB else p_errB ++ itoaB n
def yesB (b:Bool):ByteArray:=if b then ⟨#[121,101,115]⟩ else ⟨#[110,111]⟩
theorem nil_assert (w:World):(Instr.typeAssert .nilIface 25 38 true).run Tryz.prog w=.ok (.tuple #[.int .i64 0,.bool false]) w:=by kernel_rfl
theorem done_any (n:Nat) (w:World) (hn:n≤1000) (hE:Env w):Calls Tryz.prog 41 #[errV n] w (Ret (.string (doneB n)) w):=by
 by_cases h:n=0
 ·subst h
  have e:doneB 0=⟨#[111,107]⟩:=rfl;rw [e,errV_zero];have ha:=nil_assert;go_enter Tryz.func41,Tryz.ntmps41;go_wp2;go_ret;exact ⟨rfl,Below.refl _ _⟩
 ·have e:doneB n=(⟨#[101,114,114,111,114,32]⟩:ByteArray) ++ itoaB n:=by unfold doneB; rw [if_neg h]; rfl
  have hs:=itoaB_size (n:Int) (by omega) (by omega);rw [e,errV_pos h];clear e;have Hi:=Lib.hid (itoa_any (n:Int) w (by omega) (by omega) hE);generalize itoaB (n:Int)=d at *;have z1:¬ (9223372036854775807<6+d.size):=by omega
  go_enter Tryz.func41,Tryz.ntmps41;go_wp2_with fail;refine Hi.out.mono ?_;rintro e w1 ⟨rfl,hb⟩;go_wp2;go_ret;exact ⟨rfl,hb⟩
open Go.Maps Go.WideShapes Go.WideMaps Go.WideElems in
theorem yes_any (b:Bool) (w:World):Calls Tryz.prog 45 #[.bool b] w (Ret (.string (yesB b)) w):=by
 have bl:Keyed Tryz.prog 4:=bool_keyed Tryz.underlying4;have z9:∀ w,(zeroValue 9).run Tryz.prog w=.ok (.string ⟨#[]⟩) w:=fun w=>by kernel_rfl
 have hmm:=@run_makeMap Tryz.prog;have hb0:RowKit.Below w.heap.size w (w.alloc (.map #[] 0)):=(RowKit.Below.refl _ _).alloc (Nat.le_refl _) _;have g0:=World.ownsMap_made (H:=Unit) w Tryz.prog 4 (plainElem Tryz.prog 9);generalize hw0:w.alloc (.map #[] 0)=w0 at hb0 g0;have e0:plainElem (H:=Unit) Tryz.prog 9 (.string ⟨#[110,111]⟩)=some (.lit (.string [110,111]),[]):=plainElem_string (s:=⟨#[110,111]⟩) Tryz.underlying9 (by decide);have e1:plainElem (H:=Unit) Tryz.prog 9 (.string ⟨#[121,101,115]⟩)=some (.lit (.string [121,101,115]),[]):=plainElem_string (s:=⟨#[121,101,115]⟩) Tryz.underlying9 (by decide);obtain ⟨w1,r1,g1,t1⟩:=g0.update bl Tryz.underlying156 (by decide) (keyOf_bool_mk Tryz.underlying4 false) e0;have hb1:=hb0.grown t1 hb0.size (fun j hj=>by cases hj; exact Nat.le_refl _);obtain ⟨w2,r2,g2,t2⟩:=g1.update bl Tryz.underlying156 (by decide) (keyOf_bool_mk Tryz.underlying4 true) e1;have hb2:=hb1.grown t2 hb1.size (fun j hj=>by cases hj; exact Nat.le_refl _);obtain ⟨v,ps,rl,hv⟩:=g2.lookup bl Tryz.underlying156 (z9 w2) (plainElem_string (s:=⟨#[]⟩) Tryz.underlying9 (by decide)) (keyOf_bool_mk Tryz.underlying4 b)
 have hD:((((DataW.map []).put (.bool false) (.lit (.string [110,111]))).put (.bool true) (.lit (.string [121,101,115])):DataW Unit).atKey (.bool b) (.lit (.string [])))=.lit (.string (yesB b).data.toList):=by
  cases b <;> kernel_rfl
 have hfin:v=.string (yesB b):=by
  obtain ⟨s',rfl,e2,_⟩:=plainElem_string_inv Tryz.underlying9 hv;have e3:DataW.lit (.string (yesB b).data.toList)=(.lit (.string s'.data.toList):DataW Unit):=hD.symm.trans (congrArg Prod.fst e2);simp only [DataW.lit.injEq,Lit.string.injEq] at e3;exact congrArg Value.string (Go.WideShapes.bytes_inj e3.symm)
 subst hfin;have HB:=Lib.hid hb2;clear hv hD hb0 hb1 hb2 g0 g1 g2 t1 t2 e0 e1;go_enter Tryz.func45,Tryz.ntmps45;go_wp2;go_ret;exact ⟨rfl,HB.out⟩
end Go.Proofs.YtagndjihiklmiaaGreatDoor
namespace Go.Proofs.YtagndjihiklmiaaGreatDoor
open Go.RowKit
inductive Pc | read | write | sync | got | tick | clean | dispatch | end_ | fault | round | settle | queue | busy | dirty | crash | other
 deriving DecidableEq
def pcOf (w:ByteArray):Pc :=
 if w.toList == [114,101,97,100] then .read
 else if w.toList == [119,114,105,116,101] then .write
 else if w.toList == [115,121,110,99] then .sync
 else if w.toList == [103,111,116] then .got
 else if w.toList == [116,105,99,107] then .tick
 else if w.toList == [99,108,101,97,110] then .clean
 else if w.toList == [100,105,115,112,97,116,99,104] then .dispatch
 else if w.toList == [101,110,100] then .end_
 else if w.toList == [102,97,117,108,116] then .fault
 else if w.toList == [114,111,117,110,100] then .round
 else if w.toList == [115,101,116,116,108,101] then .settle
 else if w.toList == [113,117,101,117,101] then .queue
 else if w.toList == [98,117,115,121] then .busy
 else if w.toList == [100,105,114,116,121] then .dirty
 else if w.toList == [99,114,97,115,104] then .crash
 else .other
def Pc.ix:Pc→Nat
 |.read=>0 | .write=>1 | .sync=>2 | .got=>3 | .tick=>4 | .clean=>5 | .dispatch=>6 | .end_=>7 | .fault=>8 | .round=>9 | .settle=>10 | .queue=>11 | .busy=>12 | .dirty=>13 | .crash=>14 | .other=>15
def pws:List (List UInt8):=[[114,101,97,100],[119,114,105,116,101],[115,121,110,99],[103,111,116],[116,105,99,107],[99,108,101,97,110],[100,105,115,112,97,116,99,104],[101,110,100],[102,97,117,108,116],[114,111,117,110,100],[115,101,116,116,108,101],[113,117,101,117,101],[98,117,115,121],[100,105,114,116,121],[99,114,97,115,104]]
def Wd (w:ByteArray):List (List UInt8)→Nat→Prop
 | [],_=>True
 |l :: _,0=>(w.toList == l)=true∧True
 |l :: r,k+1=>(w.toList == l)=false∧Wd w r k
theorem ite_pc {P:Pc→Prop} {c:Prop} [Decidable c] {a b:Pc} (h1:c→P a) (h2:¬ c→P b):P (if c then a else b):=by
 by_cases h:c
 ·rw [if_pos h]; exact h1 h
 ·rw [if_neg h]; exact h2 h
theorem Wd.of {w:ByteArray} {c:Pc} (h:pcOf w=c):Wd w pws c.ix:=by
 subst h;unfold pcOf
 repeat' (refine ite_pc (P:=fun c=>Wd w pws c.ix) (fun h=>?_) (fun h=>?_))
 all_goals
  try simp only [Bool.not_eq_true] at *
  repeat (first | exact trivial | (show _∧_; refine ⟨by assumption,?_⟩))
def p_dashB:ByteArray:=⟨#[45]⟩
def p_waitsB:ByteArray:=⟨#[119,97,105,116,115]⟩
def p_dataB:ByteArray:=⟨#[100,97,116,97,32]⟩
def p_spB:ByteArray:=⟨#[32]⟩
def textsM (l:List Rq):ByteArray:=if l=[] then p_dashB else joinP (l.map textP) 32
def gotM (s:St) (a:Int):ByteArray :=
 if 3≤a then doneB 5 else if (s.askAt a.toNat).isSome then p_waitsB
 else if (s.got a.toNat).2≠0 then doneB (s.got a.toNat).2 else p_dataB ++ (s.got a.toNat).1
def playM (s:St) (z:Stp):St × ByteArray:=match pcOf z.word with
 |.read=>((s.ask z.a 1 z.b noB).1,doneB (s.ask z.a 1 z.b noB).2)
 |.write=>((s.ask z.a 2 z.b z.data).1,doneB (s.ask z.a 2 z.b z.data).2)
 |.sync=>((s.ask z.a 3 0 noB).1,doneB (s.ask z.a 3 0 noB).2)
 |.got=>(s,gotM s z.a)
 |.tick=>(s.tick,p_okB)
 |.clean=>(s.clean.1,yesB s.clean.2)
 |.dispatch=>(s.dispatch.1,yesB s.dispatch.2)
 |.end_=>((s.end_ z.a false).1,doneB (s.end_ z.a false).2)
 |.fault=>((s.end_ z.a true).1,doneB (s.end_ z.a true).2)
 |.round=>(s.round,p_okB)
 |.settle=>((St.settle z.a.toNat s).1,(itoaB ((St.settle z.a.toNat s).2:Nat) ++ p_spB) ++ yesB (St.settle z.a.toNat s).1.quiet)
 |.queue=>(s,textsM s.wait)
 |.busy=>(s,textsM s.v.d.l)
 |.dirty=>(s,itoaB (dirtyB s.bufs:Nat))
 |.crash=>(St.new (s.v.d.crash z.a.toNat),p_okB)
 |.other=>(s,p_okB)
theorem Inv.playM {s:St} (h:Inv s) (z:Stp):Inv (Go.Proofs.YtagndjihiklmiaaGreatDoor.playM s z).1:=by
 unfold Go.Proofs.YtagndjihiklmiaaGreatDoor.playM
 split
 ·exact h.ask_ ..
 ·exact h.ask_ ..
 ·exact h.ask_ ..
 ·exact h
 ·exact h.tick
 ·exact h.clean
 ·exact h.dispatch
 ·exact h.end_ ..
 ·exact h.end_ ..
 ·exact h.round
 ·exact h.settle
 ·exact h
 ·exact h
 ·exact h
 ·exact Inv.new (h.dv.crash _) rfl
 ·exact h
theorem Bd.newB {d:Dv} (hw:d.waits=[]):Bd 0 (St.new d):=⟨Int.le_refl _,Int.le_refl _,by show (d.waits.length:Int)≤0; rw [hw]; exact Int.le_refl _⟩
theorem Bd.playM {K:Int} {s:St} (h:Bd K s) (h0:0≤K) (hI:Inv s) (z:Stp) (ha:z.a≤999):Bd (K+15000) (Go.Proofs.YtagndjihiklmiaaGreatDoor.playM s z).1:=by
 unfold Go.Proofs.YtagndjihiklmiaaGreatDoor.playM
 split
 ·exact (h.ask h0 ..).mono (by omega)
 ·exact (h.ask h0 ..).mono (by omega)
 ·exact (h.ask h0 ..).mono (by omega)
 ·exact h.mono (by omega)
 ·exact (h.tick h0).mono (by omega)
 ·exact h.clean.mono (by omega)
 ·exact h.dispatch.mono (by omega)
 ·exact (h.end_ h0 hI ..).mono (by omega)
 ·exact (h.end_ h0 hI ..).mono (by omega)
 ·exact (h.round h0 hI).mono (by omega)
 ·exact (h.settle h0 hI).mono (by omega)
 ·exact h.mono (by omega)
 ·exact h.mono (by omega)
 ·exact h.mono (by omega)
 ·exact (Bd.newB rfl).mono (by omega)
 ·exact h.mono (by omega)
theorem check_a {z:Stp} (h:checkM z=0):0≤z.a∧z.a≤999:=by
 unfold checkM at h
 split at h
 ·cases h
 ·split at h
  ·cases h
  ·split at h
   ·cases h
   ·rename_i hb
    unfold boundB at hb;simp only [Bool.or_eq_true,decide_eq_true_eq,not_or,Int.not_lt] at hb;omega
end Go.Proofs.YtagndjihiklmiaaGreatDoor
