/- request.Text with strconv.Itoa; player.done, yes, texts. -/
import Derived.Test.YtaeadmlgffaegaaGreatDoorQ41
import Derived.Lib.ItoaLen
import Derived.Test.YtaeadmlgffaegaaGreatDoorQ27
set_option linter.unusedSimpArgs false
set_option linter.unusedVariables false
set_option maxRecDepth 100000
set_option maxHeartbeats 8000000
namespace Go.Proofs.YtaeadmlgffaegaaGreatDoor
open Go.RowKit Go.Sort
def kindP (b:Bool):ByteArray:=if b then ⟨#[119]⟩ else ⟨#[114]⟩
def itoas (l:List Int) (k:Nat):List ByteArray:=(l.take k).map itoaB
def joinP (xs:List ByteArray) (c:UInt8):ByteArray:=⟨(Lib.join (xs.map (·.data.toList)) [c]).toArray⟩
def textP (r:Rq):ByteArray:=(kindP r.write ++ ((itoaB r.lo ++ ⟨#[43]⟩) ++ itoaB r.many)) ++ ⟨#[35]⟩ ++ joinP (itoas r.tags r.tags.length) 44
theorem itoas_succ {l:List Int} {k:Nat} {x:Int} (h:l[k]?=some x):itoas l (k+1)=itoas l k ++ [itoaB x]:=by
 unfold itoas; rw [List.take_add_one,h]; simp
theorem itoas_len {l:List Int} {k:Nat} (h:k≤l.length):(itoas l k).length=k:=by unfold itoas; simp; omega
theorem ptrInfo:(Tryz.prog.info? 9).map (fun i=>(i.zero,i.size,i.bytes))=some (some (.string ByteArray.empty),1,16):=by kernel_rfl
theorem itoaB_size (n:Int) (h0 : -9223372036854775808≤n) (h1:n≤9223372036854775807):(itoaB n).size≤21:=Lib.itoa_length_le n h0 h1
theorem joinC_len (c:UInt8):∀ (xs:List (List UInt8)) (B:Nat),(∀ x ∈ xs,x.length≤B)→(Lib.join xs [c]).length≤xs.length * (B+1)
 | [],B,_=>by simp [Lib.join,List.intercalate]
 | [a],B,h=>by
  have:=h a (by simp)
  simp [Lib.join,List.intercalate]; omega
 |a :: b :: r,B,h=>by
  have h1:=h a (by simp)
  have h2:=joinC_len c (b :: r) B (fun x hx=>h x (by simp at hx ⊢; right; exact hx))
  have e:Lib.join (a :: b :: r) [c]=a ++ [c] ++ Lib.join (b :: r) [c]:=by simp [Lib.join,List.intercalate]
  rw [e]
  simp only [List.length_append,List.length_cons,List.length_nil] at h2 ⊢
  have:(r.length+1+1) * (B+1)=(r.length+1) * (B+1)+(B+1):=by rw [Nat.succ_mul]
  omega
theorem joinP_size (xs:List ByteArray) (c:UInt8) (B:Nat) (h:∀ x ∈ xs,x.size≤B):(joinP xs c).size≤xs.length * (B+1):=by
 have:=joinC_len c (xs.map (·.data.toList)) B (fun x hx=>by
  obtain ⟨y,hy,rfl⟩:=List.mem_map.1 hx
  have:=h y hy
  simpa using this)
 rw [List.length_map] at this
 exact this
theorem joinp_own {w:World} {base n cap:Nat} {A:Option Addr} {xs:List ByteArray} (c:UInt8) (hown:w.ownsRow base 9 1 (.slice A n cap) n (xs.map .string)) (hn:xs.length=n) (hl:(joinP xs c).size≤100000) (hN:n≤100000) :
  Calls Tryz.prog 74 #[.slice A n cap,.string ⟨#[c]⟩] w (Ret (.string (joinP xs c)) w):=by
 rcases Nat.eq_zero_or_pos n with h0 | h0
 ·subst h0
  obtain rfl:xs=[]:=List.eq_nil_of_length_eq_zero hn
  refine (Tryz.strings_Join_none A cap _ w).mono ?_
  rintro e w' ⟨rfl,rfl⟩
  exact ⟨rfl,Below.refl _ _⟩
 ·obtain ⟨g,cap',e,hg,hlt,hcap,_⟩:=own_form hown h0
  cases e
  subst hn
  exact (Tryz.strings_Join g 0 _ xs ⟨#[c]⟩ w (fun j x hx=>by
   have:=hown.cells (g:=g) rfl j (.string x) (by rw [List.getElem?_map,hx]; rfl)
   simpa [Go.WideShapes.add_plain] using this) hlt (by omega) hcap (Nat.le_trans (show (Lib.join (xs.map (·.data.toList)) [c]).length≤100000 from hl) (by decide))).mono fun e w' h=>h
theorem textP_size {r:Rq} (h:∀ x ∈ r.tags,-9223372036854775808≤x∧x≤9223372036854775807) (h1 : -9223372036854775808≤r.lo∧r.lo≤9223372036854775807) (h2 : -9223372036854775808≤r.many∧r.many≤9223372036854775807) (ht:r.tags.length≤8):(textP r).size≤300:=by
 have a1:=itoaB_size r.lo h1.1 h1.2
 have a2:=itoaB_size r.many h2.1 h2.2
 have a3:=joinP_size (itoas r.tags r.tags.length) 44 21 (fun x hx=>by
  unfold itoas at hx
  obtain ⟨y,hy,rfl⟩:=List.mem_map.1 hx
  have:=h y (List.mem_of_mem_take hy)
  exact itoaB_size y this.1 this.2)
 rw [itoas_len (Nat.le_refl _)] at a3
 have a4:r.tags.length * (21+1)≤8 * 22:=Nat.mul_le_mul ht (Nat.le_refl _)
 have a5:(kindP r.write).size=1:=by unfold kindP; split <;> rfl
 unfold textP
 simp only [ByteArray.size_append,a5]
 have e1:(⟨#[43]⟩:ByteArray).size=1:=rfl
 have e2:(⟨#[35]⟩:ByteArray).size=1:=rfl
 omega
theorem textp_any (S:Nat→Prop) (r:Rq) (v:Value) (w:World) (h:ReqAt S w v r) (ht:r.tags.length≤8) (hE:Env w) :
  Calls Tryz.prog 73 #[v,.func (.func 29) #[] #[]] w (Ret (.string (textP r)) w):=by
 obtain ⟨i0,hi0,hz0,hz1,hz2⟩:=info_parts ptrInfo
 obtain ⟨Ad,cd,At,ct,rfl,_,hat,_,_,⟨l1,l2⟩,⟨m1,m2⟩,_⟩:=h.opened
 have Ht:=Lib.hid hat
 have HE:=Lib.hid hE
 clear hat h hE
 have s1:=itoaB_size r.lo l1 l2
 have s2:=itoaB_size r.many m1 m2
 have Hl:=Lib.hid (fun w (hE:Env w)=>itoa_any r.lo w l1 l2 hE)
 have Hm:=Lib.hid (fun w (hE:Env w)=>itoa_any r.many w m1 m2 hE)
 have hT:Hid (textP r=(kindP r.write ++ ((itoaB r.lo ++ ⟨#[43]⟩) ++ itoaB r.many)) ++ ⟨#[35]⟩ ++ joinP (itoas r.tags r.tags.length) 44):=rfl
 generalize textP r=tr at hT ⊢
 generalize itoaB r.lo=dl at *
 generalize itoaB r.many=dm at *
 cases hw:r.write with
 |true =>
  rw [hw] at hT
  have hT:Hid (tr=((⟨#[119]⟩:ByteArray) ++ ((dl ++ ⟨#[43]⟩) ++ dm)) ++ ⟨#[35]⟩ ++ joinP (itoas r.tags r.tags.length) 44):=hT
  go_enter Tryz.func73,Tryz.ntmps73
  go_wp2_with fail
  have L:=(Lay.refl w).alloc' w.heap.size #[Value.bool r.write,Value.int IntKind.i64 r.lo,Value.int IntKind.i64 r.many,Value.slice Ad r.data.length cd,Value.slice At r.tags.length ct,Value.int IntKind.i64 r.born] 123 rfl
  rw [hw] at L
  generalize World.alloc _ _=W at L ⊢
  obtain ⟨c0,c1,c2,c3,c4,c5⟩:=L.c6 0 rfl
  have c1:=cell_regrown c1
  have c2:=cell_regrown c2
  have z1:¬ (9223372036854775807<dl.size+1):=by omega
  have z2:¬ (9223372036854775807<dl.size+1+dm.size):=by omega
  have z3:¬ (9223372036854775807<1+(dl.size+1+dm.size)):=by omega
  have HEn:Hid (∀ dq osq,Env (grow (redrawn W dq) osq)):=fun dq osq=>(HE.out.below L.below).below (below_regrown W dq osq)
  refine wp_region_quiet_below mixed (by kernel_rfl) ?_
  repeat (quiet_step (first | (go_at_call 29; first | (with_reducible exact Calls.rg (Hl.out _ (HEn.out _ _))) | (with_reducible exact Calls.rg (Hm.out _ (HEn.out _ _))))))
  refine wpQuiet_nil ?_
  intro _ hw'
  obtain ⟨⟨dq,osq⟩,hw''⟩:=hw'
  subst hw''
  have L2:=L.step (below_regrown W dq osq)
  generalize grow (redrawn W dq) osq=W2 at L2 ⊢
  clear c0 c1 c2 c3 c4 c5 L z1 z2 z3
  have HL:=Lib.hid L2
  obtain ⟨c0,c1,c2,c3,c4,c5⟩:=L2.c6 0 rfl
  clear L2
  go_wp2_with fail
  clear c0 c1 c2 c3 c4 c5
  go_loopw [6,28] (fun v i wr=>∃ (k:Nat),k≤r.tags.length∧i=.int .i64 k∧Below W2.heap.size W2 wr∧Hid (wr.ownsRow W2.heap.size 9 1 v k ((itoas r.tags k).map .string))) (fun _ i _=>r.tags.length - (intOf i).toNat)
  case atStart=>exact ⟨0,by omega,rfl,Below.refl _ _,World.ownsRow_nil _ _ _ _⟩
  case round =>
   obtain ⟨k,hk,rfl,hb,HO⟩:=hrel
   by_cases hlt:k<r.tags.length
   ·obtain ⟨b,off,rfl,_,_,hc⟩:=((Ht.out.below HL.out.below).below hb).at_ (by omega)
    have hx:r.tags[k]?=some r.tags[k]:=List.getElem?_eq_getElem hlt
    obtain ⟨hcell,hx1,hx2⟩:=hc k _ hx
    have Hx:=Lib.hid hx
    clear hx hc
    generalize r.tags[k]=x at *
    have hk1:(k:Int)<(r.tags.length:Int):=by omega
    have hds:=itoaB_size x hx1 hx2
    have Hd:=Lib.hid (fun w (hE:Env w)=>itoa_any x w hx1 hx2 hE)
    have Hdec:=Lib.hid (itoas_succ Hx.out)
    generalize itoaB x=dx at *
    go_wp2_with fail
    refine (Hd.out _ ((HE.out.below HL.out.below).below hb)).mono ?_
    rintro e w1 ⟨rfl,hb1⟩
    have hbr:=(Below.refl w1.heap.size w1).alloc (Nat.le_refl _) (Obj.cells #[Value.string dx] 9)
    have hw1:=hb.trans (hb1.mono hb.size)
    have hwb:=hw1.trans (hbr.mono hw1.size)
    have hba:=(hb1.trans (hbr.mono hb1.size):Below wr.heap.size wr _)
    have HO1:=Lib.hid (own_keepL HO.out (fun g _ hg=>hba.block g hg))
    have Hrow:=Lib.hid (rd_row1 w1 (.string dx) 9)
    have Hwb:=Lib.hid hwb
    clear hbr hba hwb
    go_wp2_with (at_builtin; refine wpList_append_rd (S:=fun _=>True) _ rfl (.tmp 32) (.tmp 36) _ rfl W2.heap.size 9 i0 _ 1 16 Tryz.underlying121 hi0 hz0 hz1 hz2 rfl (by omega) _ k ((itoas r.tags k).map .string) rfl HO1.out _ 1 _ rfl Hrow.out (fun u hu=>by simp at hu; subst hu; rfl) (by simp only [maxLen]; omega) (by omega) Hwb.out.size ?_; intro v5 w5 hown5 hg5 hat5)
    have HB5:=Lib.hid (Hwb.out.grown hg5 Hwb.out.size (fun k hk=>(HO1.out.lt k hk).1))
    have HO5:=Lib.hid hown5
    clear hown5 hg5 hat5
    go_roundw
    case rel=>exact ⟨k+1,by omega,by go_num,HB5.out,by show World.ownsRow _ _ _ _ _ _ _; rw [Hdec.out,List.map_append]; exact HO5.out⟩
    case measure=>simp [intOf]; omega
   ·obtain rfl:k=r.tags.length:=by omega
    have hj:(joinP (itoas r.tags r.tags.length) 44).size≤400:=by
     have:=joinP_size (itoas r.tags r.tags.length) 44 21 (fun x hx=>by
      unfold itoas at hx
      obtain ⟨y,hy,rfl⟩:=List.mem_map.1 hx
      have h1:=Ht.out.2 y (List.mem_of_mem_take hy)
      exact itoaB_size y h1.1 h1.2)
     rw [itoas_len (Nat.le_refl _)] at this
     have h4:r.tags.length * (21+1)≤8 * 22:=Nat.mul_le_mul ht (Nat.le_refl _)
     omega
    obtain ⟨A6,c6,rfl⟩:=own_slice HO.out
    have Hil:=Lib.hid (itoas_len (l:=r.tags) (Nat.le_refl _))
    have Hjo:=Lib.hid (fun hN=>joinp_own (44:UInt8) HO.out Hil.out (by omega) hN)
    have Hj:=Lib.hid hj
    generalize joinP (itoas r.tags r.tags.length) 44=JJ at *
    have hj2:=Hj.out
    have y1:¬ (9223372036854775807<1+(dl.size+1+dm.size)+1):=by omega
    have y2:¬ (9223372036854775807<1+(dl.size+1+dm.size)+1+JJ.size):=by omega
    go_wp2_with fail
    refine (Hjo.out (by omega)).mono ?_
    rintro e w7 ⟨rfl,hb7⟩
    go_wp2_with fail
    go_ret
    exact ⟨congrArg (fun t=>Ending.returned (Value.string t)) hT.out.symm,HL.out.below.trans (Below.mono (hb.trans (hb7.mono hb.size)) HL.out.size)⟩
 |false =>
  rw [hw] at hT
  have hT:Hid (tr=((⟨#[114]⟩:ByteArray) ++ ((dl ++ ⟨#[43]⟩) ++ dm)) ++ ⟨#[35]⟩ ++ joinP (itoas r.tags r.tags.length) 44):=hT
  go_enter Tryz.func73,Tryz.ntmps73
  go_wp2_with fail
  have L:=(Lay.refl w).alloc' w.heap.size #[Value.bool r.write,Value.int IntKind.i64 r.lo,Value.int IntKind.i64 r.many,Value.slice Ad r.data.length cd,Value.slice At r.tags.length ct,Value.int IntKind.i64 r.born] 123 rfl
  rw [hw] at L
  generalize World.alloc _ _=W at L ⊢
  obtain ⟨c0,c1,c2,c3,c4,c5⟩:=L.c6 0 rfl
  have c1:=cell_regrown c1
  have c2:=cell_regrown c2
  have z1:¬ (9223372036854775807<dl.size+1):=by omega
  have z2:¬ (9223372036854775807<dl.size+1+dm.size):=by omega
  have z3:¬ (9223372036854775807<1+(dl.size+1+dm.size)):=by omega
  have HEn:Hid (∀ dq osq,Env (grow (redrawn W dq) osq)):=fun dq osq=>(HE.out.below L.below).below (below_regrown W dq osq)
  refine wp_region_quiet_below mixed (by kernel_rfl) ?_
  repeat (quiet_step (first | (go_at_call 29; first | (with_reducible exact Calls.rg (Hl.out _ (HEn.out _ _))) | (with_reducible exact Calls.rg (Hm.out _ (HEn.out _ _))))))
  refine wpQuiet_nil ?_
  intro _ hw'
  obtain ⟨⟨dq,osq⟩,hw''⟩:=hw'
  subst hw''
  have L2:=L.step (below_regrown W dq osq)
  generalize grow (redrawn W dq) osq=W2 at L2 ⊢
  clear c0 c1 c2 c3 c4 c5 L z1 z2 z3
  have HL:=Lib.hid L2
  obtain ⟨c0,c1,c2,c3,c4,c5⟩:=L2.c6 0 rfl
  clear L2
  go_wp2_with fail
  clear c0 c1 c2 c3 c4 c5
  go_loopw [6,28] (fun v i wr=>∃ (k:Nat),k≤r.tags.length∧i=.int .i64 k∧Below W2.heap.size W2 wr∧Hid (wr.ownsRow W2.heap.size 9 1 v k ((itoas r.tags k).map .string))) (fun _ i _=>r.tags.length - (intOf i).toNat)
  case atStart=>exact ⟨0,by omega,rfl,Below.refl _ _,World.ownsRow_nil _ _ _ _⟩
  case round =>
   obtain ⟨k,hk,rfl,hb,HO⟩:=hrel
   by_cases hlt:k<r.tags.length
   ·obtain ⟨b,off,rfl,_,_,hc⟩:=((Ht.out.below HL.out.below).below hb).at_ (by omega)
    have hx:r.tags[k]?=some r.tags[k]:=List.getElem?_eq_getElem hlt
    obtain ⟨hcell,hx1,hx2⟩:=hc k _ hx
    have Hx:=Lib.hid hx
    clear hx hc
    generalize r.tags[k]=x at *
    have hk1:(k:Int)<(r.tags.length:Int):=by omega
    have hds:=itoaB_size x hx1 hx2
    have Hd:=Lib.hid (fun w (hE:Env w)=>itoa_any x w hx1 hx2 hE)
    have Hdec:=Lib.hid (itoas_succ Hx.out)
    generalize itoaB x=dx at *
    go_wp2_with fail
    refine (Hd.out _ ((HE.out.below HL.out.below).below hb)).mono ?_
    rintro e w1 ⟨rfl,hb1⟩
    have hbr:=(Below.refl w1.heap.size w1).alloc (Nat.le_refl _) (Obj.cells #[Value.string dx] 9)
    have hw1:=hb.trans (hb1.mono hb.size)
    have hwb:=hw1.trans (hbr.mono hw1.size)
    have hba:=(hb1.trans (hbr.mono hb1.size):Below wr.heap.size wr _)
    have HO1:=Lib.hid (own_keepL HO.out (fun g _ hg=>hba.block g hg))
    have Hrow:=Lib.hid (rd_row1 w1 (.string dx) 9)
    have Hwb:=Lib.hid hwb
    clear hbr hba hwb
    go_wp2_with (at_builtin; refine wpList_append_rd (S:=fun _=>True) _ rfl (.tmp 32) (.tmp 36) _ rfl W2.heap.size 9 i0 _ 1 16 Tryz.underlying121 hi0 hz0 hz1 hz2 rfl (by omega) _ k ((itoas r.tags k).map .string) rfl HO1.out _ 1 _ rfl Hrow.out (fun u hu=>by simp at hu; subst hu; rfl) (by simp only [maxLen]; omega) (by omega) Hwb.out.size ?_; intro v5 w5 hown5 hg5 hat5)
    have HB5:=Lib.hid (Hwb.out.grown hg5 Hwb.out.size (fun k hk=>(HO1.out.lt k hk).1))
    have HO5:=Lib.hid hown5
    clear hown5 hg5 hat5
    go_roundw
    case rel=>exact ⟨k+1,by omega,by go_num,HB5.out,by show World.ownsRow _ _ _ _ _ _ _; rw [Hdec.out,List.map_append]; exact HO5.out⟩
    case measure=>simp [intOf]; omega
   ·obtain rfl:k=r.tags.length:=by omega
    have hj:(joinP (itoas r.tags r.tags.length) 44).size≤400:=by
     have:=joinP_size (itoas r.tags r.tags.length) 44 21 (fun x hx=>by
      unfold itoas at hx
      obtain ⟨y,hy,rfl⟩:=List.mem_map.1 hx
      have h1:=Ht.out.2 y (List.mem_of_mem_take hy)
      exact itoaB_size y h1.1 h1.2)
     rw [itoas_len (Nat.le_refl _)] at this
     have h4:r.tags.length * (21+1)≤8 * 22:=Nat.mul_le_mul ht (Nat.le_refl _)
     omega
    obtain ⟨A6,c6,rfl⟩:=own_slice HO.out
    have Hil:=Lib.hid (itoas_len (l:=r.tags) (Nat.le_refl _))
    have Hjo:=Lib.hid (fun hN=>joinp_own (44:UInt8) HO.out Hil.out (by omega) hN)
    have Hj:=Lib.hid hj
    generalize joinP (itoas r.tags r.tags.length) 44=JJ at *
    have hj2:=Hj.out
    have y1:¬ (9223372036854775807<1+(dl.size+1+dm.size)+1):=by omega
    have y2:¬ (9223372036854775807<1+(dl.size+1+dm.size)+1+JJ.size):=by omega
    go_wp2_with fail
    refine (Hjo.out (by omega)).mono ?_
    rintro e w7 ⟨rfl,hb7⟩
    go_wp2_with fail
    go_ret
    exact ⟨congrArg (fun t=>Ending.returned (Value.string t)) hT.out.symm,HL.out.below.trans (Below.mono (hb.trans (hb7.mono hb.size)) HL.out.size)⟩
def p_okB:ByteArray:=⟨#[111,107]⟩
def p_errB:ByteArray:=⟨#[101,114,114,111,114,32]⟩
def doneB (n:Nat):ByteArray:=if n=0 then p_okB else p_errB ++ itoaB n
def yesB (b:Bool):ByteArray:=if b then ⟨#[121,101,115]⟩ else ⟨#[110,111]⟩
theorem nil_assert (w:World):(Instr.typeAssert .nilIface 59 99 true).run Tryz.prog w=.ok (.tuple #[.int .i64 0,.bool false]) w:=by kernel_rfl
theorem done_any (n:Nat) (w:World) (hn:n≤1000) (hE:Env w):Calls Tryz.prog 19 #[errV n] w (Ret (.string (doneB n)) w):=by
 by_cases h:n=0
 ·subst h
  have e:doneB 0=⟨#[111,107]⟩:=rfl
  rw [e,errV_zero]
  have ha:=nil_assert
  go_enter Tryz.func19,Tryz.ntmps19
  go_wp2
  go_ret
  exact ⟨rfl,Below.refl _ _⟩
 ·have e:doneB n=(⟨#[101,114,114,111,114,32]⟩:ByteArray) ++ itoaB n:=by unfold doneB; rw [if_neg h]; rfl
  have hs:=itoaB_size (n:Int) (by omega) (by omega)
  rw [e,errV_pos h]
  clear e
  have Hi:=Lib.hid (itoa_any (n:Int) w (by omega) (by omega) hE)
  generalize itoaB (n:Int)=d at *
  have z1:¬ (9223372036854775807<6+d.size):=by omega
  go_enter Tryz.func19,Tryz.ntmps19
  go_wp2_with fail
  refine Hi.out.mono ?_
  rintro e w1 ⟨rfl,hb⟩
  go_wp2
  go_ret
  exact ⟨rfl,hb⟩
open Go.Maps Go.WideShapes Go.WideMaps Go.WideElems in
theorem yes_any (b:Bool) (w:World):Calls Tryz.prog 23 #[.bool b] w (Ret (.string (yesB b)) w):=by
 have bl:Keyed Tryz.prog 4:=bool_keyed Tryz.underlying4
 have z9:∀ w,(zeroValue 9).run Tryz.prog w=.ok (.string ⟨#[]⟩) w:=fun w=>by kernel_rfl
 have hmm:=@run_makeMap Tryz.prog
 have hb0:RowKit.Below w.heap.size w (w.alloc (.map #[] 0)):=(RowKit.Below.refl _ _).alloc (Nat.le_refl _) _
 have g0:=World.ownsMap_made (H:=Unit) w Tryz.prog 4 (plainElem Tryz.prog 9)
 generalize hw0:w.alloc (.map #[] 0)=w0 at hb0 g0
 have e0:plainElem (H:=Unit) Tryz.prog 9 (.string ⟨#[110,111]⟩)=some (.lit (.string [110,111]),[]):=plainElem_string (s:=⟨#[110,111]⟩) Tryz.underlying9 (by decide)
 have e1:plainElem (H:=Unit) Tryz.prog 9 (.string ⟨#[121,101,115]⟩)=some (.lit (.string [121,101,115]),[]):=plainElem_string (s:=⟨#[121,101,115]⟩) Tryz.underlying9 (by decide)
 obtain ⟨w1,r1,g1,t1⟩:=g0.update bl Tryz.underlying112 (by decide) (keyOf_bool_mk Tryz.underlying4 false) e0
 have hb1:=hb0.grown t1 hb0.size (fun j hj=>by cases hj; exact Nat.le_refl _)
 obtain ⟨w2,r2,g2,t2⟩:=g1.update bl Tryz.underlying112 (by decide) (keyOf_bool_mk Tryz.underlying4 true) e1
 have hb2:=hb1.grown t2 hb1.size (fun j hj=>by cases hj; exact Nat.le_refl _)
 obtain ⟨v,ps,rl,hv⟩:=g2.lookup bl Tryz.underlying112 (z9 w2) (plainElem_string (s:=⟨#[]⟩) Tryz.underlying9 (by decide)) (keyOf_bool_mk Tryz.underlying4 b)
 have hD:((((DataW.map []).put (.bool false) (.lit (.string [110,111]))).put (.bool true) (.lit (.string [121,101,115])):DataW Unit).atKey (.bool b) (.lit (.string [])))=.lit (.string (yesB b).data.toList):=by
  cases b <;> kernel_rfl
 have hfin:v=.string (yesB b):=by
  obtain ⟨s',rfl,e2,_⟩:=plainElem_string_inv Tryz.underlying9 hv
  have e3:DataW.lit (.string (yesB b).data.toList)=(.lit (.string s'.data.toList):DataW Unit):=hD.symm.trans (congrArg Prod.fst e2)
  simp only [DataW.lit.injEq,Lit.string.injEq] at e3
  exact congrArg Value.string (Go.WideShapes.bytes_inj e3.symm)
 subst hfin
 have HB:=Lib.hid hb2
 clear hv hD hb0 hb1 hb2 g0 g1 g2 t1 t2 e0 e1
 go_enter Tryz.func23,Tryz.ntmps23
 go_wp2
 go_ret
 exact ⟨rfl,HB.out⟩
end Go.Proofs.YtaeadmlgffaegaaGreatDoor
namespace Go.Proofs.YtaeadmlgffaegaaGreatDoor
open Go.RowKit
inductive Pc | read | write | sync | got | tick | clean | dispatch | end_ | fault | round | settle | queue | busy | dirty | crash | other
 deriving DecidableEq
def pcOf (w:ByteArray):Pc :=
 if w.toList == [114,101,97,100] then .read
 else if w.toList == [119,114,105,116,101] then .write
 else if w.toList == [115,121,110,99] then .sync
 else if w.toList == [103,111,116] then .got
 else if w.toList == [116,105,99,107] then .tick
 else if w.toList == [99,108,101,97,110] then .clean
 else if w.toList == [100,105,115,112,97,116,99,104] then .dispatch
 else if w.toList == [101,110,100] then .end_
 else if w.toList == [102,97,117,108,116] then .fault
 else if w.toList == [114,111,117,110,100] then .round
 else if w.toList == [115,101,116,116,108,101] then .settle
 else if w.toList == [113,117,101,117,101] then .queue
 else if w.toList == [98,117,115,121] then .busy
 else if w.toList == [100,105,114,116,121] then .dirty
 else if w.toList == [99,114,97,115,104] then .crash
 else .other
def Pc.ix:Pc→Nat
 |.read=>0 | .write=>1 | .sync=>2 | .got=>3 | .tick=>4 | .clean=>5 | .dispatch=>6 | .end_=>7 | .fault=>8 | .round=>9 | .settle=>10 | .queue=>11 | .busy=>12 | .dirty=>13 | .crash=>14 | .other=>15
def pws:List (List UInt8):=[[114,101,97,100],[119,114,105,116,101],[115,121,110,99],[103,111,116],[116,105,99,107],[99,108,101,97,110],[100,105,115,112,97,116,99,104],[101,110,100],[102,97,117,108,116],[114,111,117,110,100],[115,101,116,116,108,101],[113,117,101,117,101],[98,117,115,121],[100,105,114,116,121],[99,114,97,115,104]]
def Wd (w:ByteArray):List (List UInt8)→Nat→Prop
 | [],_=>True
 |l :: _,0=>(w.toList == l)=true∧True
 |l :: r,k+1=>(w.toList == l)=false∧Wd w r k
theorem ite_pc {P:Pc→Prop} {c:Prop} [Decidable c] {a b:Pc} (h1:c→P a) (h2:¬ c→P b):P (if c then a else b):=by
 by_cases h:c
 ·rw [if_pos h]; exact h1 h
 ·rw [if_neg h]; exact h2 h
theorem Wd.of {w:ByteArray} {c:Pc} (h:pcOf w=c):Wd w pws c.ix:=by
 subst h
 unfold pcOf
 repeat' (refine ite_pc (P:=fun c=>Wd w pws c.ix) (fun h=>?_) (fun h=>?_))
 all_goals
  try simp only [Bool.not_eq_true] at *
  repeat (first | exact trivial | (show _∧_; refine ⟨by assumption,?_⟩))
def p_dashB:ByteArray:=⟨#[45]⟩
def p_waitsB:ByteArray:=⟨#[119,97,105,116,115]⟩
def p_dataB:ByteArray:=⟨#[100,97,116,97,32]⟩
def p_spB:ByteArray:=⟨#[32]⟩
def textsM (l:List Rq):ByteArray:=if l=[] then p_dashB else joinP (l.map textP) 32
def gotM (s:St) (a:Int):ByteArray :=
 if 3≤a then doneB 5 else if (s.askAt a.toNat).isSome then p_waitsB
 else if (s.got a.toNat).2≠0 then doneB (s.got a.toNat).2 else p_dataB ++ (s.got a.toNat).1
def playM (s:St) (z:Stp):St × ByteArray:=match pcOf z.word with
 |.read=>((s.ask z.a 1 z.b noB).1,doneB (s.ask z.a 1 z.b noB).2)
 |.write=>((s.ask z.a 2 z.b z.data).1,doneB (s.ask z.a 2 z.b z.data).2)
 |.sync=>((s.ask z.a 3 0 noB).1,doneB (s.ask z.a 3 0 noB).2)
 |.got=>(s,gotM s z.a)
 |.tick=>(s.tick,p_okB)
 |.clean=>(s.clean.1,yesB s.clean.2)
 |.dispatch=>(s.dispatch.1,yesB s.dispatch.2)
 |.end_=>((s.end_ z.a false).1,doneB (s.end_ z.a false).2)
 |.fault=>((s.end_ z.a true).1,doneB (s.end_ z.a true).2)
 |.round=>(s.round,p_okB)
 |.settle=>((St.settle z.a.toNat s).1,(itoaB ((St.settle z.a.toNat s).2:Nat) ++ p_spB) ++ yesB (St.settle z.a.toNat s).1.quiet)
 |.queue=>(s,textsM s.wait)
 |.busy=>(s,textsM s.v.d.l)
 |.dirty=>(s,itoaB (dirtyB s.bufs:Nat))
 |.crash=>(St.new (s.v.d.crash z.a.toNat),p_okB)
 |.other=>(s,p_okB)
theorem Inv.playM {s:St} (h:Inv s) (z:Stp):Inv (Go.Proofs.YtaeadmlgffaegaaGreatDoor.playM s z).1:=by
 unfold Go.Proofs.YtaeadmlgffaegaaGreatDoor.playM
 split
 ·exact h.ask_ ..
 ·exact h.ask_ ..
 ·exact h.ask_ ..
 ·exact h
 ·exact h.tick
 ·exact h.clean
 ·exact h.dispatch
 ·exact h.end_ ..
 ·exact h.end_ ..
 ·exact h.round
 ·exact h.settle
 ·exact h
 ·exact h
 ·exact h
 ·exact Inv.new (h.dv.crash _) rfl
 ·exact h
theorem Bd.newB {d:Dv} (hw:d.waits=[]):Bd 0 (St.new d):=⟨Int.le_refl _,Int.le_refl _,by show (d.waits.length:Int)≤0; rw [hw]; exact Int.le_refl _⟩
theorem Bd.playM {K:Int} {s:St} (h:Bd K s) (h0:0≤K) (hI:Inv s) (z:Stp) (ha:z.a≤999):Bd (K+15000) (Go.Proofs.YtaeadmlgffaegaaGreatDoor.playM s z).1:=by
 unfold Go.Proofs.YtaeadmlgffaegaaGreatDoor.playM
 split
 ·exact (h.ask h0 ..).mono (by omega)
 ·exact (h.ask h0 ..).mono (by omega)
 ·exact (h.ask h0 ..).mono (by omega)
 ·exact h.mono (by omega)
 ·exact (h.tick h0).mono (by omega)
 ·exact h.clean.mono (by omega)
 ·exact h.dispatch.mono (by omega)
 ·exact (h.end_ h0 hI ..).mono (by omega)
 ·exact (h.end_ h0 hI ..).mono (by omega)
 ·exact (h.round h0 hI).mono (by omega)
 ·exact (h.settle h0 hI).mono (by omega)
 ·exact h.mono (by omega)
 ·exact h.mono (by omega)
 ·exact h.mono (by omega)
 ·exact (Bd.newB rfl).mono (by omega)
 ·exact h.mono (by omega)
def playsM (s:St) (l:List Stp):St:=l.foldl (fun s z=>if checkM z=0 then (playM s z).1 else s) s
theorem playsM_succ (s:St) {l:List Stp} {k:Nat} {z:Stp} (h:l[k]?=some z):playsM s (l.take (k+1))=if checkM z=0 then (playM (playsM s (l.take k)) z).1 else playsM s (l.take k):=by
 unfold playsM
 rw [List.take_add_one,h,List.foldl_append]; rfl
theorem check_a {z:Stp} (h:checkM z=0):0≤z.a∧z.a≤999:=by
 unfold checkM at h
 split at h
 ·cases h
 ·split at h
  ·cases h
  ·split at h
   ·cases h
   ·rename_i hb
    unfold boundB at hb
    simp only [Bool.or_eq_true,decide_eq_true_eq,not_or,Int.not_lt] at hb
    omega
end Go.Proofs.YtaeadmlgffaegaaGreatDoor
namespace Go.Proofs.YtaeadmlgffaegaaGreatDoor
open Go.RowKit Go.Sort
abbrev tPl:TypeId:=53
abbrev tPr:TypeId:=41
structure PlAt (T:Tys) (tp:TypeId) (W0 w:World) (col:Nat→Nat) (p b bd N:Nat) (K:Int) (x:Sv) (s:St):Prop where
 st:StAt T col w b bd N x s
 inv:Inv s
 bnd:Bd K s
 k0:0≤K
 row:w.heap[p]?=some (.cells #[.pointer (some ⟨bd,0,none⟩),.pointer (some ⟨b,0,none⟩)] tp (0,0))
 c9:col p=9
 below:Below W0.heap.size W0 w
 own:∀ k,Fl col k→W0.heap.size≤k
 base:W0.heap.size≤p
def Pf (col:Nat→Nat) (p:Nat):Nat→Prop:=fun k=>Fl col k∨k=p
structure Pr (col col':Nat→Nat) (p:Nat) (w w':World):Prop where
 chg:Chg (Pf col p) w w'
 grow:∀ k,Fl col' k→Fl col k∨w.heap.size≤k
 nine:∀ k,col k=9→col' k=9
section
variable {T T2:Tys} {tp tp2:TypeId} {W0 w w' w2:World} {col col' col2:Nat→Nat} {p q b bd N M:Nat} {K L:Int} {x y:Sv} {s t:St}
theorem PlAt.step (h:PlAt T tp W0 w col p b bd N K x s) (hb:Below w.heap.size w w'):PlAt T tp W0 w' col p b bd N K x s :=
 ⟨h.st.below hb,h.inv,h.bnd,h.k0,(hb.block _ (Array.getElem?_eq_some_iff.1 h.row).1).trans h.row,h.c9,h.below.trans (hb.mono h.below.size),h.own,h.base⟩
theorem PlAt.cell (h:PlAt T tp W0 w col p b bd N K x s):w.cell? ⟨p,0,none⟩=some (.pointer (some ⟨bd,0,none⟩))∧w.cell? ⟨p,1,none⟩=some (.pointer (some ⟨b,0,none⟩)) :=
 ⟨cell_of_row _ _ 0 _ _ _ h.row,cell_of_row _ _ 1 _ _ _ h.row⟩
theorem PlAt.env (h:PlAt T tp W0 w col p b bd N K x s) (hE:Env W0):Env w:=hE.below h.below
theorem PlAt.mono (h:PlAt T tp W0 w col p b bd N K x s) (hn:N≤M) (hk:K≤L):PlAt T tp W0 w col p b bd M L x s :=
 ⟨h.st.moreN hn,h.inv,h.bnd.mono hk,Int.le_trans h.k0 hk,h.row,h.c9,h.below,h.own,h.base⟩
theorem Pr.rest (hb:Below w.heap.size w w'):Pr col col p w w':=⟨Chg.of_below hb,fun k hk=>.inl hk,fun k hk=>hk⟩
theorem PlAt.call (h:PlAt T tp W0 w col p b bd N K x s) (ha:StAt T col' w' b bd M y t) (hI:Inv t) (hB:Bd L t) (hL:0≤L) (hc:Chg (Fl col) w w') (hr:Rec col col' w w'):PlAt T tp W0 w' col' p b bd M L y t∧Pr col col' p w w':=by
 have hlt:=(Array.getElem?_eq_some_iff.1 h.row).1
 have hq:∀ k,col k=9→col' k=9:=fun k hk=>by
  have hl:k<w.heap.size:=h.st.lt k (by rw [hk]; decide)
  rw [hr.old k hl]; exact hk
 exact ⟨⟨ha,hI,hB,hL,(hc.block _ hlt (fun hf=>hf.2 h.c9)).trans h.row,hq _ h.c9,h.below.trans (hc.below h.own h.below.size),fun k hk=>(hr.grow k hk).elim (h.own k) (fun h1=>Nat.le_trans h.below.size h1),h.base⟩,
  ⟨hc.mono (fun k hk=>.inl hk),hr.grow,hq⟩⟩
theorem PlAt.five {v:Value} {e:Ending} (h:PlAt T tp W0 w col p b bd N K x s) (hr:Ret5 T col w b bd M t v e w') (hI:Inv t) (hB:Bd L t) (hL:0≤L):e=.returned v∧∃ col' y,PlAt T tp W0 w' col' p b bd M L y t∧Pr col col' p w w':=by
 obtain ⟨col',y,he,hst,hc,hrc⟩:=hr
 exact ⟨he,col',y,h.call hst hI hB hL hc hrc⟩
theorem PlAt.two {v:Value} {e:Ending} (h:PlAt T tp W0 w col p b bd N K x s) (hr:Ret2 T col w b bd N x t v e w') (hI:Inv t) (hB:Bd L t) (hL:0≤L):e=.returned v∧∃ col' y,PlAt T tp W0 w' col' p b bd N L y t∧Pr col col' p w w':=by
 obtain ⟨y,he,hst,hc,_⟩:=hr
 exact ⟨he,col,y,h.call hst hI hB hL (h.st.chg1 hc) .refl⟩
theorem PlAt.four {v:Value} {e:Ending} (h:PlAt T tp W0 w col p b bd N K x s) (hr:Ret4 T col w b bd N x t v e w') (hI:Inv t) (hB:Bd L t) (hL:0≤L):e=.returned v∧∃ col' y,PlAt T tp W0 w' col' p b bd N L y t∧Pr col col' p w w':=by
 obtain ⟨y,he,hst,hc,_⟩:=hr
 exact ⟨he,col,y,h.call hst hI hB hL hc .refl⟩
theorem Pr.after {w3:World} {col3:Nat→Nat} (h:Pr col col' p w w') (h2:Pr col' col3 p w' w3) (hc9:col p=9):Pr col col3 p w w3:=by
 refine ⟨?_,fun k hk=>?_,fun k hk=>h2.nine k (h.nine k hk)⟩
 ·refine ⟨h2.chg.os.trans h.chg.os,h2.chg.tape.trans h.chg.tape,h2.chg.output.trans h.chg.output,Nat.le_trans h.chg.size h2.chg.size,fun k hk hn=>?_⟩
  refine (h2.chg.block k (Nat.lt_of_lt_of_le hk h.chg.size) (fun hf=>?_)).trans (h.chg.block k hk hn)
  rcases hf with hf | hf
  ·rcases h.grow k hf with h3 | h3
   ·exact hn (.inl h3)
   ·omega
  ·exact hn (.inr hf)
 ·rcases h2.grow k hk with h3 | h3
  ·exact h.grow k h3
  ·exact .inr (Nat.le_trans h.chg.size h3)
theorem Pr.before {w1:World} (h:Pr col col' p w1 w') (hb:Below w.heap.size w w1):Pr col col' p w w':=by
 refine ⟨?_,fun k hk=>(h.grow k hk).imp id (fun h3=>Nat.le_trans hb.size h3),h.nine⟩
 exact ⟨h.chg.os.trans hb.os,h.chg.tape.trans hb.tape,h.chg.output.trans hb.output,Nat.le_trans hb.size h.chg.size,fun k hk hn=>(h.chg.block k (Nat.lt_of_lt_of_le hk hb.size) hn).trans (hb.block k hk)⟩
theorem PlAt.pf (h:PlAt T tp W0 w col p b bd N K x s):∀ k,Pf col p k→W0.heap.size≤k:=fun k hk=>hk.elim (h.own k) (fun e=>by rw [e]; exact h.base)
theorem PlAt.other {b2 bd2 N2:Nat} {K2:Int} {y2:Sv} {s2:St} (h:PlAt T tp W0 w col p b bd N K x s) {c2 c2':Nat→Nat} (hr:Pr c2 c2' q w w') (h2:PlAt T2 tp2 W0 w' c2' q b2 bd2 N2 K2 y2 s2) (ho:∀ k,Pf c2 q k→W0.heap.size≤k) (hd:∀ k,Pf c2 q k→col k=9) (hd2:∀ k,Pf col p k→c2 k=9) (hpq:p≠q) :
  ∃ col',PlAt T tp W0 w' col' p b bd N K x s∧(∀ k,Pf c2' q k→col' k=9)∧(∀ k,Pf col' p k→c2' k=9)∧∀ k,Fl col' k→Fl col k:=by
 classical
 have hpl:=(Array.getElem?_eq_some_iff.1 h.row).1
 have hP:∀ k,(w.heap.size≤k∧Fl c2' k)→w.heap.size≤k∧k<w'.heap.size:=fun k hk=>⟨hk.1,h2.st.lt k hk.2.1⟩
 have hst:=h.st.far9 hr.chg hd (fun k=>w.heap.size≤k∧Fl c2' k) hP
 obtain ⟨col',hcol⟩:∃ f:Nat→Nat,(fun k=>if w.heap.size≤k∧Fl c2' k then 9 else col k)=f:=⟨_,rfl⟩
 have hc:∀ k,col' k=if w.heap.size≤k∧Fl c2' k then 9 else col k:=fun k=>by rw [← hcol]
 rw [hcol] at hst
 clear hcol
 have hF:∀ k,Fl col' k→Fl col k:=fun k hk=>by
  obtain ⟨h1,h2⟩:=hk
  rw [hc] at h1 h2
  by_cases e:w.heap.size≤k∧Fl c2' k
  ·rw [if_pos e] at h2; exact absurd rfl h2
  ·rw [if_neg e] at h1 h2; exact ⟨h1,h2⟩
 have hn:∀ k,col k=9→col' k=9:=fun k hk=>by
  rw [hc]
  split
  ·rfl
  ·exact hk
 have hpn:¬ Pf c2 q p:=fun e=>by
  rcases e with e | e
  ·exact e.2 (hd2 p (.inr rfl))
  ·exact hpq e
 refine ⟨col',⟨hst,h.inv,h.bnd,h.k0,(hr.chg.block p hpl hpn).trans h.row,hn _ h.c9,h.below.trans (hr.chg.below ho h.below.size),fun k hk=>h.own k (hF k hk),h.base⟩,fun k hk=>?_,fun k hk=>?_,hF⟩
 ·rcases hk with hk | rfl
  ·by_cases hl:w.heap.size≤k
   ·rw [hc,if_pos ⟨hl,hk⟩]
   ·rcases hr.grow k hk with h3 | h3
    ·exact hn _ (hd k (.inl h3))
    ·exact absurd h3 hl
  ·exact hn _ (hd _ (.inr rfl))
 ·refine hr.nine k (hd2 k ?_)
  rcases hk with hk | hk
  ·exact .inl (hF k hk)
  ·exact .inr hk
theorem PlAt.beside {b2 bd2 N2:Nat} {K2:Int} {y2:Sv} {s2:St} (h:PlAt T tp W0 w col p b bd N K x s) (hb:Below w.heap.size w w') (h2:PlAt T2 tp2 W0 w' col2 q b2 bd2 N2 K2 y2 s2) (hnew:∀ k,Pf col2 q k→w.heap.size≤k) (h9:∀ k,k<w.heap.size→col2 k=9) :
  ∃ col',PlAt T tp W0 w' col' p b bd N K x s∧(∀ k,Pf col2 q k→col' k=9)∧(∀ k,Pf col' p k→col2 k=9):=by
 classical
 have hpl:=(Array.getElem?_eq_some_iff.1 h.row).1
 have hq:=(Array.getElem?_eq_some_iff.1 h2.row).1
 have hP:∀ k,Pf col2 q k→w.heap.size≤k∧k<w'.heap.size:=fun k hk=>⟨hnew k hk,hk.elim (fun e=>h2.st.lt k e.1) (fun e=>by rw [e]; exact hq)⟩
 have hst:=h.st.far9 (F:=fun _=>False) (Chg.of_below hb) (fun k hk=>hk.elim) (Pf col2 q) hP
 obtain ⟨col',hcol⟩:∃ f:Nat→Nat,(fun k=>if Pf col2 q k then 9 else col k)=f:=⟨_,rfl⟩
 have hc:∀ k,col' k=if Pf col2 q k then 9 else col k:=fun k=>by rw [← hcol]
 rw [hcol] at hst
 clear hcol
 have hF:∀ k,Fl col' k→Fl col k:=fun k hk=>by
  obtain ⟨h1,h2⟩:=hk
  rw [hc] at h1 h2
  by_cases e:Pf col2 q k
  ·rw [if_pos e] at h2; exact absurd rfl h2
  ·rw [if_neg e] at h1 h2; exact ⟨h1,h2⟩
 refine ⟨col',⟨hst,h.inv,h.bnd,h.k0,(hb.block p hpl).trans h.row,?_,h.below.trans (hb.mono h.below.size),fun k hk=>h.own k (hF k hk),h.base⟩,fun k hk=>by rw [hc,if_pos hk],fun k hk=>h9 k ?_⟩
 ·rw [hc]
  split
  ·rfl
  ·exact h.c9
 ·rcases hk with hk | rfl
  ·exact h.st.lt k (hF k hk).1
  ·exact hpl
theorem PlAt.crashed {u1 u2 u3:World} {m b2:Nat} {y2:Sv} (h:PlAt T tp W0 w col p b bd N K x s) (hc:Chg (Fd col) w u1) (hs:StAt T col2 u2 b2 bd 0 y2 (St.new (s.v.d.crash m))) (hb:Below u1.heap.size u1 u2)
  (hfl:∀ k,Fl col2 k→Fd col k∨u1.heap.size≤k) (hu:Same1 p u2 u3) (hrow:u3.heap[p]?=some (.cells #[.pointer (some ⟨bd,0,none⟩),.pointer (some ⟨b2,0,none⟩)] tp (0,0))) (hB:Bd 0 (St.new (s.v.d.crash m))) :
  ∃ col',PlAt T tp W0 u3 col' p b2 bd 0 0 y2 (St.new (s.v.d.crash m))∧Pr col col' p w u3:=by
 classical
 have hpl:=(Array.getElem?_eq_some_iff.1 h.row).1
 have hp1:p<u1.heap.size:=Nat.lt_of_lt_of_le hpl hc.size
 have hs':=hs.blank rfl (fun k=>k<u1.heap.size∧¬ Fd col k) (fun k hk=>⟨fun hf=>(hfl k hf).elim hk.2 (fun e=>by omega),Nat.lt_of_lt_of_le hk.1 hb.size⟩)
 obtain ⟨col',hcol⟩:∃ f:Nat→Nat,(fun k=>if k<u1.heap.size∧¬ Fd col k then 9 else col2 k)=f:=⟨_,rfl⟩
 have hcc:∀ k,col' k=if k<u1.heap.size∧¬ Fd col k then 9 else col2 k:=fun k=>by rw [← hcol]
 rw [hcol] at hs'
 clear hcol
 have hpF:¬ Fd col p:=fun e=>by have e:col p=4:=e; rw [h.c9] at e; cases e
 have h9:col' p=9:=by rw [hcc,if_pos ⟨hp1,hpF⟩]
 have hF:∀ k,Fl col' k→Fd col k∨u1.heap.size≤k:=fun k hk=>by
  obtain ⟨h1,h2⟩:=hk
  rw [hcc] at h1 h2
  by_cases e:k<u1.heap.size∧¬ Fd col k
  ·rw [if_pos e] at h2; exact absurd rfl h2
  ·rw [if_neg e] at h1 h2; exact hfl k ⟨h1,h2⟩
 have hFF:∀ k,Fd col k→Fl col k:=fun k (hk:col k=4)=>⟨by rw [hk]; decide,by rw [hk]; decide⟩
 have hst:StAt T col' u3 b2 bd 0 y2 (St.new (s.v.d.crash m)):=by
  have:=hs'.far9 (F:=fun k=>k=p) (hu.chg rfl) (fun k hk=>by rw [hk]; exact h9) (fun _=>False) (fun k hk=>hk.elim)
  simpa using this
 have hch:Chg (Pf col p) w u3:=by
  refine ⟨?_,?_,?_,?_,fun k hk hn=>?_⟩
  ·exact (hu.os.trans hb.os).trans hc.os
  ·exact (hu.tape.trans hb.tape).trans hc.tape
  ·exact (hu.output.trans hb.output).trans hc.output
  ·rw [hu.size]; exact Nat.le_trans hc.size hb.size
  ·exact ((hu.block k (fun e=>hn (.inr e))).trans (hb.block k (Nat.lt_of_lt_of_le hk hc.size))).trans (hc.block k hk (fun e=>hn (.inl (hFF k e))))
 exact ⟨col',⟨hst,Inv.new (h.inv.dv.crash _) rfl,hB,Int.le_refl _,hrow,h9,h.below.trans (hch.below h.pf h.below.size),fun k hk=>(hF k hk).elim (fun e=>h.own k (hFF k e)) (fun e=>Nat.le_trans h.below.size (Nat.le_trans hc.size e)),h.base⟩,
  ⟨hch,fun k hk=>(hF k hk).imp (hFF k) (fun e=>Nat.le_trans hc.size e),fun k hk=>by
   have hkF:¬ Fd col k:=fun e=>by have e:col k=4:=e; rw [hk] at e; cases e
   have hkl:=h.st.lt k (by rw [hk]; decide)
   rw [hcc,if_pos ⟨Nat.lt_of_lt_of_le hkl hc.size,hkF⟩]⟩⟩
theorem PlAt.made {w1 w2 w3:World} {F:Nat→Prop} {d:Dv} (hW:Below W0.heap.size W0 w) (hs:StAt T col w2 b bd 0 x (St.new d)) (hl:d.l=[]) (hd:DvOk d) (hw:d.waits=[]) (hb:Below w.heap.size w w2) (hfl:∀ k,Fl col k→w.heap.size≤k)
  (hb3:Below w2.heap.size w2 w3) (hp:w2.heap.size≤p) (hrow:w3.heap[p]?=some (.cells #[.pointer (some ⟨bd,0,none⟩),.pointer (some ⟨b,0,none⟩)] tp (0,0))) (hB:Bd 0 (St.new d)) :
  ∃ col',PlAt T tp W0 w3 col' p b bd 0 0 x (St.new d)∧(∀ k,k<w.heap.size→col' k=9)∧(∀ k,Pf col' p k→w.heap.size≤k):=by
 classical
 have hpl:=(Array.getElem?_eq_some_iff.1 hrow).1
 have h0:=hs.s0 p hp
 have hs':=(hs.below hb3).blank hl (fun k=>k<w.heap.size∨k=p) (fun k hk=>hk.elim (fun e=>⟨fun hf=>by have:=hfl k hf; omega,Nat.lt_of_lt_of_le e (Nat.le_trans hb.size hb3.size)⟩) (fun e=>by rw [e]; exact ⟨fun hf=>hf.1 h0,hpl⟩))
 obtain ⟨col',hcol⟩:∃ f:Nat→Nat,(fun k=>if k<w.heap.size∨k=p then 9 else col k)=f:=⟨_,rfl⟩
 have hcc:∀ k,col' k=if k<w.heap.size∨k=p then 9 else col k:=fun k=>by rw [← hcol]
 rw [hcol] at hs'
 clear hcol
 have hF:∀ k,Fl col' k→w.heap.size≤k:=fun k hk=>by
  rcases Nat.lt_or_ge k w.heap.size with hlt | hge
  ·exact absurd (by rw [hcc,if_pos (.inl hlt)]) hk.2
  ·exact hge
 have hpw:w.heap.size≤p:=Nat.le_trans hb.size hp
 exact ⟨col',⟨hs',Inv.new hd hl,hB,Int.le_refl _,hrow,by rw [hcc,if_pos (.inr rfl)],hW.trans ((hb.trans (hb3.mono hb.size)).mono hW.size),fun k hk=>Nat.le_trans hW.size (hF k hk),Nat.le_trans hW.size hpw⟩,
  fun k hk=>by rw [hcc,if_pos (.inl hk)],fun k hk=>hk.elim (hF k) (fun e=>by rw [e]; exact hpw)⟩
end
end Go.Proofs.YtaeadmlgffaegaaGreatDoor
