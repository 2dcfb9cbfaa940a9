/- The reference's done, yes, Decimal, ReqText, texts: they say what the program's say. -/
import Derived.Test.YtaeadmlgffaegaaGreatDoorQ44
set_option linter.unusedSimpArgs false
set_option linter.unusedVariables false
set_option maxRecDepth 100000
set_option maxHeartbeats 8000000
namespace Go.Proofs.YtaeadmlgffaegaaGreatDoor
open Go.RowKit Go.Sort
theorem decN_dec:∀ n:Nat,decN n=⟨(Lib.decDigits n).toArray⟩:=by
 intro n
 induction n using Nat.strongRecOn with
 |_ n ih =>
  by_cases h:n<10
  ·rw [decN_small h,Lib.decDigits,dif_pos h]; rfl
  ·rw [decN_big h,Lib.decDigits,dif_neg h,ih (n / 10) (by omega)]
   apply Go.WideShapes.bytes_inj
   show (ByteArray.data (_ ++ _)).toList=_
   rw [ByteArray.data_append]
   simp [digit]
theorem decI_neg {m:Nat} (h:0<m):decI (-(m:Int))=dash ++ decN m:=by
 unfold decI
 by_cases h9:9<m
 ·rw [if_pos (by omega),decN_big (n:=m) (by omega),← decN_small (n:=m % 10) (by omega)]
  have e1:(-((-(m:Int)).tdiv 10)).toNat=m / 10:=by rw [Int.neg_tdiv,Int.tdiv_eq_ediv_of_nonneg (by omega)]; omega
  have e2:(-((-(m:Int)).tmod 10)).toNat=m % 10:=by rw [Int.neg_tmod,Int.tmod_eq_emod_of_nonneg (by omega)]; omega
  rw [e1,e2,ByteArray.append_assoc]
 ·rw [if_neg (by omega),if_pos (by omega)]
  have e1:(- -(m:Int)).toNat=m:=by omega
  rw [e1]
theorem decI_itoa (n:Int):decI n=itoaB n:=by
 rcases Int.lt_or_le n 0 with h | h
 ·obtain ⟨m,rfl⟩:∃ m:Nat,n = -(m:Int):=⟨(-n).toNat,by omega⟩
  rw [decI_neg (by omega),decN_dec]
  unfold itoaB Lib.itoa
  rw [if_pos h]
  have e1:(-(m:Int)).natAbs=m:=by omega
  rw [e1]
  apply Go.WideShapes.bytes_inj
  show (ByteArray.data (_ ++ _)).toList=_
  rw [ByteArray.data_append]
  simp [dash]
 ·obtain ⟨m,rfl⟩:∃ m:Nat,n=m:=⟨n.toNat,by omega⟩
  unfold decI itoaB Lib.itoa
  rw [if_neg (by omega),if_neg (by omega),if_neg (by omega),decN_dec]
theorem rdec_any (n:Int) (w:World) (h0 : -9223372036854775808≤n) (h1:n≤9223372036854775807):Calls Tryz.prog 45 #[.int .i64 n] w (Ret (.string (itoaB n)) w):=by
 rw [← decI_itoa n]
 exact dec_any n w h0 h1
theorem rdone_any (n:Nat) (w:World) (hn:n≤1000):Calls Tryz.prog 35 #[.int .i64 (n:Int)] w (Ret (.string (doneB n)) w):=by
 by_cases h:n=0
 ·subst h
  have e:doneB 0=⟨#[111,107]⟩:=rfl
  rw [e]
  go_enter Tryz.func35,Tryz.ntmps35
  go_wp2
  go_ret
  exact ⟨rfl,Below.refl _ _⟩
 ·have e:doneB n=(⟨#[101,114,114,111,114,32]⟩:ByteArray) ++ itoaB n:=by unfold doneB; rw [if_neg h]; rfl
  have hs:=itoaB_size (n:Int) (by omega) (by omega)
  have h0:decide ((0:Int)<n)=true:=decide_eq_true (by omega)
  rw [e]
  clear e
  have Hi:=Lib.hid (rdec_any (n:Int) w (by omega) (by omega))
  generalize itoaB (n:Int)=d at *
  have z1:¬ (9223372036854775807<6+d.size):=by omega
  go_enter Tryz.func35,Tryz.ntmps35
  go_wp2_with fail
  refine Hi.out.mono ?_
  rintro e w1 ⟨rfl,hb⟩
  go_wp2
  go_ret
  exact ⟨rfl,hb⟩
theorem ryes_any (b:Bool) (w:World):Calls Tryz.prog 39 #[.bool b] w (Ret (.string (yesB b)) w):=by
 cases b
 all_goals
  go_enter Tryz.func39,Tryz.ntmps39
  go_wp2
  go_ret
  exact ⟨rfl,Below.refl _ _⟩
theorem join_snoc (xs:List (List UInt8)) (y sep:List UInt8) (h:xs≠[]):Lib.join (xs ++ [y]) sep=Lib.join xs sep ++ sep ++ y:=by
 induction xs with
 |nil=>exact absurd rfl h
 |cons a r ih =>
  cases r with
  |nil=>simp [Lib.join,List.intercalate]
  |cons b r =>
   have:=ih (by simp)
   simp only [Lib.join,List.intercalate,List.cons_append,List.intersperse] at this ⊢
   simp at this ⊢
   rw [this]
section
variable {xs ys:List ByteArray} {y st hd:ByteArray} {c:UInt8}
theorem jst0 (h:ys=xs ++ [y]) (hx:xs=[]) (hs:st=hd ++ joinP xs c):st ++ y=hd ++ joinP ys c:=by
 subst h hx hs
 apply Go.WideShapes.bytes_inj
 simp [joinP,Lib.join,List.intercalate]
theorem jst (h:ys=xs ++ [y]) (hx:xs≠[]) (hs:st=hd ++ joinP xs c):st ++ ⟨#[c]⟩ ++ y=hd ++ joinP ys c:=by
 subst h hs
 apply Go.WideShapes.bytes_inj
 simp [joinP,join_snoc _ _ _ (show xs.map (·.data.toList)≠[] by simpa using hx)]
end
theorem itoas_nil {l:List Int} {k:Nat} (h:k≤l.length):itoas l k=[]↔k=0:=by
 rw [← List.length_eq_zero_iff,itoas_len h]
theorem txs_nil {l:List Rq} {k:Nat} (h:k≤l.length):txs l k=[]↔k=0:=by
 rw [← List.length_eq_zero_iff,txs_len h]
theorem rreqtext_any (S:Nat→Prop) (r:Rq) (v:Value) (w:World) (h:ReqAt S w v r) (ht:r.tags.length≤8) :
  Calls Tryz.prog 92 #[v] w (Ret (.string (textP r)) w):=by
 obtain ⟨Ad,cd,At,ct,rfl,_,hat,_,_,⟨l1,l2⟩,⟨m1,m2⟩,_⟩:=h.opened
 have Ht:=Lib.hid hat
 clear hat h
 have s1:=itoaB_size r.lo l1 l2
 have s2:=itoaB_size r.many m1 m2
 have Hl:=Lib.hid (fun w=>rdec_any r.lo w l1 l2)
 have Hm:=Lib.hid (fun w=>rdec_any r.many w m1 m2)
 have hT:textP r=(kindP r.write ++ ((itoaB r.lo ++ ⟨#[43]⟩) ++ itoaB r.many)) ++ ⟨#[35]⟩ ++ joinP (itoas r.tags r.tags.length) 44:=rfl
 generalize textP r=tr at hT ⊢
 generalize itoaB r.lo=dl at *
 generalize itoaB r.many=dm at *
 obtain ⟨hd,hh⟩:∃ hd:ByteArray,kindP r.write ++ dl ++ ⟨#[43]⟩ ++ dm ++ ⟨#[35]⟩=hd:=⟨_,rfl⟩
 have hT:Hid (tr=hd ++ joinP (itoas r.tags r.tags.length) 44):=show _=_ by rw [hT,← hh]; simp only [ByteArray.append_assoc]
 have hhs:hd.size≤90:=by
  have e:(kindP r.write).size=1:=by unfold kindP; split <;> rfl
  rw [← hh]; simp only [ByteArray.size_append,e]; show 1+_+1+_+1≤_; omega
 cases hw:r.write
 all_goals
  rw [hw] at hh
  simp only [kindP,reduceIte,Bool.false_eq_true] at hh
  have Hh:=Lib.hid hh
  clear hh
  go_enter Tryz.func92,Tryz.ntmps92
  go_wp2_with fail
  have L:=(Lay.refl w).alloc' w.heap.size #[Value.bool r.write,Value.int IntKind.i64 r.lo,Value.int IntKind.i64 r.many,Value.slice Ad r.data.length cd,Value.slice At r.tags.length ct,Value.int IntKind.i64 r.born] 123 rfl
  rw [hw] at L
  generalize World.alloc _ _=W at L ⊢
  obtain ⟨c0,c1,c2,c3,c4,c5⟩:=L.c6 0 rfl
  have c1:=cell_regrown c1
  have c2:=cell_regrown c2
  have z1:¬ (9223372036854775807<1+dl.size):=by omega
  have z2:¬ (9223372036854775807<1+dl.size+1):=by omega
  have z3:¬ (9223372036854775807<1+dl.size+1+dm.size):=by omega
  have z4:¬ (9223372036854775807<1+dl.size+1+dm.size+1):=by omega
  refine wp_region_quiet_below mixed (by kernel_rfl) ?_
  repeat (quiet_step (first | (go_at_call 45; first | (with_reducible exact Calls.rg (Hl.out _)) | (with_reducible exact Calls.rg (Hm.out _)))))
  refine wpQuiet_nil ?_
  intro _ hw'
  obtain ⟨⟨dq,osq⟩,hw''⟩:=hw'
  subst hw''
  have L2:=L.step (below_regrown W dq osq)
  generalize grow (redrawn W dq) osq=W2 at L2 ⊢
  clear c0 c1 c2 c3 c4 c5 L z1 z2 z3 z4
  have HL:=Lib.hid L2
  clear L2
  go_wp2_with fail
  rw [Hh.out]
  go_loopw [3,4] (fun s i wr=>∃ (k:Nat) (st:ByteArray),k≤r.tags.length∧i=.int .i64 k∧s=.string st∧st.size≤90+50 * k∧Below W2.heap.size W2 wr∧Hid (st=hd ++ joinP (itoas r.tags k) 44)) (fun _ i _=>r.tags.length - (intOf i).toNat)
  case atStart=>exact ⟨0,hd,by omega,rfl,rfl,by omega,Below.refl _ _,by apply Go.WideShapes.bytes_inj; simp [itoas,joinP,Lib.join,List.intercalate]⟩
  case round =>
   obtain ⟨k,st,hk,rfl,rfl,hst,hb,hs⟩:=hrel
   obtain ⟨c0,c1,c2,c3,c4,c5⟩:=(HL.out.step hb).c6 0 rfl
   by_cases hlt:k<r.tags.length
   ·obtain ⟨b,off,rfl,_,_,hc⟩:=((Ht.out.below HL.out.below).below hb).at_ (by omega)
    have hx:r.tags[k]?=some r.tags[k]:=List.getElem?_eq_getElem hlt
    obtain ⟨hcell,hx1,hx2⟩:=hc k _ hx
    have Hx:=Lib.hid (itoas_succ hx)
    clear hx hc
    generalize r.tags[k]=x at *
    have hk1:(k:Int)<(r.tags.length:Int):=by omega
    have hds:=itoaB_size x hx1 hx2
    have Hd:=Lib.hid (fun w=>rdec_any x w hx1 hx2)
    generalize itoaB x=dx at *
    have y0:¬ (9223372036854775807<st.size+1):=by omega
    have y1:¬ (9223372036854775807<st.size+dx.size):=by omega
    have y3:¬ (9223372036854775807<st.size+1+dx.size):=by omega
    by_cases hk0:k=0
    ·have HN:=Lib.hid ((itoas_nil (l:=r.tags) hk).2 hk0)
     have y2:decide (0<k)=false:=by simp; omega
     clear hk0
     go_wp2_with fail
     refine (Hd.out _).mono ?_
     rintro e w1 ⟨rfl,hb1⟩
     go_wp2_with fail
     go_roundw
     case rel=>exact ⟨k+1,_,by omega,by go_num,rfl,by rw [ByteArray.size_append]; omega,hb.trans (hb1.mono hb.size),jst0 Hx.out HN.out hs.out⟩
     case measure=>simp [intOf]; omega
    ·have HN:=Lib.hid (mt (itoas_nil (l:=r.tags) hk).1 hk0)
     have y2:decide (0<k)=true:=by simp; omega
     go_wp2_with fail
     refine (Hd.out _).mono ?_
     rintro e w1 ⟨rfl,hb1⟩
     go_wp2_with fail
     go_roundw
     case rel=>exact ⟨k+1,_,by omega,by go_num,rfl,by rw [ByteArray.size_append,ByteArray.size_append]; show _+1+_≤_; omega,hb.trans (hb1.mono hb.size),jst Hx.out HN.out hs.out⟩
     case measure=>simp [intOf]; omega
   ·obtain rfl:k=r.tags.length:=by omega
    go_wp2_with fail
    go_ret
    exact ⟨congrArg (fun t=>Ending.returned (Value.string t)) (hs.out.trans hT.out.symm),HL.out.below.trans (hb.mono HL.out.size)⟩
theorem textP_pos (r:Rq):0<(textP r).size:=by
 unfold textP
 simp only [ByteArray.size_append]
 have:(⟨#[35]⟩:ByteArray).size=1:=rfl
 omega
theorem rtexts_any (S:Nat→Prop) (l:List Rq) (v:Value) (w:World) (h:ReqsAt S w v l) (hl:l.length≤6) (hok:∀ r ∈ l,ReqOk r) :
  Calls Tryz.prog 46 #[v] w (Ret (.string (textsM l)) w):=by
 obtain ⟨A,cap,rfl,_,hcap⟩:=h.form
 have Hsz:=Lib.hid (txs_size h hok)
 have H:=Lib.hid h
 have Hok:=Lib.hid hok
 clear h hok
 go_enter Tryz.func46,Tryz.ntmps46
 go_wp2_with fail
 go_loopw [3,4] (fun s i wr=>∃ (k:Nat) (st:ByteArray),k≤l.length∧i=.int .i64 k∧s=.string st∧st.size≤400 * k∧k≤st.size∧Below w.heap.size w wr∧Hid (st=⟨#[]⟩ ++ joinP (txs l k) 32)) (fun _ i _=>l.length - (intOf i).toNat)
 case atStart=>exact ⟨0,⟨#[]⟩,by omega,rfl,rfl,Nat.le_refl _,Nat.le_refl _,Below.refl _ _,by apply Go.WideShapes.bytes_inj; simp [txs,joinP,Lib.join,List.intercalate]⟩
 case round =>
  obtain ⟨k,st,hk,rfl,rfl,hst,hsk,hb,hs⟩:=hrel
  by_cases hlt:k<l.length
  ·obtain ⟨b,off,rfl,_,_,hc⟩:=(H.out.below hb).at_ (by omega)
   have hx:l[k]?=some l[k]:=List.getElem?_eq_getElem hlt
   obtain ⟨Ad,cd,At,ct,hreq,c0,c1,c2,c3,c4,c5⟩:=hc k _ hx
   have Hreq:=Lib.hid hreq
   have Hr:=Lib.hid (Hok.out _ (List.mem_of_getElem? hx))
   have Hdec:=Lib.hid (txs_succ hx)
   have hzs:=Hsz.out (textP l[k]) (by unfold txs; rw [List.take_length]; exact List.mem_map_of_mem (List.mem_of_getElem? hx))
   have hzp:=textP_pos l[k]
   clear hx hc hreq
   generalize l[k]=r at *
   have hk1:(k:Int)<(l.length:Int):=by omega
   have Hd:=Lib.hid (fun v w h=>rreqtext_any S r v w h (Nat.le_trans Hr.out.tags.2 (by decide)))
   generalize textP r=dx at *
   have y0:¬ (9223372036854775807<st.size+1):=by omega
   have y1:¬ (9223372036854775807<st.size+dx.size):=by omega
   have y3:¬ (9223372036854775807<st.size+1+dx.size):=by omega
   by_cases hk0:k=0
   ·have HN:=Lib.hid ((txs_nil (l:=l) hk).2 hk0)
    have y2:decide (0<k)=false:=by simp; omega
    clear hk0
    go_wp2_with fail
    refine (Hd.out _ wr Hreq.out).mono ?_
    rintro e w1 ⟨rfl,hb1⟩
    go_wp2_with fail
    go_roundw
    case rel=>exact ⟨k+1,_,by omega,by go_num,rfl,by rw [ByteArray.size_append]; omega,by rw [ByteArray.size_append]; omega,hb.trans (hb1.mono hb.size),jst0 Hdec.out HN.out hs.out⟩
    case measure=>simp [intOf]; omega
   ·have HN:=Lib.hid (mt (txs_nil (l:=l) hk).1 hk0)
    have y2:decide (0<k)=true:=by simp; omega
    go_wp2_with fail
    refine (Hd.out _ wr Hreq.out).mono ?_
    rintro e w1 ⟨rfl,hb1⟩
    go_wp2_with fail
    go_roundw
    case rel=>exact ⟨k+1,_,by omega,by go_num,rfl,by rw [ByteArray.size_append,ByteArray.size_append]; show _+1+_≤_; omega,by rw [ByteArray.size_append,ByteArray.size_append]; omega,hb.trans (hb1.mono hb.size),jst Hdec.out HN.out hs.out⟩
    case measure=>simp [intOf]; omega
  ·obtain rfl:k=l.length:=by omega
   by_cases h0:l=[]
   ·have HT:Hid (textsM l=⟨#[45]⟩):=show _=_ by unfold textsM; rw [if_pos h0]; rfl
    have hz:st.toList.isEmpty=true:=by
     have h9:l.length=0:=by rw [h0]; rfl
     have h8:st.size=0:=by omega
     have h7:st=ByteArray.empty:=by simpa using h8
     rw [h7,ByteArray.toList_eq]; rfl
    clear h0
    go_wp2_with fail
    go_ret
    rw [HT.out]
    exact ⟨rfl,hb⟩
   ·have HT:Hid (textsM l=st):=show _=_ by
     rw [hs.out]; unfold textsM txs; rw [if_neg h0,List.take_length]
     apply Go.WideShapes.bytes_inj; simp
    have hz:st.toList.isEmpty=false:=by
     have:=List.length_pos_iff.2 h0
     cases he:st.toList.isEmpty with
     |false=>rfl
     |true =>
      have h5:l.length≤0:=by rw [empty_of he] at hsk; exact hsk
      omega
    clear h0
    go_wp2_with fail
    go_ret
    rw [HT.out]
    exact ⟨rfl,hb⟩
end Go.Proofs.YtaeadmlgffaegaaGreatDoor
