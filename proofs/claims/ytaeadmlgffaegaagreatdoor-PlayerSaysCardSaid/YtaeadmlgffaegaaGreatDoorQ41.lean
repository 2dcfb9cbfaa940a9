/- The disk crashes: the reference's Crash. -/
import Derived.Test.YtaeadmlgffaegaaGreatDoorQ40
import Derived.Maps.StringElems
import Derived.Shelf.Strings.Builder1
import Derived.Shelf.Strings.Builder2
import Derived.Shelf.Strings.OnBuilder
import Derived.Shelf.Strconv.Itoa0
import Derived.Shelf.Strconv.Itoa1
import Derived.Shelf.LaysM
import Derived.Shelf.Strconv.Itoa2
import Derived.Shelf.Strconv.Itoa3
import Derived.Ground.Names2Prog
import Derived.Shelf.Slices.SearchI
import Derived.Test.YtaeadmlgffaegaaGreatDoorProg
import Derived.Lib.OthersKept
import Derived.Lib.IndexAny
import Derived.WalkMore
import Derived.Lib.AppendIntMem
set_option linter.unusedSimpArgs false
set_option linter.unusedVariables false
set_option maxRecDepth 100000
set_option maxHeartbeats 8000000
namespace Go.Proofs.YtaeadmlgffaegaaGreatDoor
open Go.RowKit
theorem rdevcrash_any (S F:Nat→Prop) (w:World) (b:Nat) (d:Dv) (keep:Nat) (hkeep:keep<18446744073709551616) (h:DevAt TDr TPr S F w b d) (hp:∀ q ∈ d.waits,q.1<32) (hwl:d.waits.length≤1000000000000) (hF:∀ k,F k→k<w.heap.size) (hSF:∀ k,S k→¬ F k) :
  Calls Tryz.prog 48 #[.pointer (some ⟨b,0,none⟩),.int .u64 (keep:Int)] w (RetCrash TDr TPr S F w b (d.crash keep)):=by
 obtain ⟨wv,lv,cs,hrow,hw,hl,hcs,hok⟩:=h.two
 obtain ⟨A,cap,rfl,hA1,hA2⟩:=hw.form
 have c64:w.cell? ⟨b,64,none⟩=some (.slice A d.waits.length cap):=by rw [cell_of_row _ _ _ _ _ _ hrow]; simpa using devCells_at_w d _ lv h.kept h.now
 have hbl:=(Array.getElem?_eq_some_iff.1 hrow).1
 have H:=Lib.hid h
 have Hw:=Lib.hid hw
 have Hrow:=Lib.hid hrow
 have Hp:=Lib.hid hp
 have HF:=Lib.hid hF
 have HS:=Lib.hid hSF
 clear h hw hrow hl hcs hok hp hF hSF
 go_enter Tryz.func48,Tryz.ntmps48
 go_wp2_with fail
 go_loopw [4] (fun j wr=>∃ k:Nat,k≤d.waits.length∧j=.int .i64 k∧Hid (Chg (fun q=>q=b) w wr)∧Hid (wr.heap[b]?=some (.cells (devCells { d with kept:=Dv.keepFrom keep d.kept (d.waits.take k) 0 } (.slice A d.waits.length cap) lv).toArray TDr (0,0)))) (fun j _=>d.waits.length - (intOf j).toNat)
 case atStart=>exact ⟨0,by omega,rfl,Chg.refl,Hrow.out⟩
 case round =>
  obtain ⟨k,hk,rfl,hcw,hrw⟩:=hrel
  have hkl:(Dv.keepFrom keep d.kept (d.waits.take k) 0).length=32:=by rw [Dv.keepFrom_len,H.out.kept]
  have z64:wr.cell? ⟨b,64,none⟩=some (.slice A d.waits.length cap):=by rw [cell_of_row _ _ _ _ _ _ hrw.out]; simpa using devCells_at_w { d with kept:=Dv.keepFrom keep d.kept (d.waits.take k) 0 } _ lv hkl H.out.now
  by_cases hlt:k<d.waits.length
  ·have hx:d.waits[k]?=some d.waits[k]:=List.getElem?_eq_getElem hlt
   generalize d.waits[k]=x at hx
   obtain ⟨p,s⟩:=x
   have hp32:=Hp.out _ (List.mem_of_getElem? hx)
   simp only at hp32
   obtain ⟨g,off,rfl,hFg,hgl,hcell⟩:=Hw.out.rd.at_ (by omega) (by omega)
   have hgb:g≠b:=by
    rcases Hw.out.1.2 with ⟨hv,_⟩ | ⟨_,_,_,hv,_⟩
    ·cases hv
    ·cases hv
     exact own_ne Hw.out.1 Hrow.out (by decide) g rfl
   have hpc:=putCells_at _ _ _ _ hx
   have x0:wr.cell? ⟨g,off+k * 2,none⟩=some (.int .i64 (p:Int)):=(World.cell?_of_block (w:=w) (hcw.out.block g hgl hgb)).trans (hcell _ _ hpc.1)
   have x1:wr.cell? ⟨g,off+k * 2+1,none⟩=some (.string s):=(World.cell?_of_block (w:=w) (hcw.out.block g hgl hgb)).trans (hcell _ _ hpc.2)
   have Hx:=Lib.hid hx
   have hk2:(k:Int)<(d.waits.length:Int):=by omega
   clear hx hcell hpc
   have hrow':=hrw.out
   have Hkl:=Lib.hid hkl
   obtain ⟨y,hy⟩:∃ y,(Dv.keepFrom keep d.kept (d.waits.take k) 0)[p]?=some y:=⟨_,List.getElem?_eq_getElem (by rw [Dv.keepFrom_len,H.out.kept]; exact hp32)⟩
   have hcy:wr.cell? ⟨b,p,none⟩=some (.string y):=by
    rw [cell_of_row _ _ _ _ _ _ hrow']
    have hlt:p<(Dv.keepFrom keep d.kept (d.waits.take k) 0).length:=(List.getElem?_eq_some_iff.1 hy).1
    simp only [List.getElem?_toArray]
    unfold devCells
    rw [List.getElem?_append_left (by simpa using hlt),List.getElem?_map,hy]
    rfl
   have hfy:wr.frozen? ⟨b,p,none⟩=false :=
    frozen_of_row _ _ _ _ _ hrow'
   have hpi:(p:Int)<32:=by omega
   have Hcw:=Lib.hid hcw.out
   clear hy hrow' hcw hkl
   rcases Bool.eq_false_or_eq_true (Dv.bit keep k) with hb | hb
   ·have hbit:(bits BinOp.and IntKind.u64 ((keep:Int) / 2 ^ (k % 64)) 1 == 1)=true:=by rw [keep_bit hkeep]; exact hb
    have Hb:=Lib.hid hb
    clear hb
    go_wp2_with fail
    go_region
    go_wp2_with fail
    go_roundw
    case rel =>
     refine ⟨k+1,by omega,by go_num,(Hcw.out.setCell (.inl rfl) _).drew,?_⟩
     show _=_
     rw [Dv.keepFrom_succ Hx.out,Hb.out]
     have h9:=heap_setCell_same _ _ p _ _ (.string s) hrw.out
     rw [devCells_set_kept { d with kept:=Dv.keepFrom keep d.kept (d.waits.take k) 0 } _ _ Hkl.out p hp32] at h9
     exact h9
    case measure=>simp [intOf]; omega
   ·have hbit:(bits BinOp.and IntKind.u64 ((keep:Int) / 2 ^ (k % 64)) 1 == 1)=false:=by rw [keep_bit hkeep]; exact hb
    have Hb:=Lib.hid hb
    clear hb
    go_wp2_with fail
    go_roundw
    case rel =>
     refine ⟨k+1,by omega,by go_num,Hcw.out,?_⟩
     show _=_
     rw [Dv.keepFrom_succ Hx.out,Hb.out]
     exact hrw.out
    case measure=>simp [intOf]; omega
  ·obtain rfl:k=d.waits.length:=by omega
   have hrow':=hrw.out
   rw [List.take_of_length_le (Nat.le_refl _)] at hrow' hkl
   generalize hK:Dv.keepFrom keep d.kept d.waits 0=K at hrow' hkl
   have hk':K.length=32:=hkl
   have hn':d.now.length=32:=H.out.now
   have HR:Hid (wr.rangeAt b 0 (K.map .string)):=range_kept hrow'
   have HT:Hid (wr.there b 32 (K.map Value.string).toArray.size):=there_of_row hrow' 32 _ (by rw [List.size_toArray,List.size_toArray,List.length_map,devCells_len { d with kept:=K } _ _ hk' hn']; omega)
   have Hs:Hid ((Tryz.prog.info? 45).map (·.size)=some (K.map Value.string).length):=show _=_ by rw [List.length_map,hk']; kernel_rfl
   have H1:Hid ((K.map Value.string).toArray.all (·.oneCell')=true):=all_oneCell_toArray (fun v hv=>by obtain ⟨s,_,rfl⟩:=List.mem_map.1 hv; rfl)
   have hrow1:=heap_setCells_row b _ (K.map .string) 32 wr _ hrow'
   rw [devCells_back { d with kept:=K } (.slice A d.waits.length cap) lv hk' hn'] at hrow1
   obtain ⟨W1,hW1⟩:∃ u,wr.setCells b 32 (K.map .string)=u:=⟨_,rfl⟩
   rw [hW1] at hrow1
   have c64:W1.cell? ⟨b,64,none⟩=some (.slice A d.waits.length cap):=by rw [cell_of_row _ _ _ _ _ _ hrow1]; simpa using devCells_at_w { d with kept:=K,now:=K } (.slice A d.waits.length cap) lv hk' hk'
   have f64:W1.frozen? ⟨b,64,none⟩=false:=frozen_of_row _ _ _ _ _ hrow1
   have hrow2:=heap_setCell_same _ _ 64 _ _ (.slice none 0 0) hrow1
   rw [devCells_set_w { d with kept:=K,now:=K } _ _ _ hk' hk'] at hrow2
   have c65:(W1.setCell ⟨b,64,none⟩ (.slice none 0 0)).cell? ⟨b,65,none⟩=some lv:=by rw [cell_of_row _ _ _ _ _ _ hrow2]; simpa using devCells_at_l { d with kept:=K,now:=K } (.slice none 0 0) lv hk' hk'
   have f65:(W1.setCell ⟨b,64,none⟩ (.slice none 0 0)).frozen? ⟨b,65,none⟩=false:=frozen_of_row _ _ _ _ _ hrow2
   have hrow3:=heap_setCell_same _ _ 65 _ _ (.slice none 0 0) hrow2
   rw [devCells_set_l { d with kept:=K,now:=K } _ _ _ hk' hk'] at hrow3
   have hfb:=H.out.fb
   have hcr:Chg F wr W1:=hW1▸Chg.refl.setCells (.inl hfb) _ _
   have hc:=(hcr.setCell (p:=⟨b,64,none⟩) (.inl hfb) (.slice none 0 0)).setCell (p:=⟨b,65,none⟩) (.inl hfb) (.slice none 0 0)
   have Hrow3:=Lib.hid hrow3
   have Hc:=Lib.hid ((hcw.out.mono (fun q hq=>hq▸hfb)).trans (hc.mono (fun q hq=>.inl hq)))
   have HW:=Lib.hid hW1
   have HKk:=Lib.hid hK
   have Hfb:=Lib.hid hfb
   clear hrow' hrow1 hrow2 hrow3 hc hcr hW1 hrw hcw hK hfb hkl
   go_wp2_with (first
    |(refine wpList_load_mid rfl 45 (.tmp 44) rfl b 0 rfl (K.map .string) _ HR.out Tryz.underlying45 rfl Hs.out ?_)
    |(refine wpList_store_mid rfl 45 (.tmp 47) (.tmp 45) rfl b 32 (K.map Value.string).toArray rfl rfl HT.out (by rw [List.size_toArray]; exact Hs.out) H1.out ?_
      rw [show wr.setCells b 32 (K.map Value.string).toArray.toList=W1 from HW.out]))
   go_end0
   refine ⟨rfl,?_,Hc.out⟩
   have he:d.crash keep=⟨K,K,[],[]⟩:=by unfold Dv.crash; rw [HKk.out]
   rw [he]
   exact ⟨Hfb.out,hk',hk',_,_,[],Hrow3.out,Ow.nil,Ow.nil,rfl,by simp⟩
end Go.Proofs.YtaeadmlgffaegaaGreatDoor
namespace Go.Proofs.YtaeadmlgffaegaaGreatDoor
open Go.RowKit Go.Maps Go.WideShapes Go.WideMaps Go.WideElems
def formW:List (List UInt8 × Nat):=[([98,117,115,121],0),([99,108,101,97,110],0),([99,114,97,115,104],1),([100,105,114,116,121],0),([100,105,115,112,97,116,99,104],0),([101,110,100],1),([102,97,117,108,116],1),([103,111,116],1),([113,117,101,117,101],0),([114,101,97,100],2),([114,111,117,110,100],0),([115,101,116,116,108,101],1),([115,121,110,99],1),([116,105,99,107],0),([119,114,105,116,101],3)]
def formK (s:ByteArray):Option Nat:=(formW.find? fun p=>p.1 == s.toList).map (·.2)
def formS (k:Nat):List UInt8:=if k=0 then [] else if k=1 then [97] else if k=2 then [97,98] else [97,98,100]
def formT (s:ByteArray):Value:=match formK s with
 |some k=>.tuple #[.string ⟨(formS k).toArray⟩,.bool true]
 |none=>.tuple #[.string ⟨#[]⟩,.bool false]
theorem formK_le {s:ByteArray} {k:Nat} (h:formK s=some k):k≤3:=by
 unfold formK at h
 cases hf:formW.find? (fun p=>p.1 == s.toList) with
 |none=>rw [hf] at h; cases h
 |some p =>
  rw [hf] at h
  obtain rfl:=Option.some.inj h
  have hm:=List.mem_of_find?_eq_some hf
  revert hm
  generalize p=q
  revert q
  decide
theorem rform_any (s:ByteArray) (w:World):Calls Tryz.prog 18 #[.string s] w (RetSame (formT s) w):=by
 rcases Bool.eq_false_or_eq_true (s.toList == [114,101,97,100]) with ht | h0
 rotate_left
 rcases Bool.eq_false_or_eq_true (s.toList == [119,114,105,116,101]) with ht | h1
 rotate_left
 rcases Bool.eq_false_or_eq_true (s.toList == [115,121,110,99]) with ht | h2
 rotate_left
 rcases Bool.eq_false_or_eq_true (s.toList == [103,111,116]) with ht | h3
 rotate_left
 rcases Bool.eq_false_or_eq_true (s.toList == [116,105,99,107]) with ht | h4
 rotate_left
 rcases Bool.eq_false_or_eq_true (s.toList == [99,108,101,97,110]) with ht | h5
 rotate_left
 rcases Bool.eq_false_or_eq_true (s.toList == [100,105,115,112,97,116,99,104]) with ht | h6
 rotate_left
 rcases Bool.eq_false_or_eq_true (s.toList == [101,110,100]) with ht | h7
 rotate_left
 rcases Bool.eq_false_or_eq_true (s.toList == [102,97,117,108,116]) with ht | h8
 rotate_left
 rcases Bool.eq_false_or_eq_true (s.toList == [114,111,117,110,100]) with ht | h9
 rotate_left
 rcases Bool.eq_false_or_eq_true (s.toList == [115,101,116,116,108,101]) with ht | h10
 rotate_left
 rcases Bool.eq_false_or_eq_true (s.toList == [113,117,101,117,101]) with ht | h11
 rotate_left
 rcases Bool.eq_false_or_eq_true (s.toList == [98,117,115,121]) with ht | h12
 rotate_left
 rcases Bool.eq_false_or_eq_true (s.toList == [100,105,114,116,121]) with ht | h13
 rotate_left
 rcases Bool.eq_false_or_eq_true (s.toList == [99,114,97,115,104]) with ht | h14
 rotate_left
 ·have e:formT s=.tuple #[.string ⟨#[]⟩,.bool false]:=by
   have hf:formK s=none:=by
    unfold formK
    have:formW.find? (fun p=>p.1 == s.toList)=none:=by
     rw [List.find?_eq_none]
     intro p hp
     unfold formW at hp
     simp only [List.mem_cons,List.mem_nil_iff,or_false] at hp
     rcases hp with rfl | rfl | rfl | rfl | rfl | rfl | rfl | rfl | rfl | rfl | rfl | rfl | rfl | rfl | rfl
     all_goals (intro hh; simp_all [Bool.beq_comm] )
    rw [this]; rfl
   unfold formT; rw [hf]
  rw [e]
  clear e
  go_enter Tryz.func18,Tryz.ntmps18
  go_wp2
  go_ret2
  exact ⟨rfl,rfl⟩
 all_goals
  have e1:=eq_of_beq ht
  clear ht
  go_enter Tryz.func18,Tryz.ntmps18
  go_wp2
  go_ret2
  refine ⟨?_,rfl⟩
  unfold formT formK
  rw [e1]
  rfl
end Go.Proofs.YtaeadmlgffaegaaGreatDoor
namespace Go.Proofs
open Go.Shelf
def Tryz.lays156_ren:Go.Shelf.Ren:=⟨fun | 156=>74 | 165=>117 | 166=>118 | 169=>119 | 240=>147 | 241=>148 | 276=>168 | 277=>169 | n=>n,fun | 31=>121 | 9=>9 | 3=>3 | 4=>4 | 0=>0 | 20=>20 | 72=>186 | 76=>188 | 70=>184 | 37=>156 | 75=>59 | 127=>214 | 164=>228 | 5=>5 | 80=>190 | n=>n,fun | n=>n⟩
theorem Tryz.lays156:Go.Proofs.Lays.n156 Tryz.prog Tryz.lays156_ren:={
 mixed:=by kernel_rfl
 f156:=Tryz.func74.trans (congrArg some (by kernel_rfl))
 f165:=Tryz.func117.trans (congrArg some (by kernel_rfl))
 f166:=Tryz.func118.trans (congrArg some (by kernel_rfl))
 f169:=Tryz.func119.trans (congrArg some (by kernel_rfl))
 f240:=Tryz.func147.trans (congrArg some (by kernel_rfl))
 f241:=Tryz.func148.trans (congrArg some (by kernel_rfl))
 f276:=Tryz.func168.trans (congrArg some (by kernel_rfl))
 f277:=Tryz.func169.trans (congrArg some (by kernel_rfl))
 t0:=Tryz.underlying0
 a0:=Tryz.isAgg0
 z0:=Tryz.sizeOf0
 v0:=Tryz.zeroValue0
 t3:=Tryz.underlying3
 a3:=Tryz.isAgg3
 z3:=Tryz.sizeOf3
 v3:=Tryz.zeroValue3
 t4:=Tryz.underlying4
 a4:=Tryz.isAgg4
 z4:=Tryz.sizeOf4
 v4:=Tryz.zeroValue4
 t9:=Tryz.underlying9
 a9:=Tryz.isAgg9
 z9:=Tryz.sizeOf9
 v9:=Tryz.zeroValue9
 t20:=Tryz.underlying20
 a20:=Tryz.isAgg20
 z20:=Tryz.sizeOf20
 v20:=Tryz.zeroValue20
 t31:=Tryz.underlying121
 a31:=Tryz.isAgg121
 z31:=Tryz.sizeOf121
 v31:=Tryz.zeroValue121
 t37:=Tryz.underlying156
 a37:=Tryz.isAgg156
 z37:=Tryz.sizeOf156
 v37:=Tryz.zeroValue156
 t70:=Tryz.underlying184
 a70:=Tryz.isAgg184
 z70:=Tryz.sizeOf184
 v70:=Tryz.zeroValue184
 t72:=Tryz.underlying186
 a72:=Tryz.isAgg186
 z72:=Tryz.sizeOf186
 v72:=Tryz.zeroValue186
 t75:=Tryz.underlying59
 a75:=Tryz.isAgg59
 z75:=Tryz.sizeOf59
 v75:=Tryz.zeroValue59
 t76:=Tryz.underlying188
 a76:=Tryz.isAgg188
 z76:=Tryz.sizeOf188
 v76:=Tryz.zeroValue188
 t127:=Tryz.underlying214
 a127:=Tryz.isAgg214
 z127:=Tryz.sizeOf214
 v127:=Tryz.zeroValue214
 t164:=Tryz.underlying228
 a164:=Tryz.isAgg228
 z164:=Tryz.sizeOf228
 v164:=Tryz.zeroValue228 }
theorem Tryz.Builder_Extra_156:Builder.Extra Tryz.prog Tryz.lays156_ren:={
 sizeBuilder:=by kernel_rfl
 liesBuilder:=by kernel_rfl
 t5:=Tryz.underlying5
 a5:=Tryz.isAgg5
 z5:=Tryz.sizeOf5
 v5:=Tryz.zeroValue5
 infoByte:=by kernel_rfl
 cellsByte:=by kernel_rfl
 sizeByte:=by kernel_rfl
 neB5:=by decide }
open Go.RowKit in
theorem Tryz.strings_Join_none (a:Option Addr) (c:Nat) (sep:ByteArray) (w:World) :
  Calls Tryz.prog 74 #[.slice a 0 c,.string sep] w fun e w'=>e=.returned (.string ⟨#[]⟩)∧w'=w:=Any.strings_Join_none Tryz.lays156 Tryz.Builder_Extra_156 a c sep w
open Go.RowKit in
theorem Tryz.strings_Join (bk o c:Nat) (xs:List ByteArray) (sep:ByteArray) (w:World) (hcells:∀ (j:Nat) x,xs[j]?=some x→w.cell? ⟨bk,o+j,none⟩=some (.string x)) (hbk:bk<w.heap.size) (hN:xs.length≤140737488355328) (hcap:xs.length≤c) (hlen:(Lib.join (xs.map (·.data.toList)) sep.data.toList).length≤140737488355328) :
  Calls Tryz.prog 74 #[.slice (some ⟨bk,o,none⟩) xs.length c,.string sep] w fun e w'=>e=.returned (.string ⟨(Lib.join (xs.map (·.data.toList)) sep.data.toList).toArray⟩)∧Below w.heap.size w w':=Any.strings_Join Tryz.lays156 Tryz.Builder_Extra_156 bk o c xs sep w hcells hbk hN hcap hlen
def Tryz.laysM171_ren:Go.Shelf.Ren:=⟨fun | 171=>29 | 243=>72 | 246=>116 | 283=>143 | 284=>144 | 285=>145 | 286=>146 | 129=>164 | 317=>163 | 318=>165 | 319=>166 | 320=>167 | 337=>175 | 338=>176 | n=>n,fun | 3=>3 | 9=>9 | 2=>2 | 4=>4 | 171=>209 | 0=>0 | 53=>70 | 37=>156 | 5=>5 | 173=>212 | 212=>224 | 51=>225 | 20=>20 | 213=>226 | 46=>158 | 232=>239 | 233=>240 | n=>n,fun | 17=>0 | 18=>2 | 19=>3 | n=>n⟩
theorem Tryz.laysM171:Go.Proofs.LaysM.n171 Tryz.prog Tryz.laysM171_ren:={
 mixed:=by kernel_rfl
 f129:=Tryz.func164.trans (congrArg some (by kernel_rfl))
 f171:=Tryz.func29.trans (congrArg some (by kernel_rfl))
 f243:=Tryz.func72.trans (congrArg some (by kernel_rfl))
 f246:=Tryz.func116.trans (congrArg some (by kernel_rfl))
 f283:=Tryz.func143.trans (congrArg some (by kernel_rfl))
 f284:=Tryz.func144.trans (congrArg some (by kernel_rfl))
 f285:=Tryz.func145.trans (congrArg some (by kernel_rfl))
 f286:=Tryz.func146.trans (congrArg some (by kernel_rfl))
 f317:=Tryz.func163.trans (congrArg some (by kernel_rfl))
 f318:=Tryz.func165.trans (congrArg some (by kernel_rfl))
 f319:=Tryz.func166.trans (congrArg some (by kernel_rfl))
 f320:=Tryz.func167.trans (congrArg some (by kernel_rfl))
 f337:=Tryz.func175.trans (congrArg some (by kernel_rfl))
 f338:=Tryz.func176.trans (congrArg some (by kernel_rfl))
 t0:=Tryz.underlying0
 a0:=Tryz.isAgg0
 z0:=Tryz.sizeOf0
 v0:=Tryz.zeroValue0
 t2:=Tryz.underlying2
 a2:=Tryz.isAgg2
 z2:=Tryz.sizeOf2
 v2:=Tryz.zeroValue2
 t3:=Tryz.underlying3
 a3:=Tryz.isAgg3
 z3:=Tryz.sizeOf3
 v3:=Tryz.zeroValue3
 t4:=Tryz.underlying4
 a4:=Tryz.isAgg4
 z4:=Tryz.sizeOf4
 v4:=Tryz.zeroValue4
 t5:=Tryz.underlying5
 a5:=Tryz.isAgg5
 z5:=Tryz.sizeOf5
 v5:=Tryz.zeroValue5
 t9:=Tryz.underlying9
 a9:=Tryz.isAgg9
 z9:=Tryz.sizeOf9
 v9:=Tryz.zeroValue9
 t20:=Tryz.underlying20
 a20:=Tryz.isAgg20
 z20:=Tryz.sizeOf20
 v20:=Tryz.zeroValue20
 t37:=Tryz.underlying156
 a37:=Tryz.isAgg156
 z37:=Tryz.sizeOf156
 v37:=Tryz.zeroValue156
 t46:=Tryz.underlying158
 a46:=Tryz.isAgg158
 z46:=Tryz.sizeOf158
 v46:=Tryz.zeroValue158
 t51:=Tryz.underlying225
 a51:=Tryz.isAgg225
 z51:=Tryz.sizeOf225
 v51:=Tryz.zeroValue225
 t53:=Tryz.underlying70
 a53:=Tryz.isAgg70
 z53:=Tryz.sizeOf70
 v53:=Tryz.zeroValue70
 t171:=Tryz.underlying209
 a171:=Tryz.isAgg209
 z171:=Tryz.sizeOf209
 v171:=Tryz.zeroValue209
 t173:=Tryz.underlying212
 a173:=Tryz.isAgg212
 z173:=Tryz.sizeOf212
 v173:=Tryz.zeroValue212
 t212:=Tryz.underlying224
 a212:=Tryz.isAgg224
 z212:=Tryz.sizeOf224
 v212:=Tryz.zeroValue224
 t213:=Tryz.underlying226
 a213:=Tryz.isAgg226
 z213:=Tryz.sizeOf226
 t232:=Tryz.underlying239
 a232:=Tryz.isAgg239
 z232:=Tryz.sizeOf239
 v232:=Tryz.zeroValue239
 t233:=Tryz.underlying240
 a233:=Tryz.isAgg240
 z233:=Tryz.sizeOf240
 v233:=Tryz.zeroValue240
 g17:=by kernel_rfl
 g18:=by kernel_rfl
 g19:=by kernel_rfl
 i0:=by kernel_rfl
 i2:=by kernel_rfl
 i3:=by kernel_rfl
 i4:=by kernel_rfl
 i5:=by kernel_rfl
 i9:=by kernel_rfl
 i20:=by kernel_rfl
 i37:=by kernel_rfl
 i46:=by kernel_rfl
 i51:=by kernel_rfl
 i53:=by kernel_rfl
 i171:=by kernel_rfl
 i173:=by kernel_rfl
 i212:=by kernel_rfl
 i232:=by kernel_rfl
 i233:=by kernel_rfl
 m17:=by kernel_rfl
 m18:=by kernel_rfl
 m19:=by kernel_rfl }
open Go.RowKit Go.Sort Go.Lib in
theorem Tryz.strconv_Itoa (n:Int) (h0 : -9223372036854775808≤n) (h1:n≤9223372036854775807) (w:World) (htab:Lib.TabIs Tryz.prog w "internal/strconv.uint64pow10" .u64 Lib.pow10Tab) :
  Calls Tryz.prog 29 #[.int .i64 n] w fun e w'=>e=.returned (.string ⟨(Lib.itoa n).toArray⟩)∧∃ k os,w'=grow (w.drewN k) os:=Any.strconv_Itoa Tryz.laysM171 n h0 h1 w htab
end Go.Proofs
namespace Go.Proofs.YtaeadmlgffaegaaGreatDoor
open Go.RowKit Go.Sort
def blankB (s:ByteArray):Bool:=Lib.containsAny s.data.toList [32,10]
end Go.Proofs.YtaeadmlgffaegaaGreatDoor
namespace Go.Proofs.YtaeadmlgffaegaaGreatDoor
open Go.RowKit
structure Stp where
 word:ByteArray
 a:Int
 b:Int
 data:ByteArray
abbrev stpV (z:Stp):Value:=.agg #[.string z.word,.int .i64 z.a,.int .i64 z.b,.string z.data]
def partsB (k:Nat) (z:Stp):Bool:=(k<1 && z.a != 0) || (k<2 && z.b != 0) || (k<3 && !z.data.toList.isEmpty)
def boundB (z:Stp):Bool:=decide (z.a<0) || decide (999<z.a) || decide (z.b<0) || decide (999<z.b) || decide (9<(z.data.size:Int))
def checkM (z:Stp):Nat:=match formK z.word with
 |none=>3
 |some k=>if partsB k z then 3 else if boundB z then 1 else if blankB z.data || z.data.toList == [45] then 3 else 0
structure StpBox (T:TypeId) (b:Nat) (z:Stp) (w W:World):Prop where
 bel:Below w.heap.size w W
 lo:w.heap.size≤b
 hi:b<W.heap.size
 row:W.heap[b]?=some (.cells #[.string z.word,.int .i64 z.a,.int .i64 z.b,.string z.data] T (0,0))
theorem StpBox.new (T:TypeId) (z:Stp) (w:World):StpBox T w.heap.size z w (w.alloc (.cells #[.string z.word,.int .i64 z.a,.int .i64 z.b,.string z.data] T)) :=
 ⟨(Below.refl _ _).alloc (Nat.le_refl _) _,Nat.le_refl _,by simp,heap_alloc_new w _⟩
theorem StpBox.step {T:TypeId} {b:Nat} {z:Stp} {w W W':World} (h:StpBox T b z w W) (hb:Below W.heap.size W W'):StpBox T b z w W' :=
 ⟨h.bel.trans (hb.mono h.bel.size),h.lo,Nat.lt_of_lt_of_le h.hi hb.size,(hb.block _ h.hi).trans h.row⟩
theorem StpBox.c {T:TypeId} {b:Nat} {z:Stp} {w W:World} (h:StpBox T b z w W):W.cell? ⟨b,0,none⟩=some (.string z.word)∧W.cell? ⟨b,1,none⟩=some (.int .i64 z.a)∧W.cell? ⟨b,2,none⟩=some (.int .i64 z.b)∧W.cell? ⟨b,3,none⟩=some (.string z.data) :=
 ⟨cell_of_row _ _ 0 _ _ _ h.row,cell_of_row _ _ 1 _ _ _ h.row,cell_of_row _ _ 2 _ _ _ h.row,cell_of_row _ _ 3 _ _ _ h.row⟩
theorem formT_none {s:ByteArray} (h:formK s=none):formT s=.tuple #[.string ⟨#[]⟩,.bool false]:=by unfold formT; rw [h]
theorem formT_some {s:ByteArray} {k:Nat} (h:formK s=some k):formT s=.tuple #[.string ⟨(formS k).toArray⟩,.bool true]:=by unfold formT; rw [h]
theorem empty_of {s:ByteArray} (h:s.toList.isEmpty=true):s=⟨#[]⟩:=by
 rw [ByteArray.toList_eq] at h
 obtain ⟨⟨l⟩⟩:=s
 cases l with
 |nil=>rfl
 |cons _ _=>simp at h
end Go.Proofs.YtaeadmlgffaegaaGreatDoor
namespace Go.Proofs.YtaeadmlgffaegaaGreatDoor
open Go.RowKit
structure Env (w:World):Prop where
 tab:Lib.TabIs Tryz.prog w "internal/strconv.uint64pow10" .u64 Lib.pow10Tab
theorem var_below {P:Program} {w w':World} {n:String} {cs:Array Value} (h:w.var? P n=some cs) (hb:Below w.heap.size w w'):w'.var? P n=some cs:=by
 unfold World.var? at *
 cases hg:P.globalNamed n with
 |none=>simp [hg] at h
 |some g =>
  simp only [hg,Option.bind_some] at h ⊢
  have hlt:g<w.heap.size:=by
   rcases Nat.lt_or_ge g w.heap.size with h' | h'
   ·exact h'
   ·simp [Array.getElem?_eq_none h'] at h
  rw [hb.block _ hlt]
  exact h
theorem Env.below {w w':World} (h:Env w) (hb:Below w.heap.size w w'):Env w':=⟨var_below h.tab hb⟩
def itoaB (n:Int):ByteArray:=⟨(Lib.itoa n).toArray⟩
theorem itoa_any (n:Int) (w:World) (h0 : -9223372036854775808≤n) (h1:n≤9223372036854775807) (hE:Env w) :
  Calls Tryz.prog 29 #[.int .i64 n] w (Ret (.string (itoaB n)) w) :=
 (Tryz.strconv_Itoa n h0 h1 w hE.tab).mono fun e w' ⟨he,k,os,hw⟩=>⟨he,by rw [hw]; exact Lib.below_grow _ _ (Nat.le_refl _) _ _⟩
end Go.Proofs.YtaeadmlgffaegaaGreatDoor
