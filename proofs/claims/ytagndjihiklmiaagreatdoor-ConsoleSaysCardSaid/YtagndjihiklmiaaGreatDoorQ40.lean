/- The library's contracts at this program. -/
import Derived.Shelf.Strings.Builder1
import Derived.Shelf.Strings.Builder2
import Derived.Shelf.Strings.OnBuilder
import Derived.Shelf.Small.Utf8
import Derived.Shelf.Small.Strs
import Derived.Shelf.Utf8.RuneCount
import Derived.Shelf.Strconv.Atoi
import Derived.Shelf.Strconv.Itoa0
import Derived.Shelf.Strconv.Itoa1
import Derived.Shelf.LaysM
import Derived.Shelf.Strconv.Itoa2
import Derived.Shelf.Strconv.Itoa3
import Derived.Shelf.Strconv.AtoiErrFast
import Derived.Shelf.Strconv.ParseIntEmpty
import Derived.Shelf.Strconv.AtoiFail
import Derived.Shelf.Strconv.Clone
import Derived.Shelf.Strconv.SyntaxError
import Derived.Shelf.LaysC
import Derived.Shelf.Strconv.ToError
import Derived.Shelf.Strconv.Lower
import Derived.Shelf.Strconv.ParseUint10
import Derived.Shelf.Strconv.ParseUint10Empty
import Derived.Shelf.Strconv.ParseUint10Any
import Derived.Shelf.Strconv.ParseInt10
import Derived.Shelf.Strconv.AtoiLong
import Derived.Shelf.Strconv.AtoiInnerAll
import Derived.Shelf.Strconv.RangeError
import Derived.Shelf.Strconv.ToErrorRange
import Derived.Shelf.Strconv.AtoiAll
import Derived.Shelf.Strconv.ErrVarAll
import Derived.Shelf.Strings.Search1
import Derived.Shelf.Strings.Search2
import Derived.Shelf.Strings.Search3
import Derived.Shelf.Strings.Count
import Derived.Shelf.Strings.Shaped
import Derived.Shelf.Strings.Split
import Derived.Shelf.Strings.SplitShaped
import Derived.Shelf.Unicode.Decode
import Derived.Shelf.Strings.Runes
import Derived.Shelf.Strings.RuneCount
import Derived.Shelf.Strings.IndexAny
import Derived.Shelf.Strings.AsciiSet
import Derived.Shelf.Strings.IndexAnyAll
import Derived.Shelf.Strings.Explode
import Derived.Shelf.Unicode.DecodeSlow
import Derived.Shelf.Unicode.DecodeAny
import Derived.Ground.Names2Prog
import Derived.Shelf.Slices.SearchI
import Derived.Test.YtagndjihiklmiaaGreatDoorProg
import Derived.Test.YtagndjihiklmiaaGreatDoorQ1
import Derived.Lib.OthersKept
import Derived.Lib.IndexAny
import Derived.Deep.LoopGhost
import Derived.WalkMore
set_option linter.unusedSimpArgs false
set_option linter.unusedVariables false
set_option maxRecDepth 100000
set_option maxHeartbeats 8000000
namespace Go.Proofs
open Go.Shelf
def Tryz.lays156_ren:Go.Shelf.Ren:=⟨fun | 156=>98 | 165=>138 | 166=>139 | 169=>140 | 240=>175 | 241=>176 | 276=>204 | 277=>205 | n=>n,fun | 31=>22 | 9=>9 | 3=>3 | 4=>4 | 0=>0 | 20=>20 | 72=>206 | 76=>148 | 70=>204 | 37=>131 | 75=>25 | 127=>241 | 164=>263 | 5=>5 | 80=>208 | n=>n,fun | n=>n⟩
theorem Tryz.lays156:Go.Proofs.Lays.n156 Tryz.prog Tryz.lays156_ren:={
 mixed:=by kernel_rfl
 f156:=Tryz.func98.trans (congrArg some (by kernel_rfl))
 f165:=Tryz.func138.trans (congrArg some (by kernel_rfl))
 f166:=Tryz.func139.trans (congrArg some (by kernel_rfl))
 f169:=Tryz.func140.trans (congrArg some (by kernel_rfl))
 f240:=Tryz.func175.trans (congrArg some (by kernel_rfl))
 f241:=Tryz.func176.trans (congrArg some (by kernel_rfl))
 f276:=Tryz.func204.trans (congrArg some (by kernel_rfl))
 f277:=Tryz.func205.trans (congrArg some (by kernel_rfl))
 t0:=Tryz.underlying0
 a0:=Tryz.isAgg0
 z0:=Tryz.sizeOf0
 v0:=Tryz.zeroValue0
 t3:=Tryz.underlying3
 a3:=Tryz.isAgg3
 z3:=Tryz.sizeOf3
 v3:=Tryz.zeroValue3
 t4:=Tryz.underlying4
 a4:=Tryz.isAgg4
 z4:=Tryz.sizeOf4
 v4:=Tryz.zeroValue4
 t9:=Tryz.underlying9
 a9:=Tryz.isAgg9
 z9:=Tryz.sizeOf9
 v9:=Tryz.zeroValue9
 t20:=Tryz.underlying20
 a20:=Tryz.isAgg20
 z20:=Tryz.sizeOf20
 v20:=Tryz.zeroValue20
 t31:=Tryz.underlying22
 a31:=Tryz.isAgg22
 z31:=Tryz.sizeOf22
 v31:=Tryz.zeroValue22
 t37:=Tryz.underlying131
 a37:=Tryz.isAgg131
 z37:=Tryz.sizeOf131
 v37:=Tryz.zeroValue131
 t70:=Tryz.underlying204
 a70:=Tryz.isAgg204
 z70:=Tryz.sizeOf204
 v70:=Tryz.zeroValue204
 t72:=Tryz.underlying206
 a72:=Tryz.isAgg206
 z72:=Tryz.sizeOf206
 v72:=Tryz.zeroValue206
 t75:=Tryz.underlying25
 a75:=Tryz.isAgg25
 z75:=Tryz.sizeOf25
 v75:=Tryz.zeroValue25
 t76:=Tryz.underlying148
 a76:=Tryz.isAgg148
 z76:=Tryz.sizeOf148
 v76:=Tryz.zeroValue148
 t127:=Tryz.underlying241
 a127:=Tryz.isAgg241
 z127:=Tryz.sizeOf241
 v127:=Tryz.zeroValue241
 t164:=Tryz.underlying263
 a164:=Tryz.isAgg263
 z164:=Tryz.sizeOf263
 v164:=Tryz.zeroValue263 }
theorem Tryz.Builder_Extra_156:Builder.Extra Tryz.prog Tryz.lays156_ren:={
 sizeBuilder:=by kernel_rfl
 liesBuilder:=by kernel_rfl
 t5:=Tryz.underlying5
 a5:=Tryz.isAgg5
 z5:=Tryz.sizeOf5
 v5:=Tryz.zeroValue5
 infoByte:=by kernel_rfl
 cellsByte:=by kernel_rfl
 sizeByte:=by kernel_rfl
 neB5:=by decide }
open Go.RowKit in
theorem Tryz.strings_Join_none (a:Option Addr) (c:Nat) (sep:ByteArray) (w:World) :
  Calls Tryz.prog 98 #[.slice a 0 c,.string sep] w fun e w'=>e=.returned (.string ⟨#[]⟩)∧w'=w:=Any.strings_Join_none Tryz.lays156 Tryz.Builder_Extra_156 a c sep w
open Go.RowKit in
theorem Tryz.strings_Join (bk o c:Nat) (xs:List ByteArray) (sep:ByteArray) (w:World) (hcells:∀ (j:Nat) x,xs[j]?=some x→w.cell? ⟨bk,o+j,none⟩=some (.string x)) (hbk:bk<w.heap.size) (hN:xs.length≤140737488355328) (hcap:xs.length≤c) (hlen:(Lib.join (xs.map (·.data.toList)) sep.data.toList).length≤140737488355328) :
  Calls Tryz.prog 98 #[.slice (some ⟨bk,o,none⟩) xs.length c,.string sep] w fun e w'=>e=.returned (.string ⟨(Lib.join (xs.map (·.data.toList)) sep.data.toList).toArray⟩)∧Below w.heap.size w w':=Any.strings_Join Tryz.lays156 Tryz.Builder_Extra_156 bk o c xs sep w hcells hbk hN hcap hlen
def Tryz.lays137_ren:Go.Shelf.Ren:=⟨fun | 137=>186 | 217=>179 | 266=>206 | n=>n,fun | 9=>9 | 5=>5 | 3=>3 | n=>n,fun | n=>n⟩
theorem Tryz.lays137:Go.Proofs.Lays.n137 Tryz.prog Tryz.lays137_ren:={
 mixed:=by kernel_rfl
 f137:=Tryz.func186.trans (congrArg some (by kernel_rfl))
 f217:=Tryz.func179.trans (congrArg some (by kernel_rfl))
 f266:=Tryz.func206.trans (congrArg some (by kernel_rfl))
 t3:=Tryz.underlying3
 a3:=Tryz.isAgg3
 z3:=Tryz.sizeOf3
 v3:=Tryz.zeroValue3
 t5:=Tryz.underlying5
 a5:=Tryz.isAgg5
 z5:=Tryz.sizeOf5
 v5:=Tryz.zeroValue5
 t9:=Tryz.underlying9
 a9:=Tryz.isAgg9
 z9:=Tryz.sizeOf9
 v9:=Tryz.zeroValue9 }
open Go.RowKit in
theorem Tryz.strings_IndexByte (s:ByteArray) (c:Int) (w:World) :
  Calls Tryz.prog 186 #[.string s,.int .u8 c] w fun e w'=>e=.returned (.int .i64 (Lib.indexByte s.data.toList c.toNat.toUInt8))∧w'=w:=Any.strings_IndexByte Tryz.lays137 s c w
def Tryz.laysM171_ren:Go.Shelf.Ren:=⟨fun | 171=>51 | 243=>96 | 246=>137 | 283=>171 | 284=>172 | 285=>173 | 286=>174 | 129=>200 | 317=>199 | 318=>201 | 319=>202 | 320=>203 | 337=>214 | 338=>215 | n=>n,fun | 3=>3 | 9=>9 | 2=>2 | 4=>4 | 171=>236 | 0=>0 | 53=>83 | 37=>131 | 5=>5 | 173=>239 | 212=>259 | 51=>260 | 20=>20 | 213=>261 | 46=>133 | 232=>283 | 233=>284 | n=>n,fun | 17=>3 | 18=>6 | 19=>7 | n=>n⟩
theorem Tryz.laysM171:Go.Proofs.LaysM.n171 Tryz.prog Tryz.laysM171_ren:={
 mixed:=by kernel_rfl
 f129:=Tryz.func200.trans (congrArg some (by kernel_rfl))
 f171:=Tryz.func51.trans (congrArg some (by kernel_rfl))
 f243:=Tryz.func96.trans (congrArg some (by kernel_rfl))
 f246:=Tryz.func137.trans (congrArg some (by kernel_rfl))
 f283:=Tryz.func171.trans (congrArg some (by kernel_rfl))
 f284:=Tryz.func172.trans (congrArg some (by kernel_rfl))
 f285:=Tryz.func173.trans (congrArg some (by kernel_rfl))
 f286:=Tryz.func174.trans (congrArg some (by kernel_rfl))
 f317:=Tryz.func199.trans (congrArg some (by kernel_rfl))
 f318:=Tryz.func201.trans (congrArg some (by kernel_rfl))
 f319:=Tryz.func202.trans (congrArg some (by kernel_rfl))
 f320:=Tryz.func203.trans (congrArg some (by kernel_rfl))
 f337:=Tryz.func214.trans (congrArg some (by kernel_rfl))
 f338:=Tryz.func215.trans (congrArg some (by kernel_rfl))
 t0:=Tryz.underlying0
 a0:=Tryz.isAgg0
 z0:=Tryz.sizeOf0
 v0:=Tryz.zeroValue0
 t2:=Tryz.underlying2
 a2:=Tryz.isAgg2
 z2:=Tryz.sizeOf2
 v2:=Tryz.zeroValue2
 t3:=Tryz.underlying3
 a3:=Tryz.isAgg3
 z3:=Tryz.sizeOf3
 v3:=Tryz.zeroValue3
 t4:=Tryz.underlying4
 a4:=Tryz.isAgg4
 z4:=Tryz.sizeOf4
 v4:=Tryz.zeroValue4
 t5:=Tryz.underlying5
 a5:=Tryz.isAgg5
 z5:=Tryz.sizeOf5
 v5:=Tryz.zeroValue5
 t9:=Tryz.underlying9
 a9:=Tryz.isAgg9
 z9:=Tryz.sizeOf9
 v9:=Tryz.zeroValue9
 t20:=Tryz.underlying20
 a20:=Tryz.isAgg20
 z20:=Tryz.sizeOf20
 v20:=Tryz.zeroValue20
 t37:=Tryz.underlying131
 a37:=Tryz.isAgg131
 z37:=Tryz.sizeOf131
 v37:=Tryz.zeroValue131
 t46:=Tryz.underlying133
 a46:=Tryz.isAgg133
 z46:=Tryz.sizeOf133
 v46:=Tryz.zeroValue133
 t51:=Tryz.underlying260
 a51:=Tryz.isAgg260
 z51:=Tryz.sizeOf260
 v51:=Tryz.zeroValue260
 t53:=Tryz.underlying83
 a53:=Tryz.isAgg83
 z53:=Tryz.sizeOf83
 v53:=Tryz.zeroValue83
 t171:=Tryz.underlying236
 a171:=Tryz.isAgg236
 z171:=Tryz.sizeOf236
 v171:=Tryz.zeroValue236
 t173:=Tryz.underlying239
 a173:=Tryz.isAgg239
 z173:=Tryz.sizeOf239
 v173:=Tryz.zeroValue239
 t212:=Tryz.underlying259
 a212:=Tryz.isAgg259
 z212:=Tryz.sizeOf259
 v212:=Tryz.zeroValue259
 t213:=Tryz.underlying261
 a213:=Tryz.isAgg261
 z213:=Tryz.sizeOf261
 t232:=Tryz.underlying283
 a232:=Tryz.isAgg283
 z232:=Tryz.sizeOf283
 v232:=Tryz.zeroValue283
 t233:=Tryz.underlying284
 a233:=Tryz.isAgg284
 z233:=Tryz.sizeOf284
 v233:=Tryz.zeroValue284
 g17:=by kernel_rfl
 g18:=by kernel_rfl
 g19:=by kernel_rfl
 i0:=by kernel_rfl
 i2:=by kernel_rfl
 i3:=by kernel_rfl
 i4:=by kernel_rfl
 i5:=by kernel_rfl
 i9:=by kernel_rfl
 i20:=by kernel_rfl
 i37:=by kernel_rfl
 i46:=by kernel_rfl
 i51:=by kernel_rfl
 i53:=by kernel_rfl
 i171:=by kernel_rfl
 i173:=by kernel_rfl
 i212:=by kernel_rfl
 i232:=by kernel_rfl
 i233:=by kernel_rfl
 m17:=by kernel_rfl
 m18:=by kernel_rfl
 m19:=by kernel_rfl }
open Go.RowKit Go.Sort Go.Lib in
theorem Tryz.strconv_Itoa (n:Int) (h0 : -9223372036854775808≤n) (h1:n≤9223372036854775807) (w:World) (htab:Lib.TabIs Tryz.prog w "internal/strconv.uint64pow10" .u64 Lib.pow10Tab) :
  Calls Tryz.prog 51 #[.int .i64 n] w fun e w'=>e=.returned (.string ⟨(Lib.itoa n).toArray⟩)∧∃ k os,w'=grow (w.drewN k) os:=Any.strconv_Itoa Tryz.laysM171 n h0 h1 w htab
def Tryz.laysC172_ren:Go.Shelf.Ren:=⟨fun | 172=>74 | 244=>112 | 245=>113 | 247=>148 | 279=>149 | 280=>150 | 281=>151 | 282=>152 | 287=>183 | 316=>184 | 171=>51 | 205=>185 | 321=>208 | 322=>209 | 243=>96 | 246=>137 | 283=>171 | 284=>172 | 285=>173 | 286=>174 | 129=>200 | 317=>199 | 318=>201 | 319=>202 | 320=>203 | 337=>214 | 338=>215 | n=>n,fun | 9=>9 | 3=>3 | 75=>25 | 76=>148 | 4=>4 | 5=>5 | 167=>215 | 37=>131 | 0=>0 | 85=>216 | 2=>2 | 168=>218 | 53=>83 | 175=>244 | 46=>133 | 210=>248 | 127=>241 | 145=>275 | 143=>273 | 21=>21 | 171=>236 | 173=>239 | 212=>259 | 51=>260 | 20=>20 | 213=>261 | 232=>283 | 233=>284 | 80=>208 | n=>n,fun | 15=>1 | 16=>2 | 17=>3 | 18=>6 | 19=>7 | n=>n⟩
theorem Tryz.laysC172:Go.Proofs.LaysC.n172 Tryz.prog Tryz.laysC172_ren:={
 mixed:=by kernel_rfl
 f129:=Tryz.func200.trans (congrArg some (by kernel_rfl))
 f171:=Tryz.func51.trans (congrArg some (by kernel_rfl))
 f172:=Tryz.func74.trans (congrArg some (by kernel_rfl))
 f205:=Tryz.func185.trans (congrArg some (by kernel_rfl))
 f243:=Tryz.func96.trans (congrArg some (by kernel_rfl))
 f244:=Tryz.func112.trans (congrArg some (by kernel_rfl))
 f245:=Tryz.func113.trans (congrArg some (by kernel_rfl))
 f246:=Tryz.func137.trans (congrArg some (by kernel_rfl))
 f247:=Tryz.func148.trans (congrArg some (by kernel_rfl))
 f279:=Tryz.func149.trans (congrArg some (by kernel_rfl))
 f280:=Tryz.func150.trans (congrArg some (by kernel_rfl))
 f281:=Tryz.func151.trans (congrArg some (by kernel_rfl))
 f282:=Tryz.func152.trans (congrArg some (by kernel_rfl))
 f283:=Tryz.func171.trans (congrArg some (by kernel_rfl))
 f284:=Tryz.func172.trans (congrArg some (by kernel_rfl))
 f285:=Tryz.func173.trans (congrArg some (by kernel_rfl))
 f286:=Tryz.func174.trans (congrArg some (by kernel_rfl))
 f287:=Tryz.func183.trans (congrArg some (by kernel_rfl))
 f316:=Tryz.func184.trans (congrArg some (by kernel_rfl))
 f317:=Tryz.func199.trans (congrArg some (by kernel_rfl))
 f318:=Tryz.func201.trans (congrArg some (by kernel_rfl))
 f319:=Tryz.func202.trans (congrArg some (by kernel_rfl))
 f320:=Tryz.func203.trans (congrArg some (by kernel_rfl))
 f321:=Tryz.func208.trans (congrArg some (by kernel_rfl))
 f322:=Tryz.func209.trans (congrArg some (by kernel_rfl))
 f337:=Tryz.func214.trans (congrArg some (by kernel_rfl))
 f338:=Tryz.func215.trans (congrArg some (by kernel_rfl))
 t0:=Tryz.underlying0
 a0:=Tryz.isAgg0
 z0:=Tryz.sizeOf0
 v0:=Tryz.zeroValue0
 t2:=Tryz.underlying2
 a2:=Tryz.isAgg2
 z2:=Tryz.sizeOf2
 v2:=Tryz.zeroValue2
 t3:=Tryz.underlying3
 a3:=Tryz.isAgg3
 z3:=Tryz.sizeOf3
 v3:=Tryz.zeroValue3
 t4:=Tryz.underlying4
 a4:=Tryz.isAgg4
 z4:=Tryz.sizeOf4
 v4:=Tryz.zeroValue4
 t5:=Tryz.underlying5
 a5:=Tryz.isAgg5
 z5:=Tryz.sizeOf5
 v5:=Tryz.zeroValue5
 t9:=Tryz.underlying9
 a9:=Tryz.isAgg9
 z9:=Tryz.sizeOf9
 v9:=Tryz.zeroValue9
 t20:=Tryz.underlying20
 a20:=Tryz.isAgg20
 z20:=Tryz.sizeOf20
 v20:=Tryz.zeroValue20
 t21:=Tryz.underlying21
 a21:=Tryz.isAgg21
 z21:=Tryz.sizeOf21
 v21:=Tryz.zeroValue21
 t37:=Tryz.underlying131
 a37:=Tryz.isAgg131
 z37:=Tryz.sizeOf131
 v37:=Tryz.zeroValue131
 t46:=Tryz.underlying133
 a46:=Tryz.isAgg133
 z46:=Tryz.sizeOf133
 v46:=Tryz.zeroValue133
 t51:=Tryz.underlying260
 a51:=Tryz.isAgg260
 z51:=Tryz.sizeOf260
 v51:=Tryz.zeroValue260
 t53:=Tryz.underlying83
 a53:=Tryz.isAgg83
 z53:=Tryz.sizeOf83
 v53:=Tryz.zeroValue83
 t75:=Tryz.underlying25
 a75:=Tryz.isAgg25
 z75:=Tryz.sizeOf25
 v75:=Tryz.zeroValue25
 t76:=Tryz.underlying148
 a76:=Tryz.isAgg148
 z76:=Tryz.sizeOf148
 v76:=Tryz.zeroValue148
 t85:=Tryz.underlying216
 a85:=Tryz.isAgg216
 z85:=Tryz.sizeOf216
 v85:=Tryz.zeroValue216
 t127:=Tryz.underlying241
 a127:=Tryz.isAgg241
 z127:=Tryz.sizeOf241
 v127:=Tryz.zeroValue241
 t143:=Tryz.underlying273
 a143:=Tryz.isAgg273
 z143:=Tryz.sizeOf273
 v143:=Tryz.zeroValue273
 t145:=Tryz.underlying275
 a145:=Tryz.isAgg275
 z145:=Tryz.sizeOf275
 v145:=Tryz.zeroValue275
 t167:=Tryz.underlying215
 a167:=Tryz.isAgg215
 z167:=Tryz.sizeOf215
 v167:=Tryz.zeroValue215
 t168:=Tryz.underlying218
 a168:=Tryz.isAgg218
 z168:=Tryz.sizeOf218
 v168:=Tryz.zeroValue218
 t171:=Tryz.underlying236
 a171:=Tryz.isAgg236
 z171:=Tryz.sizeOf236
 v171:=Tryz.zeroValue236
 t173:=Tryz.underlying239
 a173:=Tryz.isAgg239
 z173:=Tryz.sizeOf239
 v173:=Tryz.zeroValue239
 t175:=Tryz.underlying244
 a175:=Tryz.isAgg244
 z175:=Tryz.sizeOf244
 v175:=Tryz.zeroValue244
 t210:=Tryz.underlying248
 a210:=Tryz.isAgg248
 z210:=Tryz.sizeOf248
 v210:=Tryz.zeroValue248
 t212:=Tryz.underlying259
 a212:=Tryz.isAgg259
 z212:=Tryz.sizeOf259
 v212:=Tryz.zeroValue259
 t213:=Tryz.underlying261
 a213:=Tryz.isAgg261
 z213:=Tryz.sizeOf261
 t232:=Tryz.underlying283
 a232:=Tryz.isAgg283
 z232:=Tryz.sizeOf283
 v232:=Tryz.zeroValue283
 t233:=Tryz.underlying284
 a233:=Tryz.isAgg284
 z233:=Tryz.sizeOf284
 v233:=Tryz.zeroValue284
 g15:=by kernel_rfl
 g16:=by kernel_rfl
 g17:=by kernel_rfl
 g18:=by kernel_rfl
 g19:=by kernel_rfl
 t80:=Tryz.underlying208
 a80:=Tryz.isAgg208
 z80:=Tryz.sizeOf208
 v80:=Tryz.zeroValue208
 i0:=by kernel_rfl
 i2:=by kernel_rfl
 i3:=by kernel_rfl
 i4:=by kernel_rfl
 i5:=by kernel_rfl
 i9:=by kernel_rfl
 i20:=by kernel_rfl
 i21:=by kernel_rfl
 i37:=by kernel_rfl
 i46:=by kernel_rfl
 i51:=by kernel_rfl
 i53:=by kernel_rfl
 i75:=by kernel_rfl
 i76:=by kernel_rfl
 i80:=by kernel_rfl
 i85:=by kernel_rfl
 i127:=by kernel_rfl
 i143:=by kernel_rfl
 i145:=by kernel_rfl
 i167:=by kernel_rfl
 i168:=by kernel_rfl
 i171:=by kernel_rfl
 i173:=by kernel_rfl
 i175:=by kernel_rfl
 i210:=by kernel_rfl
 i212:=by kernel_rfl
 i232:=by kernel_rfl
 i233:=by kernel_rfl
 m15:=by kernel_rfl
 m16:=by kernel_rfl
 m17:=by kernel_rfl
 m18:=by kernel_rfl
 m19:=by kernel_rfl
 c0:=by kernel_rfl
 c2:=by kernel_rfl
 c3:=by kernel_rfl
 c4:=by kernel_rfl
 c5:=by kernel_rfl
 c9:=by kernel_rfl
 c20:=by kernel_rfl
 c21:=by kernel_rfl
 c37:=by kernel_rfl
 c46:=by kernel_rfl
 c51:=by kernel_rfl
 c53:=by kernel_rfl
 c75:=by kernel_rfl
 c76:=by kernel_rfl
 c80:=by kernel_rfl
 c85:=by kernel_rfl
 c127:=by kernel_rfl
 c143:=by kernel_rfl
 c145:=by kernel_rfl
 c167:=by kernel_rfl
 c168:=by kernel_rfl
 c171:=by kernel_rfl
 c173:=by kernel_rfl
 c175:=by kernel_rfl
 c210:=by kernel_rfl
 c212:=by kernel_rfl
 c213:=by kernel_rfl
 c232:=by kernel_rfl
 c233:=by kernel_rfl }
open Go.RowKit in
theorem Tryz.strconv_Atoi_ok (s:ByteArray) (hmax:s.size≤9223372036854775806) (v:Int) (h:Lib.atoiAll s.data.toList=.ok v) (w:World) :
  Calls Tryz.prog 74 #[.string s] w fun e w'=>e=.returned (.tuple #[.int .i64 v,.nilIface])∧(w'=w∨∃ t,w'=Lib.bytesWorld w 5 t):=Any.strconv_Atoi_ok Tryz.laysC172 s hmax v h w
def Tryz.lays144_ren:Go.Shelf.Ren:=⟨fun | 144=>75 | 143=>111 | 219=>147 | 217=>179 | 225=>180 | 224=>181 | 267=>182 | 266=>206 | 314=>207 | n=>n,fun | 9=>9 | 4=>4 | 3=>3 | 5=>5 | 46=>133 | 146=>270 | 51=>260 | n=>n,fun | 1=>0 | n=>n⟩
theorem Tryz.lays144:Go.Proofs.Lays.n144 Tryz.prog Tryz.lays144_ren:={
 mixed:=by kernel_rfl
 f143:=Tryz.func111.trans (congrArg some (by kernel_rfl))
 f144:=Tryz.func75.trans (congrArg some (by kernel_rfl))
 f217:=Tryz.func179.trans (congrArg some (by kernel_rfl))
 f219:=Tryz.func147.trans (congrArg some (by kernel_rfl))
 f224:=Tryz.func181.trans (congrArg some (by kernel_rfl))
 f225:=Tryz.func180.trans (congrArg some (by kernel_rfl))
 f266:=Tryz.func206.trans (congrArg some (by kernel_rfl))
 f267:=Tryz.func182.trans (congrArg some (by kernel_rfl))
 f314:=Tryz.func207.trans (congrArg some (by kernel_rfl))
 t3:=Tryz.underlying3
 a3:=Tryz.isAgg3
 z3:=Tryz.sizeOf3
 v3:=Tryz.zeroValue3
 t4:=Tryz.underlying4
 a4:=Tryz.isAgg4
 z4:=Tryz.sizeOf4
 v4:=Tryz.zeroValue4
 t5:=Tryz.underlying5
 a5:=Tryz.isAgg5
 z5:=Tryz.sizeOf5
 v5:=Tryz.zeroValue5
 t9:=Tryz.underlying9
 a9:=Tryz.isAgg9
 z9:=Tryz.sizeOf9
 v9:=Tryz.zeroValue9
 t46:=Tryz.underlying133
 a46:=Tryz.isAgg133
 z46:=Tryz.sizeOf133
 v46:=Tryz.zeroValue133
 t51:=Tryz.underlying260
 a51:=Tryz.isAgg260
 z51:=Tryz.sizeOf260
 v51:=Tryz.zeroValue260
 t146:=Tryz.underlying270
 a146:=Tryz.isAgg270
 z146:=Tryz.sizeOf270
 v146:=Tryz.zeroValue270
 g1:=by kernel_rfl }
open Go.RowKit Go.Lib in
theorem Tryz.strings_Contains_one (s:ByteArray) (c:UInt8) (w:World) :
  Calls Tryz.prog 75 #[.string s,.string ⟨#[c]⟩] w fun e w'=>e=.returned (.bool (decide (0≤Lib.indexByte s.data.toList c)))∧w'=w:=Any.strings_Contains_one Tryz.lays144 s c w
def Tryz.lays146_ren:Go.Shelf.Ren:=⟨fun | 146=>37 | 221=>73 | 268=>109 | 138=>110 | 143=>111 | 195=>144 | 197=>145 | 218=>146 | 219=>147 | 260=>178 | 217=>179 | 225=>180 | 224=>181 | 267=>182 | 266=>206 | 314=>207 | n=>n,fun | 9=>9 | 31=>22 | 3=>3 | 4=>4 | 0=>0 | 105=>212 | 21=>21 | 5=>5 | 46=>133 | 119=>266 | 139=>269 | 138=>268 | 146=>270 | 51=>260 | n=>n,fun | 1=>0 | 3=>4 | 4=>5 | n=>n⟩
theorem Tryz.lays146:Go.Proofs.Lays.n146 Tryz.prog Tryz.lays146_ren:={
 mixed:=by kernel_rfl
 f138:=Tryz.func110.trans (congrArg some (by kernel_rfl))
 f143:=Tryz.func111.trans (congrArg some (by kernel_rfl))
 f146:=Tryz.func37.trans (congrArg some (by kernel_rfl))
 f195:=Tryz.func144.trans (congrArg some (by kernel_rfl))
 f197:=Tryz.func145.trans (congrArg some (by kernel_rfl))
 f217:=Tryz.func179.trans (congrArg some (by kernel_rfl))
 f218:=Tryz.func146.trans (congrArg some (by kernel_rfl))
 f219:=Tryz.func147.trans (congrArg some (by kernel_rfl))
 f221:=Tryz.func73.trans (congrArg some (by kernel_rfl))
 f224:=Tryz.func181.trans (congrArg some (by kernel_rfl))
 f225:=Tryz.func180.trans (congrArg some (by kernel_rfl))
 f260:=Tryz.func178.trans (congrArg some (by kernel_rfl))
 f266:=Tryz.func206.trans (congrArg some (by kernel_rfl))
 f267:=Tryz.func182.trans (congrArg some (by kernel_rfl))
 f268:=Tryz.func109.trans (congrArg some (by kernel_rfl))
 f314:=Tryz.func207.trans (congrArg some (by kernel_rfl))
 t0:=Tryz.underlying0
 a0:=Tryz.isAgg0
 z0:=Tryz.sizeOf0
 v0:=Tryz.zeroValue0
 t3:=Tryz.underlying3
 a3:=Tryz.isAgg3
 z3:=Tryz.sizeOf3
 v3:=Tryz.zeroValue3
 t4:=Tryz.underlying4
 a4:=Tryz.isAgg4
 z4:=Tryz.sizeOf4
 v4:=Tryz.zeroValue4
 t5:=Tryz.underlying5
 a5:=Tryz.isAgg5
 z5:=Tryz.sizeOf5
 v5:=Tryz.zeroValue5
 t9:=Tryz.underlying9
 a9:=Tryz.isAgg9
 z9:=Tryz.sizeOf9
 v9:=Tryz.zeroValue9
 t21:=Tryz.underlying21
 a21:=Tryz.isAgg21
 z21:=Tryz.sizeOf21
 v21:=Tryz.zeroValue21
 t31:=Tryz.underlying22
 a31:=Tryz.isAgg22
 z31:=Tryz.sizeOf22
 v31:=Tryz.zeroValue22
 t46:=Tryz.underlying133
 a46:=Tryz.isAgg133
 z46:=Tryz.sizeOf133
 v46:=Tryz.zeroValue133
 t51:=Tryz.underlying260
 a51:=Tryz.isAgg260
 z51:=Tryz.sizeOf260
 v51:=Tryz.zeroValue260
 t105:=Tryz.underlying212
 a105:=Tryz.isAgg212
 z105:=Tryz.sizeOf212
 v105:=Tryz.zeroValue212
 t119:=Tryz.underlying266
 a119:=Tryz.isAgg266
 z119:=Tryz.sizeOf266
 t138:=Tryz.underlying268
 a138:=Tryz.isAgg268
 z138:=Tryz.sizeOf268
 v138:=Tryz.zeroValue268
 t139:=Tryz.underlying269
 a139:=Tryz.isAgg269
 z139:=Tryz.sizeOf269
 v139:=Tryz.zeroValue269
 t146:=Tryz.underlying270
 a146:=Tryz.isAgg270
 z146:=Tryz.sizeOf270
 v146:=Tryz.zeroValue270
 g1:=by kernel_rfl
 g3:=by kernel_rfl
 g4:=by kernel_rfl }
open Go.RowKit Go.Lib in
theorem Tryz.strings_Split (s sep:ByteArray) (m:Int) (w:World) (hs:s.size<4294967281) (hm:w.cell? ⟨0,0,none⟩=some (.int .i64 m)) (h1:1≤sep.size) :
  Calls Tryz.prog 37 #[.string s,.string sep] w fun e w' =>
   e=.returned (.slice (some ⟨w.heap.size,0,none⟩) (Lib.countB s sep+1) (Lib.countB s sep+1))∧w'=w.alloc (.cells ((Lib.splitB sep 0 (Lib.countB s sep) s).map Value.string).toArray 9):=Any.strings_Split Tryz.lays146 (by kernel_rfl) s sep m w hs hm h1
def Tryz.lays152_ren:Go.Shelf.Ren:=⟨fun | 152=>153 | 137=>186 | 119=>187 | 224=>181 | 225=>180 | 217=>179 | 266=>206 | n=>n,fun | 9=>9 | 21=>21 | 3=>3 | 4=>4 | 5=>5 | 0=>0 | 46=>133 | n=>n,fun | n=>n⟩
theorem Tryz.lays152:Go.Proofs.Lays.n152 Tryz.prog Tryz.lays152_ren:={
 mixed:=by kernel_rfl
 f119:=Tryz.func187.trans (congrArg some (by kernel_rfl))
 f137:=Tryz.func186.trans (congrArg some (by kernel_rfl))
 f152:=Tryz.func153.trans (congrArg some (by kernel_rfl))
 f217:=Tryz.func179.trans (congrArg some (by kernel_rfl))
 f224:=Tryz.func181.trans (congrArg some (by kernel_rfl))
 f225:=Tryz.func180.trans (congrArg some (by kernel_rfl))
 f266:=Tryz.func206.trans (congrArg some (by kernel_rfl))
 t0:=Tryz.underlying0
 a0:=Tryz.isAgg0
 z0:=Tryz.sizeOf0
 v0:=Tryz.zeroValue0
 t3:=Tryz.underlying3
 a3:=Tryz.isAgg3
 z3:=Tryz.sizeOf3
 v3:=Tryz.zeroValue3
 t4:=Tryz.underlying4
 a4:=Tryz.isAgg4
 z4:=Tryz.sizeOf4
 v4:=Tryz.zeroValue4
 t5:=Tryz.underlying5
 a5:=Tryz.isAgg5
 z5:=Tryz.sizeOf5
 v5:=Tryz.zeroValue5
 t9:=Tryz.underlying9
 a9:=Tryz.isAgg9
 z9:=Tryz.sizeOf9
 v9:=Tryz.zeroValue9
 t21:=Tryz.underlying21
 a21:=Tryz.isAgg21
 z21:=Tryz.sizeOf21
 v21:=Tryz.zeroValue21
 t46:=Tryz.underlying133
 a46:=Tryz.isAgg133
 z46:=Tryz.sizeOf133
 v46:=Tryz.zeroValue133 }
open Go.RowKit Go.Lib in
theorem Tryz.strings_IndexRune_ascii (s:ByteArray) (r:Int) (w:World) (h0:0≤r) (h1:r<128) :
  Calls Tryz.prog 153 #[.string s,.int .i32 r] w fun e w'=>e=.returned (.int .i64 (Lib.indexByte s.data.toList r.toNat.toUInt8))∧w'=w:=Any.strings_IndexRune_ascii Tryz.lays152 s r w h0 h1
def Tryz.lays226_ren:Go.Shelf.Ren:=⟨fun | 226=>154 | n=>n,fun | 3=>3 | 4=>4 | n=>n,fun | n=>n⟩
theorem Tryz.lays226:Go.Proofs.Lays.n226 Tryz.prog Tryz.lays226_ren:={
 mixed:=by kernel_rfl
 f226:=Tryz.func154.trans (congrArg some (by kernel_rfl))
 t3:=Tryz.underlying3
 a3:=Tryz.isAgg3
 z3:=Tryz.sizeOf3
 v3:=Tryz.zeroValue3
 t4:=Tryz.underlying4
 a4:=Tryz.isAgg4
 z4:=Tryz.sizeOf4
 v4:=Tryz.zeroValue4 }
open Go.RowKit Go.Lib in
theorem Tryz.strings_shouldUseASCIISet (n:Int) (w:World) :
  Calls Tryz.prog 154 #[.int .i64 n] w fun e w'=>e=.returned (.bool (decide (8<n)))∧w'=w:=Any.strings_shouldUseASCIISet Tryz.lays226 n w
def Tryz.lays153_ren:Go.Shelf.Ren:=⟨fun | 153=>114 | 152=>153 | 226=>154 | 227=>155 | 228=>156 | 137=>186 | 119=>187 | 224=>181 | 225=>180 | 217=>179 | 266=>206 | n=>n,fun | 9=>9 | 3=>3 | 4=>4 | 5=>5 | 21=>21 | 117=>224 | 116=>223 | 0=>0 | 46=>133 | 124=>251 | n=>n,fun | n=>n⟩
theorem Tryz.lays153:Go.Proofs.Lays.n153 Tryz.prog Tryz.lays153_ren:={
 mixed:=by kernel_rfl
 f119:=Tryz.func187.trans (congrArg some (by kernel_rfl))
 f137:=Tryz.func186.trans (congrArg some (by kernel_rfl))
 f152:=Tryz.func153.trans (congrArg some (by kernel_rfl))
 f153:=Tryz.func114.trans (congrArg some (by kernel_rfl))
 f217:=Tryz.func179.trans (congrArg some (by kernel_rfl))
 f224:=Tryz.func181.trans (congrArg some (by kernel_rfl))
 f225:=Tryz.func180.trans (congrArg some (by kernel_rfl))
 f226:=Tryz.func154.trans (congrArg some (by kernel_rfl))
 f227:=Tryz.func155.trans (congrArg some (by kernel_rfl))
 f228:=Tryz.func156.trans (congrArg some (by kernel_rfl))
 f266:=Tryz.func206.trans (congrArg some (by kernel_rfl))
 t0:=Tryz.underlying0
 a0:=Tryz.isAgg0
 z0:=Tryz.sizeOf0
 v0:=Tryz.zeroValue0
 t3:=Tryz.underlying3
 a3:=Tryz.isAgg3
 z3:=Tryz.sizeOf3
 v3:=Tryz.zeroValue3
 t4:=Tryz.underlying4
 a4:=Tryz.isAgg4
 z4:=Tryz.sizeOf4
 v4:=Tryz.zeroValue4
 t5:=Tryz.underlying5
 a5:=Tryz.isAgg5
 z5:=Tryz.sizeOf5
 v5:=Tryz.zeroValue5
 t9:=Tryz.underlying9
 a9:=Tryz.isAgg9
 z9:=Tryz.sizeOf9
 v9:=Tryz.zeroValue9
 t21:=Tryz.underlying21
 a21:=Tryz.isAgg21
 z21:=Tryz.sizeOf21
 v21:=Tryz.zeroValue21
 t46:=Tryz.underlying133
 a46:=Tryz.isAgg133
 z46:=Tryz.sizeOf133
 v46:=Tryz.zeroValue133
 t116:=Tryz.underlying223
 a116:=Tryz.isAgg223
 z116:=Tryz.sizeOf223
 t117:=Tryz.underlying224
 a117:=Tryz.isAgg224
 z117:=Tryz.sizeOf224
 v117:=Tryz.zeroValue224
 t124:=Tryz.underlying251
 a124:=Tryz.isAgg251
 z124:=Tryz.sizeOf251
 v124:=Tryz.zeroValue251 }
open Go.RowKit Go.Lib in
theorem Tryz.strings_IndexAny_long (hv116:∀ w,(zeroValue 223).run Tryz.prog w=.ok (.agg (Array.replicate 256 (.bool false))) w) (s chars:ByteArray) (w:World) (h2:2≤chars.size) (h8:8<s.size) (hs:s.size<4294967281) (hcs:chars.size<4294967281) (hascii:∀ (j:Nat) b,chars.data.toList[j]?=some b→b.toNat<128) :
  Calls Tryz.prog 114 #[.string s,.string chars] w fun e w'=>e=.returned (.int .i64 (Lib.indexAny s.data.toList chars.data.toList))∧w'=((w.alloc (.cells (Lib.setCells chars.data.toList) 223)).alloc (.cells (Lib.setCells chars.data.toList) 223)):=Any.strings_IndexAny_long Tryz.lays153 hv116 (by kernel_rfl) s chars w h2 h8 hs hcs hascii
end Go.Proofs
namespace Go.Proofs.YtagndjihiklmiaaGreatDoor
open Go.RowKit Go.Sort
abbrev blanks:ByteArray:=⟨#[32,10]⟩
def blankB (s:ByteArray):Bool:=Lib.containsAny s.data.toList [32,10]
theorem below_drewN {B:Nat} {a w:World} (h:Below B a w) (n:Nat):Below B a (w.drewN n):=h.trans ⟨rfl,rfl,rfl,Nat.le_refl _,fun _ _=>rfl⟩
theorem validrune_any (r:Int) (w:World) (h0:0≤r):Calls Tryz.prog 187 #[.int .i32 r] w (RetSame (.bool (Utf8.valid r)) w):=by
 have a0:decide ((0:Int)≤r)=true:=decide_eq_true h0;by_cases a:r<55296
 ·have e:Utf8.valid r=true:=by unfold Utf8.valid; simp; omega
  have a1:decide (r<55296)=true:=decide_eq_true a;rw [e];clear e;go_enter Tryz.func187,Tryz.ntmps187;go_wp2;go_ret;exact ⟨rfl,rfl⟩
 have a1:decide (r<55296)=false:=decide_eq_false a;by_cases b:(57343:Int)<r
 ·have b1:decide ((57343:Int)<r)=true:=decide_eq_true b
  by_cases c:r≤1114111
  ·have c1:decide (r≤1114111)=true:=decide_eq_true c
   have e:Utf8.valid r=true:=by unfold Utf8.valid; simp; omega
   rw [e];clear e;go_enter Tryz.func187,Tryz.ntmps187;go_wp2;go_ret;exact ⟨rfl,rfl⟩
  ·have c1:decide (r≤1114111)=false:=decide_eq_false c
   have e:Utf8.valid r=false:=by unfold Utf8.valid; simp; omega
   rw [e];clear e;go_enter Tryz.func187,Tryz.ntmps187;go_wp2;go_ret;exact ⟨rfl,rfl⟩
 ·have b1:decide ((57343:Int)<r)=false:=decide_eq_false b
  have e:Utf8.valid r=false:=by unfold Utf8.valid; simp; omega
  rw [e];clear e;go_enter Tryz.func187,Tryz.ntmps187;go_wp2;go_ret;exact ⟨rfl,rfl⟩
theorem irune_hi (r:Int) (w:World) (h0:128≤r) (h1:r≤2147483647):Calls Tryz.prog 153 #[.string blanks,.int .i32 r] w (Ret (.int .i64 (-1)) w):=by
 by_cases he:r=65533
 ·subst he
  go_enter Tryz.func153,Tryz.ntmps153;go_wp2;go_loopw [5,6] (fun _ _ wr=>∃ pos:Nat,pos≤2∧wr=w.iter blanks pos) (fun _ _ wr=>2 - wr.iterPos w.heap.size)
  case atStart=>exact ⟨0,by omega,rfl⟩
  case round =>
   obtain ⟨pos,hp,rfl⟩:=hrel
   match pos,hp with
   |0,_ =>
    have hnx:=fun ty=>run_next_ascii (P:=Tryz.prog) w blanks 0 ty (by decide) (by decide)
    go_wp2;go_round
    case measure=>simp
    case rel=>exact ⟨1,by omega,rfl⟩
   |1,_ =>
    have hnx:=fun ty=>run_next_ascii (P:=Tryz.prog) w blanks 1 ty (by decide) (by decide)
    go_wp2;go_round
    case measure=>simp
    case rel=>exact ⟨2,by omega,rfl⟩
   |2,_ =>
    have hnx:=fun ty=>run_next_end (P:=Tryz.prog) w blanks 2 ty (by decide)
    go_wp2;go_ret;exact ⟨rfl,(Below.refl _ _).alloc (Nat.le_refl _) _⟩
 ·have a1:decide ((0:Int)≤r)=true:=decide_eq_true (by omega)
  have a2:decide (r<128)=false:=decide_eq_false (by omega);have a3:(r == 65533)=false:=beq_eq_false_iff_ne.2 he
  cases hv:Utf8.valid r with
  |false =>
   go_enter Tryz.func153,Tryz.ntmps153;go_wp2_with (go_at_call 187; refine (validrune_any r _ (by omega)).mono ?_; rintro e w1 ⟨rfl,rfl⟩; rw [hv]);go_ret;exact ⟨rfl,Below.refl _ _⟩
  |true =>
   obtain ⟨f1,f2,f3⟩:=encode_facts r hv h0;have hcv:=fun w=>run_convert_int_string (P:=Tryz.prog) w 21 9 .i32 r (by rw [Tryz.underlying21]; rfl) Tryz.underlying9
   generalize Utf8.encode r=bs at f1 f2 f3 hcv
   obtain ⟨m,hm⟩:∃ m,bs.size=m+1:=⟨bs.size - 1,by omega⟩
   have hn:IntKind.i64.wrap ((bs.size:Int) - 1)=(m:Int):=by
    rw [IntWalk.i64_in _ (by omega)]; omega
   have hmb:m<bs.size:=by omega
   have f4:128≤(bs[m]'hmb).toNat:=by
    have:=f3 (by omega)
    simpa [hm] using this
   clear f3
   obtain ⟨x,hx⟩:∃ x:UInt8,bs[m]'hmb=x:=⟨_,rfl⟩
   rw [hx] at f4;have m1:1≤m:=by omega
   have HM:=Lib.hid hm;clear hm f1 f2;have hsx:(Tryz.prog.underlying 21).isSome=true:=by rw [Tryz.underlying21]; rfl
   go_enter Tryz.func153,Tryz.ntmps153;go_wp2_with (go_at_call 187; refine (validrune_any r _ (by omega)).mono ?_; rintro e w1 ⟨rfl,rfl⟩; rw [hv]);go_step3;go_wp2;go_loopw [9,10,11,12] (fun i f _ _ wr=>i=.int .i64 (m:Int)∧f=.int .i64 0∧wr=w) (fun _ _ _ _ _=>0)
   case atStart=>exact ⟨rfl,rfl,rfl⟩
   case round =>
    obtain ⟨rfl,rfl,rfl⟩:=hrel;by_cases h3:2≤m
    ·have d:decide ((m:Int)<2)=false:=decide_eq_false (by omega)
     have d':¬ ((m:Int)<2):=by omega
     go_wp2;go_ret;exact ⟨rfl,Below.refl _ _⟩
    ·obtain rfl:m=1:=by omega
     have hne:(((blanks[1]'(by decide)).toNat:Int) != (x.toNat:Int))=true:=by
      rw [bne_iff_ne];show (10:Int)≠_;omega
     go_wp2;go_step3;go_wp2;go_region
     go_wp2;have hbz:Below wr.heap.size wr wr.drew:=(Below.refl _ _).drew;generalize wr.drew=wz at hbz ⊢;have hw2:IntKind.i64.wrap 2=2:=by decide
     have hb1:(1:Int)<(bs.size:Int):=by omega
     go_quiet (first | (go_at_call 186; refine Calls.quiet_of_same (Tryz.strings_IndexByte _ _ _)));go_wp2;go_ret;exact ⟨rfl,below_drewN hbz _⟩
theorem decode_span (s:ByteArray) (pos:Nat) (h:pos<s.size) (ha:128≤(s[pos]'h).toNat) (j:Nat) (h1:pos≤j) (h2:j<pos+(Utf8.decode s pos).2):∃ hj:j<s.size,128≤(s[j]'hj).toNat:=by
 have hg:∀ k (hk:pos+k<s.size),s.get! (pos+k)=s[pos+k]'hk:=fun k hk=>by
  show s.get! _=_;simp [ByteArray.get!,getElem!_pos,hk];rfl
 have h0:=hg 0 (by omega);have hn:¬ (s[pos]'h).toNat<128:=by omega
 have hc:∀ k,(decide (pos+k<s.size) && (s.get! (pos+k)).toNat / 64 == 2)=true→∃ hk:pos+k<s.size,128≤(s[pos+k]'hk).toNat:=fun k hk=>by
  rw [Bool.and_eq_true,decide_eq_true_eq,beq_iff_eq] at hk;refine ⟨hk.1,?_⟩;rw [hg k hk.1] at hk;omega
 have h00:s.get! (pos+0)=s[pos]'h:=get_at s pos h;simp only [Utf8.decode,h00,hn,if_false] at h2;have fin:∀ k,j=pos+k→(∃ hk:pos+k<s.size,128≤(s[pos+k]'hk).toNat)→∃ hj:j<s.size,128≤(s[j]'hj).toNat:=fun k e hh=>by subst e; exact hh
 have f0:∃ hk:pos+0<s.size,128≤(s[pos+0]'hk).toNat:=⟨by omega,ha⟩
 obtain ⟨k,rfl⟩:∃ k,j=pos+k:=⟨j - pos,by omega⟩
 match k,h2 with
 |0,_=>exact f0
 |k+1,h2 =>
  split at h2
  ·rename_i hx
   simp only [Bool.and_eq_true] at hx
   split at h2
   ·obtain rfl:k=0:=by simp at h2; omega
    exact hc 1 (by simpa using hx.2)
   ·simp at h2
  ·split at h2
   ·rename_i hx
    simp only [Bool.and_eq_true] at hx
    split at h2
    ·have hk:k=0∨k=1:=by simp at h2; omega
     rcases hk with rfl | rfl
     ·exact hc 1 (by simpa using hx.1.2)
     ·exact hc 2 (by simpa using hx.2)
    ·simp at h2
   ·split at h2
    ·rename_i hx
     simp only [Bool.and_eq_true] at hx
     split at h2
     ·have hk:k=0∨k=1∨k=2:=by simp at h2; omega
      rcases hk with rfl | rfl | rfl
      ·exact hc 1 (by simpa using hx.1.1.2)
      ·exact hc 2 (by simpa using hx.1.2)
      ·exact hc 3 (by simpa using hx.2)
     ·simp at h2
    ·simp at h2
theorem iany_short (s:ByteArray) (w:World) (h8:s.size≤8) :
  Calls Tryz.prog 114 #[.string s,.string blanks] w (Ret (.int .i64 (Lib.indexAny s.data.toList [32,10])) w):=by
 have h8z:decide ((8:Int)<(s.size:Int))=false:=decide_eq_false (by omega);go_enter Tryz.func114,Tryz.ntmps114;go_wp2_with (go_at_call 154; refine (Tryz.strings_shouldUseASCIISet _ _).mono ?_; rintro e w' ⟨rfl,hw⟩; rw [hw,h8z]);go_loopg [9,10] s.size (fun g _ _ wr=>∃ i:Nat,i≤s.size∧s.size≤i+g∧wr.heap[w.heap.size]?=some (.stringIter s i)∧Below w.heap.size w wr∧Hid (Lib.NoAny s.data.toList [32,10] i))
 case atStart=>exact ⟨0,by omega,by omega,w.iter_heap s 0,(Below.refl _ _).alloc (Nat.le_refl _) _,Lib.NoAny.zero _ _⟩
 case round =>
  obtain ⟨i,hi,hig,hk,hb,hno⟩:=hrel;by_cases hlt:i<s.size
  ·obtain ⟨x,hx⟩:∃ x:UInt8,s[i]'hlt=x:=⟨_,rfl⟩
   have Hx:=Lib.hid (show s.data.toList[i]?=some x by rw [← hx]; exact Lib.data_getElem? s i hlt)
   cases gk with
   |zero=>omega
   |succ g =>
    by_cases hx128:x.toNat<128
    ·have hnx:=fun ty=>Lib.run_next_ascii_at (P:=Tryz.prog) wr w.heap.size s i ty hk hlt (by rw [hx]; exact hx128)
     rw [hx] at hnx;have hk2:=Lib.iterAt_heap wr w.heap.size s i (i+1) hk;have hb2:RowKit.Below w.heap.size w (wr.iterAt w.heap.size s (i+1)):=Lib.below_iterAt hb (Nat.le_refl _) _ _;clear hx;generalize wr.iterAt w.heap.size s (i+1)=w2 at hnx hk2 hb2;have hcon:=Lib.contains_iff_indexByte [32,10] x;have hback:((x.toNat:Int)).toNat.toUInt8=x:=by simp
     have HK:=Lib.hid hk2;have HB:=Lib.hid hb2;clear hk hb hk2 hb2
     cases hin:([32,10]:List UInt8).contains x
     ·rw [hin] at hcon
      have hge:¬ ((0:Int)≤Lib.indexByte [32,10] x):=of_decide_eq_false hcon.symm;clear hcon;go_wp2_with (go_at_call 153; refine (Tryz.strings_IndexRune_ascii _ _ _ (by omega) (by omega)).mono ?_; rintro e w' ⟨rfl,hw⟩; rw [hw,hback]);go_roundg g
      case measure=>omega
      case rel=>exact ⟨i+1,by omega,by omega,HK.out,HB.out,Lib.NoAny.succ hno.out Hx.out hin⟩
     ·rw [hin] at hcon
      have hge:(0:Int)≤Lib.indexByte [32,10] x:=of_decide_eq_true hcon.symm;clear hcon;go_wp2_with (go_at_call 153; refine (Tryz.strings_IndexRune_ascii _ _ _ (by omega) (by omega)).mono ?_; rintro e w' ⟨rfl,hw⟩; rw [hw,hback]);go_ret;exact ⟨by rw [Lib.indexAny_hit hno.out Hx.out hin]; rfl,HB.out⟩
    ·have hxx:128≤(s[i]'hlt).toNat:=by rw [hx]; omega
     have hnx:=fun ty=>Lib.run_next_any_at (P:=Tryz.prog) wr w.heap.size s i ty hk hlt
     obtain ⟨d1,d2⟩:=decode_high s i hlt hxx;have d3:=decode_le s i;have hsp:=Lib.hid (decode_span s i hlt hxx)
     obtain ⟨hr,hrr⟩:∃ r,(Utf8.decode s i).1=r:=⟨_,rfl⟩
     obtain ⟨n,hnn⟩:∃ n,(Utf8.decode s i).2=n:=⟨_,rfl⟩
     rw [hrr] at hnx d1 d3;rw [hnn] at hnx d2 hsp;clear hrr hnn;have hk2:=Lib.iterAt_heap wr w.heap.size s i (i+n) hk;have hb2:RowKit.Below w.heap.size w (wr.iterAt w.heap.size s (i+n)):=Lib.below_iterAt hb (Nat.le_refl _) _ _;clear hx hxx;generalize wr.iterAt w.heap.size s (i+n)=w2 at hnx hk2 hb2;have HK:=Lib.hid hk2;have HB:=Lib.hid hb2;clear hk hb hk2 hb2
     have hl:i+n≤s.size:=by
      obtain ⟨hj,_⟩:=hsp.out (i+n - 1) (by omega) (by omega);omega
     have hno2:Hid (Lib.NoAny s.data.toList [32,10] (i+n)):=fun j b hj hjb=>by
      by_cases hji:j<i
      ·exact hno.out j b hji hjb
      ·obtain ⟨h1,h2⟩:=hsp.out j (by omega) hj
       have:s.data.toList[j]?=some (s[j]'h1):=Lib.data_getElem? s j h1;rw [this] at hjb;obtain rfl:=Option.some.inj hjb;generalize s[j]'h1=y at h2;have e1:(y == 32)=false:=by rw [beq_eq_false_iff_ne]; rintro rfl; revert h2; decide
       have e2:(y == 10)=false:=by rw [beq_eq_false_iff_ne]; rintro rfl; revert h2; decide
       simp only [List.contains_cons,e1,e2,List.contains_nil,Bool.or_self]
     go_wp2_with (go_at_call 153; refine (irune_hi _ _ (by omega) (by omega)).mono ?_; rintro e w3 ⟨rfl,hb3⟩);go_roundg g
     case measure=>omega
     case rel=>exact ⟨i+n,by omega,by omega,(hb3.block _ (by have:=Array.getElem?_eq_some_iff.1 HK.out; exact this.1)).trans HK.out,HB.out.trans (hb3.mono HB.out.size),hno2⟩
  ·obtain rfl:i=s.size:=by omega
   have hnx:=fun ty=>Lib.run_next_end_at (P:=Tryz.prog) wr w.heap.size s s.size ty hk (by omega)
   go_wp2;go_ret;exact ⟨by rw [Lib.indexAny_none (by rw [← Lib.size_eq]; exact hno.out)]; rfl,hb⟩
theorem cany_any (s:ByteArray) (w:World) (h9:s.size≤9):Calls Tryz.prog 76 #[.string s,.string blanks] w (Ret (.bool (blankB s)) w):=by
 have c:Calls Tryz.prog 114 #[.string s,.string blanks] w (Ret (.int .i64 (Lib.indexAny s.data.toList [32,10])) w):=by
  by_cases h8:s.size≤8
  ·exact iany_short s w h8
  ·refine (Tryz.strings_IndexAny_long (fun w=>by kernel_rfl) s blanks w (by decide) (by omega) (by omega) (by decide) (fun j b h=>?_)).mono ?_
   ·match j,h with
    |0,h=>cases h; decide
    |1,h=>cases h; decide
    |j+2,h=>simp at h
   rintro e w' ⟨rfl,rfl⟩;exact ⟨rfl,((Below.refl _ _).alloc (Nat.le_refl _) _).alloc (by simp) _⟩
 have hh:Hid (blankB s=decide (0≤Lib.indexAny s.data.toList [32,10])):=rfl;go_enter Tryz.func76,Tryz.ntmps76;go_wp2_with (go_at_call 114; refine c.mono ?_; rintro e w' ⟨rfl,hb⟩);go_ret;exact ⟨congrArg Ending.returned (congrArg Value.bool hh.out.symm),hb⟩
end Go.Proofs.YtagndjihiklmiaaGreatDoor
