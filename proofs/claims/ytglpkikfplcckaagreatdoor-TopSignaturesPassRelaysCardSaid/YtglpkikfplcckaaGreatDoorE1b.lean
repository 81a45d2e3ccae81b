/-
  Shelf, Card, Open, Opf, Opg, Seq, Qt, Qa, Rl, Pan, Any, Dfr, Bor, Dx, Ux, Itr, Grw, Lp, Tpf, Tct1: own texts of this repository (wip/tpl, wip/plans), merged and shaken by wip/tools/pack.py.
-/
import Derived.Shelf.Strings.Builder1
import Derived.Shelf.Strings.Builder2
import Derived.Shelf.Strings.OnBuilder
import Derived.Shelf.Small.Utf8
import Derived.Shelf.Small.Strs
import Derived.Shelf.Small.Wraps
import Derived.Shelf.Strings.BuilderF
import Derived.Shelf.Strings.BuilderK
import Derived.Shelf.Utf8.RuneCount
import Derived.Shelf.Strings.Builder2Cap
import Derived.Shelf.Strconv.Atoi
import Derived.Shelf.Strconv.Itoa0
import Derived.Shelf.Strconv.Itoa1
import Derived.Shelf.LaysM
import Derived.Shelf.Strconv.Itoa2
import Derived.Shelf.Strconv.Itoa3
import Derived.Shelf.Strconv.AtoiErrFast
import Derived.Shelf.Strconv.ParseIntEmpty
import Derived.Shelf.Strconv.AtoiFail
import Derived.Shelf.Strconv.Clone
import Derived.Shelf.Strconv.SyntaxError
import Derived.Shelf.LaysC
import Derived.Shelf.Strconv.ToError
import Derived.Shelf.Strconv.AtoiErr
import Derived.Shelf.Strconv.ErrVar
import Derived.Shelf.Strconv.Lower
import Derived.Shelf.Strconv.ParseUint10
import Derived.Shelf.Strconv.ParseUint10Empty
import Derived.Shelf.Strconv.ParseUint10Any
import Derived.Shelf.Strconv.ParseInt10
import Derived.Shelf.Strconv.AtoiLong
import Derived.Shelf.Strconv.AtoiInnerAll
import Derived.Shelf.Strconv.RangeError
import Derived.Shelf.Strconv.ToErrorRange
import Derived.Shelf.Strconv.AtoiAll
import Derived.Shelf.Strconv.ErrVarAll
import Derived.Shelf.Strconv.ParseUintEmpty
import Derived.Shelf.Strconv.ParseUint10b64
import Derived.Shelf.Strconv.ParseUint10b32
import Derived.Shelf.Strconv.ParseUint10b16
import Derived.Shelf.Strconv.ParseUint10b8
import Derived.Shelf.Strconv.ParseUint10At
import Derived.Shelf.Strconv.ParseInt10At64
import Derived.Shelf.Strconv.ParseInt10At32
import Derived.Shelf.Strconv.ParseInt10At16
import Derived.Shelf.Strconv.ParseInt10At8
import Derived.Shelf.Strconv.ParseInt10All
import Derived.Shelf.Strings.Search1
import Derived.Shelf.Strings.Search2
import Derived.Shelf.Strings.Search3
import Derived.Shelf.Strings.Cut
import Derived.Shelf.Strings.Count
import Derived.Shelf.Strings.Shaped
import Derived.Shelf.Strings.Prefix
import Derived.Shelf.Strings.Split
import Derived.Shelf.Strings.SplitShaped
import Derived.Shelf.Unicode.Decode
import Derived.Shelf.Strings.Runes
import Derived.Shelf.Strings.RuneCount
import Derived.Shelf.Strings.IndexAny
import Derived.Shelf.Strings.AsciiSet
import Derived.Shelf.Strings.IndexAnyAll
import Derived.Shelf.Strings.Explode
import Derived.Shelf.Bits.Mul64
import Derived.Shelf.Strings.Repeat
import Derived.Shelf.Unicode.DecodeSlow
import Derived.Shelf.Unicode.DecodeAny
import Derived.Shelf.Strings.BuilderCap
import Derived.Shelf.Bytes.SlIndexSmall
import Derived.Shelf.Bytes.SlIndexAt
import Derived.Shelf.Bytes.SlSearch0
import Derived.Shelf.Bytes.SlSearch1
import Derived.Shelf.Bytes.SlSearch2
import Derived.Shelf.Bytes.SlIndexWhole
import Derived.Shelf.Bytes.SlEqualAll
import Derived.Shelf.Bytes.Small
import Derived.Shelf.Bytes.IndexByte
import Derived.Test.YtglpkikfplcckaaGreatDoorProg
import Derived.Test.YtglpkikfplcckaaGreatDoorRows
import Derived.Deep.DeepHandedRow
import Derived.KernelRfl
import Derived.Deep.Slices
import Derived.ChangeMaps5
import Derived.ChangeSame
import Derived.WalkSmall
import Derived.RecoverIn
import Derived.DefersIn
import Derived.Lib.AppendZerosOnto
import Derived.Test.YtglpkikfplcckaaGreatDoorE1a
set_option maxRecDepth 100000
set_option linter.unusedVariables false
set_option linter.unusedSimpArgs false
section
namespace Go.Proofs
open Go.Shelf
def Tryz.lays156_ren : Go.Shelf.Ren:=⟨fun|156=>43|165=>68|166=>69|169=>70|240=>93|241=>94|276=>125|277=>126|n=>n,fun|31=>27|9=>9|3=>3|4=>4|0=>0|20=>20|72=>124|76=>128|70=>122|37=>23|75=>127|127=>161|164=>181|5=>5|80=>130|n=>n,fun|n=>n⟩
theorem Tryz.lays156 : Go.Proofs.Lays.n156 Tryz.prog Tryz.lays156_ren:={
 mixed:=by kernel_rfl
 f156:=Tryz.func43.trans (congrArg some Kr)
 f165:=Tryz.func68.trans (congrArg some Kr)
 f166:=Tryz.func69.trans (congrArg some Kr)
 f169:=Tf70.trans (congrArg some Kr)
 f240:=Tf93.trans (congrArg some Kr)
 f241:=Tryz.func94.trans (congrArg some Kr)
 f276:=Tryz.func125.trans (congrArg some Kr)
 f277:=Tryz.func126.trans (congrArg some Kr)
 t0:=Tu0
 a0:=Ta0
 z0:=Ts0
 v0:=Tz0
 t3:=Tu3
 a3:=Ta3
 z3:=Ts3
 v3:=Tz3
 t4:=Tu4
 a4:=Ta4
 z4:=Ts4
 v4:=Tz4
 t9:=Tu9
 a9:=Ta9
 z9:=Ts9
 v9:=Tz9
 t20:=Tu20
 a20:=Ta20
 z20:=Ts20
 v20:=Tz20
 t31:=Tu27
 a31:=Ta27
 z31:=Ts27
 v31:=Tz27
 t37:=Tu23
 a37:=Ta23
 z37:=Ts23
 v37:=Tz23
 t70:=Tu122
 a70:=Ta122
 z70:=Ts122
 v70:=Tz122
 t72:=Tu124
 a72:=Ta124
 z72:=Ts124
 v72:=Tz124
 t75:=Tu127
 a75:=Ta127
 z75:=Ts127
 v75:=Tz127
 t76:=Tu128
 a76:=Ta128
 z76:=Ts128
 v76:=Tz128
 t127:=Tu161
 a127:=Ta161
 z127:=Ts161
 v127:=Tz161
 t164:=Tu181
 a164:=Tryz.isAgg181
 z164:=Tryz.sizeOf181
 v164:=Tz181}
theorem Tryz.Builder_Extra_156 : Builder.Extra Tryz.prog Tryz.lays156_ren:={
 sizeBuilder:=by kernel_rfl
 liesBuilder:=by kernel_rfl
 t5:=Tu5
 a5:=Ta5
 z5:=Ts5
 v5:=Tz5
 infoByte:=by kernel_rfl
 cellsByte:=by kernel_rfl
 sizeByte:=by kernel_rfl
 neB5:=by decide}
open Go.RowKit in
theorem Tryz.strings_Join_none (a:Option Addr) (c:Nat) (sep:ByteArray) (w:World) :
 Calls Tryz.prog 43 #[.slice a 0 c, .string sep] w fun e w'=>e = .returned (.string ⟨#[]⟩)∧w'=w:=Any.strings_Join_none Tryz.lays156 Tryz.Builder_Extra_156 a c sep w
open Go.RowKit in
theorem Tryz.strings_Join (bk o c:Nat) (xs:List ByteArray) (sep:ByteArray) (w:World) (hcells :∀(j:Nat) x,xs[j]? = some x→w.cell? ⟨bk,o+j,none⟩=some (.string x)) (hbk:bk<w.heap.size) (hN:xs.length≤140737488355328) (hcap:xs.length≤c) (hlen:(Lib.join (xs.map (·.data.toList)) sep.data.toList).length≤140737488355328) :
 Calls Tryz.prog 43 #[.slice (some ⟨bk,o,none⟩) xs.length c, .string sep] w fun e w'=>e = .returned (.string ⟨(Lib.join (xs.map (·.data.toList)) sep.data.toList).toArray⟩)∧Below w.heap.size w w':=Any.strings_Join Tryz.lays156 Tryz.Builder_Extra_156 bk o c xs sep w hcells hbk hN hcap hlen
def Tryz.lays137_ren : Go.Shelf.Ren:=⟨fun|137=>73|217=>95|266=>127|n=>n,fun|9=>9|5=>5|3=>3|n=>n,fun|n=>n⟩
theorem Tryz.lays137 : Go.Proofs.Lays.n137 Tryz.prog Tryz.lays137_ren:={
 mixed:=by kernel_rfl
 f137:=Tf73.trans (congrArg some Kr)
 f217:=Tf95.trans (congrArg some Kr)
 f266:=Tf127.trans (congrArg some Kr)
 t3:=Tu3
 a3:=Ta3
 z3:=Ts3
 v3:=Tz3
 t5:=Tu5
 a5:=Ta5
 z5:=Ts5
 v5:=Tz5
 t9:=Tu9
 a9:=Ta9
 z9:=Ts9
 v9:=Tz9}
open Go.RowKit in
theorem Tryz.strings_IndexByte (s:ByteArray) (c:Int) (w:World) :
 Calls Tryz.prog 73 #[.string s, .int .u8 c] w fun e w'=>e = .returned (.int .i64 (Lib.indexByte s.data.toList c.toNat.toUInt8))∧w'=w:=Any.strings_IndexByte Tryz.lays137 s c w
def Tryz.laysM171_ren : Go.Shelf.Ren:=⟨fun|171=>26|243=>54|246=>84|283=>109|284=>110|285=>111|286=>112|129=>147|317=>146|318=>148|319=>149|320=>150|337=>173|338=>174|n=>n,fun|3=>3|9=>9|2=>2|4=>4|171=>169|0=>0|53=>26|37=>23|5=>5|173=>172|212=>201|51=>202|20=>20|213=>203|46=>131|232=>233|233=>234|n=>n,fun|17=>0|18=>2|19=>3|n=>n⟩
theorem Tryz.laysM171 : Go.Proofs.LaysM.n171 Tryz.prog Tryz.laysM171_ren:={
 mixed:=by kernel_rfl
 f129:=Tf147.trans (congrArg some Kr)
 f171:=Tf26.trans (congrArg some Kr)
 f243:=Tf54.trans (congrArg some Kr)
 f246:=Tf84.trans (congrArg some Kr)
 f283:=Tf109.trans (congrArg some Kr)
 f284:=Tf110.trans (congrArg some Kr)
 f285:=Tf111.trans (congrArg some Kr)
 f286:=Tf112.trans (congrArg some Kr)
 f317:=Tf146.trans (congrArg some Kr)
 f318:=Tf148.trans (congrArg some Kr)
 f319:=Tf149.trans (congrArg some Kr)
 f320:=Tf150.trans (congrArg some Kr)
 f337:=Tf173.trans (congrArg some Kr)
 f338:=Tf174.trans (congrArg some Kr)
 t0:=Tu0
 a0:=Ta0
 z0:=Ts0
 v0:=Tz0
 t2:=Tu2
 a2:=Ta2
 z2:=Ts2
 v2:=Tz2
 t3:=Tu3
 a3:=Ta3
 z3:=Ts3
 v3:=Tz3
 t4:=Tu4
 a4:=Ta4
 z4:=Ts4
 v4:=Tz4
 t5:=Tu5
 a5:=Ta5
 z5:=Ts5
 v5:=Tz5
 t9:=Tu9
 a9:=Ta9
 z9:=Ts9
 v9:=Tz9
 t20:=Tu20
 a20:=Ta20
 z20:=Ts20
 v20:=Tz20
 t37:=Tu23
 a37:=Ta23
 z37:=Ts23
 v37:=Tz23
 t46:=Tu131
 a46:=Ta131
 z46:=Ts131
 v46:=Tz131
 t51:=Tu202
 a51:=Ta202
 z51:=Ts202
 v51:=Tz202
 t53:=Tu26
 a53:=Ta26
 z53:=Ts26
 v53:=Tz26
 t171:=Tu169
 a171:=Ta169
 z171:=Ts169
 v171:=Tz169
 t173:=Tu172
 a173:=Ta172
 z173:=Ts172
 v173:=Tz172
 t212:=Tu201
 a212:=Ta201
 z212:=Ts201
 v212:=Tz201
 t213:=Tu203
 a213:=Ta203
 z213:=Ts203
 t232:=Tu233
 a232:=Ta233
 z232:=Ts233
 v232:=Tz233
 t233:=Tu234
 a233:=Ta234
 z233:=Ts234
 v233:=Tz234
 g17:=by kernel_rfl
 g18:=by kernel_rfl
 g19:=by kernel_rfl
 i0:=by kernel_rfl
 i2:=by kernel_rfl
 i3:=by kernel_rfl
 i4:=by kernel_rfl
 i5:=by kernel_rfl
 i9:=by kernel_rfl
 i20:=by kernel_rfl
 i37:=by kernel_rfl
 i46:=by kernel_rfl
 i51:=by kernel_rfl
 i53:=by kernel_rfl
 i171:=by kernel_rfl
 i173:=by kernel_rfl
 i212:=by kernel_rfl
 i232:=by kernel_rfl
 i233:=by kernel_rfl
 m17:=by kernel_rfl
 m18:=by kernel_rfl
 m19:=by kernel_rfl}
open Go.RowKit Go.Sort Go.Lib in
theorem Tryz.strconv_Itoa (n : Int) (h0 : -9223372036854775808 ≤ n) (h1 : n ≤ 9223372036854775807) (w : World) (htab : Lib.TabIs Tryz.prog w "internal/strconv.uint64pow10" .u64 Lib.pow10Tab) :
 Calls Tryz.prog 26 #[.int .i64 n] w fun e w'=>e = .returned (.string ⟨(Lib.itoa n).toArray⟩)∧∃k os,w'=grow (w.drewN k) os:=Any.strconv_Itoa Tryz.laysM171 n h0 h1 w htab
def Tryz.lays219_ren : Go.Shelf.Ren:=⟨fun|219=>154|217=>95|225=>176|224=>177|267=>178|266=>127|314=>193|n=>n,fun|9=>9|3=>3|4=>4|5=>5|46=>131|146=>211|51=>202|n=>n,fun|1=>1|n=>n⟩
theorem Tryz.lays219 : Go.Proofs.Lays.n219 Tryz.prog Tryz.lays219_ren:={
 mixed:=by kernel_rfl
 f217:=Tf95.trans (congrArg some Kr)
 f219:=Tf154.trans (congrArg some Kr)
 f224:=Tf177.trans (congrArg some Kr)
 f225:=Tf176.trans (congrArg some Kr)
 f266:=Tf127.trans (congrArg some Kr)
 f267:=Tf178.trans (congrArg some Kr)
 f314:=Tf193.trans (congrArg some Kr)
 t3:=Tu3
 a3:=Ta3
 z3:=Ts3
 v3:=Tz3
 t4:=Tu4
 a4:=Ta4
 z4:=Ts4
 v4:=Tz4
 t5:=Tu5
 a5:=Ta5
 z5:=Ts5
 v5:=Tz5
 t9:=Tu9
 a9:=Ta9
 z9:=Ts9
 v9:=Tz9
 t46:=Tu131
 a46:=Ta131
 z46:=Ts131
 v46:=Tz131
 t51:=Tu202
 a51:=Ta202
 z51:=Ts202
 v51:=Tz202
 t146:=Tu211
 a146:=Ta211
 z146:=Ts211
 v146:=Tz211
 g1:=by kernel_rfl}
open Go.RowKit Go.Lib in
theorem Tryz.stringslite_Index (s sub:ByteArray) (m:Int) (w:World) (hs:s.size<4294967281) (hm:w.cell? ⟨1,0,none⟩=some (.int .i64 m)) :
 Calls Tryz.prog 154 #[.string s, .string sub] w fun e w'=>e = .returned (.int .i64 (Lib.index s.data.toList sub.data.toList))∧w'=w:=Any.stringslite_Index Tryz.lays219 s sub m w hs hm
def Tryz.lays144_ren : Go.Shelf.Ren:=⟨fun|144=>189|143=>115|219=>154|217=>95|225=>176|224=>177|267=>178|266=>127|314=>193|n=>n,fun|9=>9|4=>4|3=>3|5=>5|46=>131|146=>211|51=>202|n=>n,fun|1=>1|n=>n⟩
theorem Tryz.lays144 : Go.Proofs.Lays.n144 Tryz.prog Tryz.lays144_ren:={
 mixed:=by kernel_rfl
 f143:=Tf115.trans (congrArg some Kr)
 f144:=Tryz.func189.trans (congrArg some Kr)
 f217:=Tf95.trans (congrArg some Kr)
 f219:=Tf154.trans (congrArg some Kr)
 f224:=Tf177.trans (congrArg some Kr)
 f225:=Tf176.trans (congrArg some Kr)
 f266:=Tf127.trans (congrArg some Kr)
 f267:=Tf178.trans (congrArg some Kr)
 f314:=Tf193.trans (congrArg some Kr)
 t3:=Tu3
 a3:=Ta3
 z3:=Ts3
 v3:=Tz3
 t4:=Tu4
 a4:=Ta4
 z4:=Ts4
 v4:=Tz4
 t5:=Tu5
 a5:=Ta5
 z5:=Ts5
 v5:=Tz5
 t9:=Tu9
 a9:=Ta9
 z9:=Ts9
 v9:=Tz9
 t46:=Tu131
 a46:=Ta131
 z46:=Ts131
 v46:=Tz131
 t51:=Tu202
 a51:=Ta202
 z51:=Ts202
 v51:=Tz202
 t146:=Tu211
 a146:=Ta211
 z146:=Ts211
 v146:=Tz211
 g1:=by kernel_rfl}
open Go.RowKit Go.Lib in
theorem Tryz.strings_Contains (s sub:ByteArray) (m:Int) (w:World) (hs:s.size<4294967281) (hm:w.cell? ⟨1,0,none⟩=some (.int .i64 m)) :
 Calls Tryz.prog 189 #[.string s, .string sub] w fun e w'=>e = .returned (.bool (Lib.contains s.data.toList sub.data.toList))∧w'=w:=Any.strings_Contains Tryz.lays144 s sub m w hs hm
def Tryz.lays146_ren : Go.Shelf.Ren:=⟨fun|146=>55|221=>85|268=>113|138=>114|143=>115|195=>151|197=>152|218=>153|219=>154|260=>175|217=>95|225=>176|224=>177|267=>178|266=>127|314=>193|n=>n,fun|9=>9|31=>27|3=>3|4=>4|0=>0|105=>206|21=>21|5=>5|46=>131|119=>235|139=>238|138=>237|146=>211|51=>202|n=>n,fun|1=>1|3=>4|4=>5|n=>n⟩
theorem Tryz.lays146 : Go.Proofs.Lays.n146 Tryz.prog Tryz.lays146_ren:={
 mixed:=by kernel_rfl
 f138:=Tf114.trans (congrArg some Kr)
 f143:=Tf115.trans (congrArg some Kr)
 f146:=Tryz.func55.trans (congrArg some Kr)
 f195:=Tf151.trans (congrArg some Kr)
 f197:=Tf152.trans (congrArg some Kr)
 f217:=Tf95.trans (congrArg some Kr)
 f218:=Tf153.trans (congrArg some Kr)
 f219:=Tf154.trans (congrArg some Kr)
 f221:=Tryz.func85.trans (congrArg some Kr)
 f224:=Tf177.trans (congrArg some Kr)
 f225:=Tf176.trans (congrArg some Kr)
 f260:=Tf175.trans (congrArg some Kr)
 f266:=Tf127.trans (congrArg some Kr)
 f267:=Tf178.trans (congrArg some Kr)
 f268:=Tryz.func113.trans (congrArg some Kr)
 f314:=Tf193.trans (congrArg some Kr)
 t0:=Tu0
 a0:=Ta0
 z0:=Ts0
 v0:=Tz0
 t3:=Tu3
 a3:=Ta3
 z3:=Ts3
 v3:=Tz3
 t4:=Tu4
 a4:=Ta4
 z4:=Ts4
 v4:=Tz4
 t5:=Tu5
 a5:=Ta5
 z5:=Ts5
 v5:=Tz5
 t9:=Tu9
 a9:=Ta9
 z9:=Ts9
 v9:=Tz9
 t21:=Tu21
 a21:=Ta21
 z21:=Ts21
 v21:=Tz21
 t31:=Tu27
 a31:=Ta27
 z31:=Ts27
 v31:=Tz27
 t46:=Tu131
 a46:=Ta131
 z46:=Ts131
 v46:=Tz131
 t51:=Tu202
 a51:=Ta202
 z51:=Ts202
 v51:=Tz202
 t105:=Tu206
 a105:=Ta206
 z105:=Ts206
 v105:=Tz206
 t119:=Tu235
 a119:=Ta235
 z119:=Ts235
 t138:=Tu237
 a138:=Ta237
 z138:=Ts237
 v138:=Tz237
 t139:=Tu238
 a139:=Ta238
 z139:=Ts238
 v139:=Tz238
 t146:=Tu211
 a146:=Ta211
 z146:=Ts211
 v146:=Tz211
 g1:=by kernel_rfl
 g3:=by kernel_rfl
 g4:=by kernel_rfl}
open Go.RowKit Go.Lib in
theorem Tryz.strings_Split (s sep:ByteArray) (m:Int) (w:World) (hs:s.size<4294967281) (hm:w.cell? ⟨1,0,none⟩=some (.int .i64 m)) (h1:1≤sep.size) :
 Calls Tryz.prog 55 #[.string s, .string sep] w fun e w' =>
  e = .returned (.slice (some ⟨w.heap.size,0,none⟩) (Lib.countB s sep+1) (Lib.countB s sep+1))∧w'=w.alloc (.cells ((Lib.splitB sep 0 (Lib.countB s sep) s).map Value.string).toArray 9):=Any.strings_Split Tryz.lays146 Kr s sep m w hs hm h1
def Tryz.lays105_ren : Go.Shelf.Ren:=⟨fun|105=>92|212=>122|99=>123|165=>68|166=>69|170=>124|169=>70|263=>160|264=>161|206=>116|240=>93|241=>94|276=>125|277=>126|n=>n,fun|9=>9|3=>3|4=>4|20=>20|0=>0|46=>131|109=>178|5=>5|72=>124|76=>128|51=>202|146=>211|53=>26|148=>213|70=>122|37=>23|75=>127|127=>161|164=>181|80=>130|n=>n,fun|n=>n⟩
theorem Tryz.lays105 : Go.Proofs.Lays.n105 Tryz.prog Tryz.lays105_ren:={
 mixed:=by kernel_rfl
 f99:=Tryz.func123.trans (congrArg some Kr)
 f105:=Tryz.func92.trans (congrArg some Kr)
 f165:=Tryz.func68.trans (congrArg some Kr)
 f166:=Tryz.func69.trans (congrArg some Kr)
 f169:=Tf70.trans (congrArg some Kr)
 f170:=Tryz.func124.trans (congrArg some Kr)
 f206:=Tf116.trans (congrArg some Kr)
 f212:=Tryz.func122.trans (congrArg some Kr)
 f240:=Tf93.trans (congrArg some Kr)
 f241:=Tryz.func94.trans (congrArg some Kr)
 f263:=Tryz.func160.trans (congrArg some Kr)
 f264:=Tryz.func161.trans (congrArg some Kr)
 f276:=Tryz.func125.trans (congrArg some Kr)
 f277:=Tryz.func126.trans (congrArg some Kr)
 t0:=Tu0
 a0:=Ta0
 z0:=Ts0
 v0:=Tz0
 t3:=Tu3
 a3:=Ta3
 z3:=Ts3
 v3:=Tz3
 t4:=Tu4
 a4:=Ta4
 z4:=Ts4
 v4:=Tz4
 t5:=Tu5
 a5:=Ta5
 z5:=Ts5
 v5:=Tz5
 t9:=Tu9
 a9:=Ta9
 z9:=Ts9
 v9:=Tz9
 t20:=Tu20
 a20:=Ta20
 z20:=Ts20
 v20:=Tz20
 t37:=Tu23
 a37:=Ta23
 z37:=Ts23
 v37:=Tz23
 t46:=Tu131
 a46:=Ta131
 z46:=Ts131
 v46:=Tz131
 t51:=Tu202
 a51:=Ta202
 z51:=Ts202
 v51:=Tz202
 t53:=Tu26
 a53:=Ta26
 z53:=Ts26
 v53:=Tz26
 t70:=Tu122
 a70:=Ta122
 z70:=Ts122
 v70:=Tz122
 t72:=Tu124
 a72:=Ta124
 z72:=Ts124
 v72:=Tz124
 t75:=Tu127
 a75:=Ta127
 z75:=Ts127
 v75:=Tz127
 t76:=Tu128
 a76:=Ta128
 z76:=Ts128
 v76:=Tz128
 t109:=Tryz.underlying178
 a109:=Tryz.isAgg178
 z109:=Tryz.sizeOf178
 v109:=Tryz.zeroValue178
 t127:=Tu161
 a127:=Ta161
 z127:=Ts161
 v127:=Tz161
 t146:=Tu211
 a146:=Ta211
 z146:=Ts211
 v146:=Tz211
 t148:=Tryz.underlying213
 a148:=Tryz.isAgg213
 z148:=Tryz.sizeOf213
 v148:=Tryz.zeroValue213
 t164:=Tu181
 a164:=Tryz.isAgg181
 z164:=Tryz.sizeOf181
 v164:=Tz181}
theorem Tryz.Builder_Extra_105 : Builder.Extra Tryz.prog Tryz.lays105_ren:={
 sizeBuilder:=by kernel_rfl
 liesBuilder:=by kernel_rfl
 t5:=Tu5
 a5:=Ta5
 z5:=Ts5
 v5:=Tz5
 infoByte:=by kernel_rfl
 cellsByte:=by kernel_rfl
 sizeByte:=by kernel_rfl
 neB5:=by decide}
open Go.RowKit Go.Lib in
theorem Tryz.strings_Repeat (s:ByteArray) (c:Nat) (w:World) (hc:c≤9223372036854775807) (hlen:s.size*c≤140737488355328) :
 Calls Tryz.prog 92 #[.string s, .int .i64 c] w fun e w'=>e = .returned (.string ⟨(Lib.repeatL s.data.toList c).toArray⟩)∧Below w.heap.size w w':=Any.strings_Repeat Tryz.lays105 Tryz.Builder_Extra_105 s c w hc hlen
def Tryz.lays185_ren : Go.Shelf.Ren:=⟨fun|185=>158|187=>181|115=>182|253=>183|224=>177|254=>184|255=>198|291=>199|n=>n,fun|37=>23|3=>3|4=>4|0=>0|5=>5|46=>131|9=>9|146=>211|51=>202|n=>n,fun|1=>1|n=>n⟩
theorem Tryz.lays185 : Go.Proofs.Lays.n185 Tryz.prog Tryz.lays185_ren:={
 mixed:=by kernel_rfl
 f115:=Tryz.func182.trans (congrArg some Kr)
 f185:=Tryz.func158.trans (congrArg some Kr)
 f187:=Tryz.func181.trans (congrArg some Kr)
 f224:=Tf177.trans (congrArg some Kr)
 f253:=Tryz.func183.trans (congrArg some Kr)
 f254:=Tryz.func184.trans (congrArg some Kr)
 f255:=Tryz.func198.trans (congrArg some Kr)
 f291:=Tryz.func199.trans (congrArg some Kr)
 t0:=Tu0
 a0:=Ta0
 z0:=Ts0
 v0:=Tz0
 t3:=Tu3
 a3:=Ta3
 z3:=Ts3
 v3:=Tz3
 t4:=Tu4
 a4:=Ta4
 z4:=Ts4
 v4:=Tz4
 t5:=Tu5
 a5:=Ta5
 z5:=Ts5
 v5:=Tz5
 t9:=Tu9
 a9:=Ta9
 z9:=Ts9
 v9:=Tz9
 t37:=Tu23
 a37:=Ta23
 z37:=Ts23
 v37:=Tz23
 t46:=Tu131
 a46:=Ta131
 z46:=Ts131
 v46:=Tz131
 t51:=Tu202
 a51:=Ta202
 z51:=Ts202
 v51:=Tz202
 t146:=Tu211
 a146:=Ta211
 z146:=Ts211
 v146:=Tz211
 g1:=by kernel_rfl}
open Go.RowKit Go.Lib in
theorem Tryz.bytes_Index_longer (p q:Option Addr) (n c m d:Nat) (w:World) (h2:2≤m) (hnm:n<m) (hm:m≤9223372036854775807) :
 Calls Tryz.prog 158 #[.slice p n c, .slice q m d] w fun e w'=>e = .returned (.int .i64 (-1))∧w'=w:=Any.bytes_Index_longer Tryz.lays185 p q n c m d w h2 hnm hm
open Go.Proofs Go.RowKit Go.Lib in
theorem Tryz.bytes_Index_at (a1 a2:Addr) (n c1 k c2:Nat) (xs ys:List Int) (m:Int) (w:World) (hx:xs.length=n) (hy:ys.length=k) (hr1 :∀x∈xs,0≤x∧x<256) (hr2 :∀y∈ys,0≤y∧y<256) (hc1 :∀i,i<n→w.cell? (a1.add i)=some (.int .u8 (xs.getD i 0))) (hc2 :∀i,i<k→w.cell? (a2.add i)=some (.int .u8 (ys.getD i 0))) (hcap:n≤c1) (hs:n<4294967281) (hk:k≤9223372036854775807) (hm:w.cell? ⟨1,0,none⟩=some (.int .i64 m)) :
 Calls Tryz.prog 158 #[.slice (some a1) n c1, .slice (some a2) k c2] w fun e w'=>e = .returned (.int .i64 (Lib.index (Lib.bytesOf xs) (Lib.bytesOf ys)))∧∃q,w'=w.drewN q:=Any.bytes_Index_at Tryz.lays185 a1 a2 n c1 k c2 xs ys m w hx hy hr1 hr2 hc1 hc2 hcap hs hk hm
end Go.Proofs
end
section
namespace Go.Proofs.YtglpkikfplcckaaGreatDoor
open Go Go.RowKit Go.Ph Go.ChangeShapes Go.WideShapes Go.ChangeAt
theorem own : ownKnob Tryz.prog.godebug=none:=by kernel_rfl
theorem laidOut : laidOutB Tryz.prog=true:=by kernel_rfl
theorem pow_eq : Lib.tabData .u64 Lib.pow10Tab=(Rows.laid_internal_strconv_uint64pow10:DataW Unit):=by kernel_rfl
theorem gl_pow10 {W : World}(h : laidMetH Tryz.prog Rows.topSignaturesPassRelaysRow.laid W): GlF (fun w => Lib.TabIs Tryz.prog w "internal/strconv.uint64pow10" .u64 Lib.pow10Tab) (memOf W) := by
 replace h:laidMet Tryz.prog Rows.topSignaturesPassRelaysRow.laid W:=h
 have h3 := Lib.laidMet.reads h (n := "internal/strconv.uint64pow10") (d := Rows.laid_internal_strconv_uint64pow10) (by simp [Rows.topSignaturesPassRelaysRow])
 rw[←pow_eq] at h3;exact tab_of_reads (g:=0) (len:=20) (t:=201) (e:=26) h3 Kr Kr Kr Kr Kr Kr
theorem gl_maxl {W:World}(h:W.ShapedOpen Tryz.prog):GlF (fun w =>∃m,w.cell? ⟨1,0,none⟩=some (.int .i64 m)) (memOf W):=by
 obtain⟨m,hm⟩:=Go.Proofs.cell_of_shapedOpen_int (g:=1) (zero := #[.int .i64 0]) (t:=3) h (of_decide_eq_true Kr) Kr rfl Kr Kr Tu3;exact fun w ha=>⟨m,cell_upM ha hm⟩
noncomputable def laidWorld (os:Os):World:=World.laidAll Tryz.prog os Rows.topSignaturesPassRelaysRow.laid
theorem laid_met (os:Os)(args:Array Value):laidMet Tryz.prog Rows.topSignaturesPassRelaysRow.laid ((laidWorld os).forCall (fun _ _=>0) ⟨#[],args,[]⟩).memory :=
 laidMet_laidAll args Kr Kr
theorem str_list (s:ByteArray):∃l:Ls,s=⟨l.toArray⟩:=⟨s.data.toList,by cases s;simp⟩
end Go.Proofs.YtglpkikfplcckaaGreatDoor
end
section
namespace Go.Ph
open Go Go.RowKit Go.ChangeShapes Go.WideShapes Go.ChangeAt
section
variable {H : Type} {enc : TypeId × Value → H} {P : Program} {W : World}
def ElemIs (enc:TypeId × Value→H)(P:Program)(W:World)(e:TypeId){α:Type}(encA:α→List Value)(ok:α→Prop):Prop :=
 ∀fuel cs (x:DataW H × List MemPlace),DataW.trod enc P W 0 (fun _=>true) true fuel e cs=some x→∃a,cs=encA a∧((∀y∈x.1.weights P e,y≤reachBytes)→ok a)
theorem weightsAll_mem {e:TypeId}:∀{l:List (DataW H)} {d:DataW H},d∈l→∀y∈d.weights P e,y∈DataW.weightsAll P e l
 | [],d,h=>by cases h
 | x::l,d,h=>fun y hy=>by
   rw[DataW.weightsAll];rcases List.mem_cons.1 h with rfl|h
   · exact l0W _ hy
   exact l0Z _ (weightsAll_mem h y hy)
theorem open_sliceV {α:Type}{t e:TypeId}{kk:Nat}{encA:α→List Value}{ok:α→Prop}{v:Value}{d:DataW H}{p:List MemPlace}(ht:P.underlying t=some (.slice e))(hc:P.cellsOf e=kk)(hk:0<kk)
 (h0 :∀a,(encA a).length=kk) (hel:ElemIs enc P W e encA ok) (hsl :∃a0 len cap,v = .slice a0 len cap) (hT:DataW.Trod enc P W 0 (fun _=>true) true t v d p) :
 ∃l:List α,SlS (memOf W) kk encA v l∧DLen d l.length∧((∀x∈d.weights P t,x≤reachBytes)→∀a∈l,ok a):=by
 obtain⟨a0,len,cap,rfl⟩:=hsl;obtain⟨fuel,hf⟩:=hT;rcases Deep.open_slice ht hf with ⟨hcs,hx⟩|⟨a,len',cap',m,n,D,Pl,hcs,_,hl,hm,hmm,hx,hi⟩
 · simp [Value.cells] at hcs;obtain⟨rfl,rfl,rfl⟩:=hcs;cases hx;exact⟨[],⟨h0,none,0,G,by simp,⟨by simp [maxLen],fun _=>G⟩,fun h=>absurd G h⟩, .inl ⟨G,G⟩,fun _ a ha=>by cases ha⟩
 simp [Value.cells] at hcs;obtain⟨rfl,rfl,rfl⟩:=hcs;simp only[if_true] at hmm;cases hx;have each :∀i,i<len→∃x:α,(∀j u,(encA x)[j]? = some u→W.cell? (a.add (i*kk+j))=some u)∧((∀y∈(D i).weights P e,y≤reachBytes)→ok x):=fun i hil=>by
  obtain⟨cs',h1,h2⟩:=hi i Om;obtain⟨x,rfl,hw⟩:=hel _ _ _ h2;rw[hc] at h1;refine⟨x,fun j u hj=>?_,hw⟩;obtain⟨_,c1,c2⟩:=World.cells?_some h1;have hjl:j<kk:=by have:=(List.getElem?_eq_some_iff.1 hj).1;rw [h0] at this;exact this
  have:=c2 j hjl;rw[hj] at this;rw[←this];congr 1;by_cases hj0:j=0 <;> by_cases hi0:i*kk=0 <;> simp [Addr.add,hj0,hi0,l1p]
 obtain⟨l,hll,hlx⟩ :∃l:List α,l.length=len∧∀i x,l[i]? = some x→(∀j u,(encA x)[j]? = some u→W.cell? (a.add (i*kk+j))=some u)∧((∀y∈(D i).weights P e,y≤reachBytes)→ok x):=by
  have :∀n,n≤len→∃l:List α,l.length=n∧∀i x,l[i]? = some x→(∀j u,(encA x)[j]? = some u→W.cell? (a.add (i*kk+j))=some u)∧((∀y∈(D i).weights P e,y≤reachBytes)→ok x):=by
   intro n;induction n with
   | zero=>exact fun _=>⟨[],rfl,fun i x h=>by simp at h⟩
   | succ n ih =>
     intro hn;obtain⟨l,h1,h2⟩:=ih Om;obtain⟨x,hx⟩:=each n Om;refine⟨l++[x],by simp [h1],fun i y hy=>?_⟩;rcases l0G i n with hin|hin
     · rw[List.getElem?_append_left Om] at hy;exact h2 i y hy
     rw[List.getElem?_append_right Om] at hy;have hi0:i-l.length=0:=by have:=(List.getElem?_eq_some_iff.1 hy).1;simp at this;omega
     rw[hi0] at hy;simp at hy;subst hy;obtain rfl:i=n:=by omega
     exact hx
  exact this len (l09 _)
 refine⟨l,⟨h0,some a,cap,by rw[hll],by omega,⟨hm,fun h=>by cases h⟩,fun hne=>?_⟩, .inr ⟨_,_,G,by simp [hll]⟩,fun hw x hx=>?_⟩
 · have hpos:0<len:=by
    rcases l1y len with h|h
    · exact absurd (l05 Om) hne
    exact h
   have hcell :∀q,q<len*kk→W.cell? (a.add q)=some ((l.flatMap encA).getD q undef):=fun q hq=>by
    have hq1:q / kk<len:=Nat.div_lt_of_lt_mul (by rw[Nat.mul_comm];exact hq);have hq2:q % kk<kk:=l1H _ hk;have hl1:l[q / kk]? = some (l[q / kk]'Om):=List.getElem?_eq_getElem _;have hu:(encA (l[q / kk]'Om))[q % kk]? = some ((encA (l[q / kk]'Om))[q % kk]'(by rw[h0];exact hq2)):=List.getElem?_eq_getElem _;have h3:=(hlx _ _ hl1).1 _ _ hu;have h4:=flat_at h0 l _ _ _ _ hl1 hu;have hqq:q / kk*kk+q % kk=q:=by rw[Nat.mul_comm];exact Nat.div_add_mod q kk
    rw[hqq] at h3 h4;rw[h3,l0m,h4];rfl
   obtain⟨b,o,cs,t',fz,rfl,hb,hcs⟩:=cells_at (n:=len*kk) (Nat.mul_pos hpos hk) hcell;refine⟨b,o,cs,t',fz,G,hb,fun i x hi j u hj=>?_⟩;have hil:=(List.getElem?_eq_some_iff.1 hi).1;have hjl:j<kk:=by have:=(List.getElem?_eq_some_iff.1 hj).1;rw [h0] at this;exact this
   have hlt:i*kk+j<len*kk:=by
    have:(i+1)*kk≤len*kk:=l0B _ Om;rw[l0V] at this;omega
   have:=hcs (i*kk+j) hlt;rw[l0m,flat_at h0 l i j x u hi hj] at this;rw[l1p];exact this
 obtain⟨i,hi',rfl⟩:=l0K hx;refine(hlx i _ (List.getElem?_eq_getElem hi')).2 (fun y hy=>hw y ?_);simp only[DataW.weights,ht];exact l0p _ (l0W _ (weightsAll_mem (List.mem_map.2 ⟨i,List.mem_range.2 Om,G⟩) y hy))
theorem open_sliceG {α:Type}{t e:TypeId}{kk:Nat}{encA:α→List Value}{ok:α→Prop}{v:Value}{d:DataW H}{p:List MemPlace}{base:Nat}(ht:P.underlying t=some (.slice e))(hc:P.cellsOf e=kk)(hk:0<kk)
 (h0 :∀a,(encA a).length=kk) (hel:ElemIs enc P W e encA ok) (hval:Value.okWide P W .any base t v) (hT:DataW.Trod enc P W 0 (fun _=>true) true t v d p) :
 ∃l:List α,SlS (memOf W) kk encA v l∧DLen d l.length∧((∀x∈d.weights P t,x≤reachBytes)→∀a∈l,ok a):=open_sliceV ht hc hk h0 hel (okWide_slice ht hval) hT
theorem SlS.toSl {α:Type}{M:Mem}{encA:α→Value}{v:Value}{l:List α}(h:SlS M 1 (fun a=>[encA a]) v l):Sl M encA v l:=by
 obtain⟨h0,A,c,rfl,h1,h2,h3⟩:=h;refine⟨A,c,G,h1,h2,fun hne=>?_⟩;obtain⟨b,o,cs,t,fz,e1,e2,e3⟩:=h3 hne;exact⟨b,o,cs,t,fz,e1,e2,fun i x hi=>by have:=e3 i x hi 0 (encA x) G;simpa using this⟩
theorem elem_str {e:TypeId}(he:P.underlying e=some .string):ElemIs enc P W e (fun a:Ls=>[encS a]) (fun a=>a.length≤140737488351232):=fun fuel cs x h=>by
 obtain⟨s,rfl,rfl,hs⟩:=DataW.trod_string he h;exact⟨s.data.toList,by cases s;simp [encS,S],fun hw=>hw s.data.toList.length (by simp [DataW.weights])⟩
theorem open_strs {t e:TypeId}{v:Value}{d:DataW H}{p:List MemPlace}{base:Nat}(ht:P.underlying t=some (.slice e))(he:P.underlying e=some .string)(hc:P.cellsOf e=1)
 (hval:Value.okWide P W .any base t v) (h0:DataW.Trod enc P W 0 (fun _=>true) true t v d p) :
 ∃l:List Ls,Sl (memOf W) encS v l∧DLen d l.length∧((∀x∈d.weights P t,x≤reachBytes)→∀a∈l,a.length≤140737488351232):=by
 obtain⟨l,h1,h2,h3⟩:=open_sliceG ht hc Om (fun _=>rfl) (elem_str he) hval h0;exact⟨l,h1.toSl,h2,h3⟩
end
end Go.Ph
end
section
namespace Go.Ph
open Go Go.RowKit Go.ChangeShapes Go.WideShapes Go.ChangeAt
section
variable {H : Type} {enc : TypeId × Value → H} {P : Program} {W : World}
theorem elem_fld {e tS:TypeId}{f0 f1:Field}(he:P.underlying e=some (.struct #[f0,f1]))(t0:f0.type=tS)(t1:f1.type=tS)(o0:f0.offset=0)(o1:f1.offset=1)(hS:P.underlying tS=some .string)(hc:P.cellsOf tS=1)(hce:P.cellsOf e=2):
 ElemIs enc P W e (fun a:Ls × Ls=>[S a.1,S a.2]) (fun a=>a.1.length≤140737488351232∧a.2.length≤140737488351232):=fun fuel cs x h=>by
 obtain⟨y0,y1,n,rfl,hl,h0,h1⟩:=trod_struct2 he h;rw[t0,o0,hc] at h0;rw[t1,o1,hc] at h1;rw[hce] at hl;obtain⟨s0,e0,rfl,_⟩:=DataW.trod_string hS h0;obtain⟨s1,e1,rfl,_⟩:=DataW.trod_string hS h1
 match cs,hl with
 | [c0,c1],_ =>
   simp at e0 e1;subst e0 e1;refine⟨(s0.data.toList,s1.data.toList),by cases s0;cases s1;simp [S],fun hw=>?_⟩;have hw' :∀y∈ [s0.data.toList.length,s1.data.toList.length],y≤reachBytes:=fun y hy=>hw y (by
    simp only[DataW.weights,he,DataW.weightsEach,l0i,l0y];simpa using hy)
   exact⟨hw' _ Sm,hw' _ Sm⟩
end
end Go.Ph
end
section
namespace Go.Ph
open Go Go.RowKit Go.ChangeShapes Go.WideShapes Go.ChangeAt
section
variable {H : Type} {enc : TypeId × Value → H} {P : Program} {W : World}
theorem elem_byte {e:TypeId}(he:P.underlying e=some (.int .u8)):ElemIs enc P W e (fun a:UInt8=>[encB a]) (fun _=>True):=fun fuel cs x h=>by
 obtain⟨n,rfl,rfl,hw⟩:=DataW.trod_int he h;have h2:=wf_u8 hw;refine⟨ub n,?_,fun _=>trivial⟩;show [Value.int .u8 n]=[Value.int .u8 ((ub n).toNat:Int)]
 rw[ub_toNat,l1Q Om Om]
theorem sl_of {n:Nat}{t e:TypeId}{c:Value}{y:DataW H × List MemPlace}(hL:P.underlying t=some (.slice e))(k:DataW.trod enc P W 0 (fun _=>true) true n t [c]=some y):∃a0 len cap,c = .slice a0 len cap:=by
 rcases Deep.open_slice hL k with ⟨hcs,_⟩|⟨a,len',cap',m,n',D,Pl,hcs,_⟩
 · simp only[List.cons.injEq,and_true] at hcs;exact ⟨_,_,_,hcs⟩
 simp only[List.cons.injEq,and_true] at hcs;exact ⟨_,_,_,hcs⟩
theorem open_msg {t e e2 tS tL tB:TypeId}{f0 f1:Field}{g0 g1:Field}{v:Value}{d:DataW H}{p:List MemPlace}{base:Nat}(hs:P.underlying t=some (.struct #[f0,f1]))(t0:f0.type=tL)(t1:f1.type=tB)(o0:f0.offset=0)(o1:f1.offset=1)
 (hC:P.cellsOf t=2) (hL:P.underlying tL=some (.slice e)) (hcL:P.cellsOf tL=1) (hB:P.underlying tB=some (.slice e2)) (hcB:P.cellsOf tB=1) (h8:P.underlying e2=some (.int .u8)) (hc8:P.cellsOf e2=1) (hb8:P.bytesOf e2=1)
 (he:P.underlying e=some (.struct #[g0,g1])) (u0:g0.type=tS) (u1:g1.type=tS) (q0:g0.offset=0) (q1:g1.offset=1) (hS:P.underlying tS=some .string) (hcS:P.cellsOf tS=1) (hce:P.cellsOf e=2)
 (hval:Value.okWide P W .any base t v) (h0:DataW.Trod enc P W 0 (fun _=>true) true t v d p) :
 ∃(z:List (Ls × Ls) × Ls) (x0 x1:Value),v = .agg #[x0,x1]∧SlS (memOf W) 2 (fun a=>[S a.1,S a.2]) x0 z.1∧Sl (memOf W) encB x1 z.2∧
  ((∀y∈d.weights P t,y≤reachBytes)→(∀a∈z.1,a.1.length≤140737488351232∧a.2.length≤140737488351232)∧z.2.length≤140737488351232):=by
 obtain⟨cs,rfl,hsz⟩:=okWide_struct hs hval;obtain⟨fuel,h⟩:=h0;obtain⟨xs,n,_,hd,_,hlen,hf⟩:=DataW.trod_struct hs h;have hsz3:cs.size=2:=hsz.trans hC;obtain⟨c0,c1,rfl⟩ :∃c0 c1,cs = #[c0,c1]:=by
  obtain⟨l⟩:=cs
  match l,hsz3 with
  | [c0,c1],_=>exact⟨c0,c1,rfl⟩
 match xs,hlen with
 | [y0,y1],_ =>
   have k0:=hf 0 f0 rfl;have k1:=hf 1 f1 rfl;rw[t0,o0,hcL] at k0;rw[t1,o1,hcB] at k1;simp only[List.getElem?_cons_zero,List.getElem?_cons_succ,Option.some.injEq] at k0 k1;have k0':DataW.trod enc P W 0 (fun _=>true) true n tL [c0]=some y0:=k0;have k1':DataW.trod enc P W 0 (fun _=>true) true n tB [c1]=some y1:=k1;have hT0:DataW.Trod enc P W 0 (fun _=>true) true tL c0 y0.1 y0.2:=by
    obtain⟨a0,len,cap,rfl⟩:=sl_of hL k0';exact⟨n,k0'⟩
   have hT1:DataW.Trod enc P W 0 (fun _=>true) true tB c1 y1.1 y1.2:=by
    obtain⟨a0,len,cap,rfl⟩:=sl_of hB k1';exact⟨n,k1'⟩
   obtain⟨l,hl,hdl,hx⟩:=open_sliceV hL hce Om (fun _=>rfl) (elem_fld (enc:=enc) (P:=P) (W:=W) he u0 u1 q0 q1 hS hcS hce) (sl_of hL k0') hT0;obtain⟨b,hb,hdb,_⟩:=open_sliceV hB hc8 Om (fun _=>rfl) (elem_byte (enc:=enc) (P:=P) (W:=W) h8) (sl_of hB k1') hT1;refine⟨(l,b),c0,c1,G,hl,hb.toSl,fun hw=>?_⟩;have hd':d = .agg [y0.1,y1.1]:=by cases hd;rfl
   subst hd';have hW :∀y∈DataW.weightsEach P [tL,tB] [y0.1,y1.1],y≤reachBytes:=fun y hy=>hw y (by
    simp only[DataW.weights,hs,l0i,l0y,t0,t1];exact hy)
   simp only[DataW.weightsEach,l0l] at hW;exact⟨hx fun y hy=>hW y (l0W _ hy),slice_weight hB hb8 Om hdb fun y hy=>hW y (l0Z _ hy)⟩
end
end Go.Ph
end
section
namespace Go.Ph
open Go Go.RowKit
def chainB (ops:Array Oper):List Nat→Array Bool→Bool
 | [],_=>true
 | i::is,l=>(Region.ready .any ops l == [i])&&(ops[i]?).isSome&&chainB ops is (l.setIfInBounds i true)
def opsAt (ops:Array Oper):List Nat→List Oper
 | []=>[]
 | i::is=>match ops[i]? with
   | some o=>o::opsAt ops is
   | none=>[]
def finL : List Nat→Array Bool→Array Bool
 | [],l=>l
 | i::is,l=>finL is (l.setIfInBounds i true)
def noCall (o:Oper):Bool:=match o.op with
 | .call _=>false
 | _=>true
theorem noCall_about {o:Oper}(h:noCall o=true)(P:Program)(w:World)(ρ:Operand→Value):o.about P w ρ=none:=by
 unfold noCall at h;unfold Oper.about;split
 · rename_i c hc;rw [hc] at h;cases h
 rfl
def freesB (ops:Array Oper):List Nat→Array Bool→Bool
 | [],_=>true
 | i::is,l=>(match ops[i]? with|some o=>noCall o|none=>false)&&Region.free .any ops l i&&(Region.ready .any ops l).contains i&&freesB ops is (l.setIfInBounds i true)
section
variable {r : Option Nat} {P : Program} {ops : Array Oper} {Q : Exit → Act → World → Prop} {n fuel : Nat} {D : List Deferred} {e e' : Env} {w : World} {listed : Array Bool}
theorem chain_sound :∀(is:List Nat) (listed:Array Bool) (a:Act) (w:World),chainB ops is listed=true→wpListIn (Wd r) 0 P ops (Qa r P ops Q fuel (finL is listed)) (opsAt ops is) a w→wpAnyIn (Wd r) 0 P .any ops (noP ops Q) (fuel+is.length) listed a w
 | [],listed,a,w,hc,h=>h
 | i::is,listed,a,w,hc,h=>by
   rw[chainB,l0e,l0e] at hc;obtain⟨⟨h1,h2⟩,h3⟩:=hc;have h1:Region.ready .any ops listed=[i]:=by simpa using h1
   obtain⟨o,ho⟩:=Option.isSome_iff_exists.1 h2;rw[opsAt,ho] at h;refine wpAnyIn_all h1 Sm fun x hx=>?_
   obtain rfl:x=i:=by simpa using hx
   have h4:wpOpIn (Wd r) 0 P ops (noP ops Q) x (wpListIn (Wd r) 0 P ops (Qa r P ops Q fuel (finL (x::is) listed)) (opsAt ops is)) a w:=by
    unfold wpOpIn;rw[ho];simp only[wpListIn] at h ⊢;exact h
   exact wpOpIn_mono (fun a w hk=>chain_sound is (listed.setIfInBounds x true) a w h3 hk) h4
theorem WA.seq (is:List Nat){f:Nat}(hf:f=fuel+is.length)(hc:chainB ops is listed=true)(k:WR r P ops (Qa r P ops Q fuel (finL is listed)) n D (opsAt ops is) e w):WA r P ops Q n D f listed e w:=fun a ha=>by
 subst hf;exact chain_sound is listed a w hc (k a ha)
abbrev _root_.q0a := @WA.seq
theorem skips_one {o:Oper}(h:skips ops n e [o]=some e'):∃d,o.dst=some d∧d<n∧e'=(d,undef)::e∧∀D a,Sat n D e a→Region.wanted o (yielded ops a.tmps)=false:=by
 rw[skips] at h;split at h
 case h_2=>cases h
 rename_i j b d hg hd;split at h
 case h_2=>cases h
 rename_i t ht;split at h
 · rename_i b' hb;cases hc:((b' != b)&&Nat.blt d n) with
   | false=>rw[hc] at h;cases h
   | true =>
     rw[hc] at h;rw[l0e] at hc;have hne:b'≠b:=by simpa using hc.1
     rw[cond_true,skips] at h;exact⟨d,hd,l06 hc.2,(oI h).symm,fun D a ha=>by
      have:=yielded_of ht ha hb;simp [Region.wanted,hg,this,hne]⟩
 · rename_i xs hb;cases hc:Nat.blt d n with
   | false=>rw[hc] at h;cases h
   | true =>
     rw[hc] at h;rw[cond_true,skips] at h;exact⟨d,hd,l06 hc,(oI h).symm,fun D a ha=>by
      have hv:=ha.val t _ hb;have:yielded ops a.tmps j=none:=by
       unfold yielded;rw[ht];simp only[l0S];cases htt:a.tmps[t]? with
       | none=>rfl
       | some x=>simp [htt] at hv;subst hv;rfl
      simp [Region.wanted,hg,this]⟩
 cases h
theorem skips_cons {o:Oper}{l:List Oper}(h:skips ops n e (o::l)=some e'):∃e1,skips ops n e [o]=some e1∧skips ops n e1 l=some e':=by
 rw[skips] at h;split at h
 case h_2=>cases h
 rename_i j b d hg hd;split at h
 case h_2=>cases h
 rename_i t ht;split at h
 · rename_i b' hb;cases hc:((b' != b)&&Nat.blt d n) with
   | false=>rw[hc] at h;cases h
   | true =>
     rw[hc,cond_true] at h;refine⟨_,?_,h⟩;rw[skips,hg,hd];simp only[ht,hb,hc,cond_true];rfl
 · rename_i xs hb;cases hc:Nat.blt d n with
   | false=>rw[hc] at h;cases h
   | true =>
     rw[hc,cond_true] at h;refine⟨_,?_,h⟩;rw[skips,hg,hd];simp only[ht,hb,hc,cond_true];rfl
 cases h
theorem takes_sound (hs:Region.noSelect ops=true):∀(is:List Nat) (e:Env) (listed:Array Bool),freesB ops is listed=true→skips ops n e (opsAt ops is)=some e'→WA none P ops Q n D fuel (finL is listed) e' w→WA none P ops Q n D (fuel+is.length) listed e w
 | [],e,listed,_,h,k=>by cases h;exact k
 | i :: is,e,listed,hf,h,k=>by
   rw[freesB,l0e,l0e,l0e] at hf;obtain⟨⟨⟨h1,h2⟩,h3⟩,h4⟩:=hf;cases ho:ops[i]? with
   | none=>rw[ho] at h1;cases h1
   | some o =>
     rw[ho] at h1;rw[opsAt,ho] at h;obtain⟨e1,g1,g2⟩:=skips_cons h;obtain⟨d,hd,hn,rfl,hw⟩:=skips_one g1;exact WA.takeN ho hs h2 h3 (hw D) hd (Nat.ble_eq_true_of_le hn) (fun w ρ=>noCall_about h1 P w ρ) (takes_sound hs is _ _ h4 g2 k)
theorem WA.takes (is:List Nat){f:Nat}(hf:f=fuel+is.length)(hs:Region.noSelect ops=true)(hc:freesB ops is listed=true)(h:Ph.skips ops n e (opsAt ops is)=some e')(k:WA none P ops Q n D fuel (finL is listed) e' w):WA none P ops Q n D f listed e w:=by
 subst hf;exact takes_sound hs is e listed hc h k
end
section
variable {P : Program} {e : Env} {w : World} {x y : Operand} {dst : Option Tmp} {ty t t' : TypeId} {pos : String} {af : Array Edge} {g : Option (Nat × Bool)} {a b : Bool}
end
end Go.Ph
end
section
namespace Go.Ph
open Go Go.RowKit
def Keeps {α:Type}(s:Sem α):Prop :=∀(P:Program) (w:World) (x:α) (w':World),s.run P w = .ok x w'→w'=w
theorem Keeps.pure {α:Type}(a:α):Keeps (Pure.pure a:Sem α):=fun P w x w' h=>by
 rw[Sem.run_pure] at h;cases h;rfl
theorem Keeps.bind {α β:Type}{s:Sem α}{f:α→Sem β}(h:Keeps s)(hf :∀a,Keeps (f a)):Keeps (s >>= f):=fun P w x w' hr=>by
 rw[Sem.run_bind] at hr;cases h1:s.run P w with
 | ok a w1 =>
   rw[h1,Result.andThen_ok] at hr;rw[h P w a w1 h1] at hr;exact hf a P w x w' hr
 | halt c w1=>rw[h1] at hr;cases hr
theorem Keeps.load {a:Addr}{m:Mode}:Keeps (Go.load a m):=fun P w x w' h=>by
 unfold Go.load at h;simp only[Sem.run] at h;split at h
 · cases h;rfl
 split at h
 · cases h;rfl
 cases h
theorem Keeps.program : Keeps Go.program:=fun P w x w' h=>by
 unfold Go.program at h;simp only[Sem.run] at h;cases h;rfl
theorem Keeps.halt {α:Type}{c:Halt}:Keeps (Sem.halt c:Sem α):=fun P w x w' h=>by
 simp only[Sem.run] at h;cases h
theorem Keeps.typeInfo {t:TypeId}:Keeps (Go.typeInfo t):=by
 unfold Go.typeInfo;refine Keeps.bind Keeps.program fun p=>?_
 split
 · exact Keeps.pure _
 exact Keeps.halt
theorem Keeps.underlying {t:TypeId}:Keeps (Go.underlying t):=by
 unfold Go.underlying;refine Keeps.bind Keeps.program fun p=>?_
 split
 · exact Keeps.pure _
 exact Keeps.halt
theorem Keeps.sizeOf {t:TypeId}:Keeps (Go.sizeOf t):=Keeps.bind Keeps.typeInfo fun p=>Keeps.pure _
theorem Keeps.isAgg {t:TypeId}:Keeps (Go.isAgg t):=by
 unfold Go.isAgg;refine Keeps.bind Keeps.underlying fun p=>?_
 split <;> exact Keeps.pure _
theorem Keeps.loadCellsFrom {a:Addr}:∀(n i:Nat) (acc:Array Value),Keeps (Go.loadCellsFrom a i n acc)
 | 0,i,acc=>Keeps.pure _
 | n+1,i,acc=>Keeps.bind Keeps.load fun v=>Keeps.loadCellsFrom n (i+1) _
theorem Keeps.loadVar {t:TypeId}{a:Addr}:Keeps (Go.loadVar t a):=by
 unfold Go.loadVar;refine Keeps.bind Keeps.isAgg fun b=>?_
 split
 · exact Keeps.bind Keeps.sizeOf fun n=>Keeps.bind (Keeps.loadCellsFrom n 0 _) fun c=>Keeps.pure _
 exact Keeps.load
theorem Keeps.loadAt {t:TypeId}{v:Value}:Keeps (Instr.loadAt t v):=by
 unfold Instr.loadAt;refine Keeps.bind ?_ fun a=>Keeps.loadVar
 unfold Instr.sureAddr;split
 · exact Keeps.pure _
 exact Keeps.halt
def quietB (o:Oper):Bool:=match o.op with
 | .move _=>true
 | .assign _=>true
 | .load _ _=>true
 | _=>false
def Quiet (o:Oper):Prop :=∀(ρ:Operand→Value) (P:Program) (w:World) (x:Next) (w':World),(execOp ρ o).run P w = .ok x w'→w'=w∧∃u,x = .value u
theorem quiet_of {o:Oper}(h:quietB o=true):Quiet o:=fun ρ P w x w' hr=>by
 unfold quietB at h;unfold execOp at hr;split at h
 · rename_i y hy;rw[hy] at hr;simp only[Sem.run_pure] at hr;cases hr;exact ⟨rfl,_,rfl⟩
 · rename_i y hy;rw[hy] at hr;simp only[Sem.run_pure] at hr;cases hr;exact ⟨rfl,_,rfl⟩
 · rename_i t y hy;rw[hy] at hr;simp only[Sem.run_bind] at hr;cases h1:(Instr.loadAt t (ρ y)).run P w with
   | ok a w1 =>
     rw[h1] at hr;simp only[Result.andThen_ok,Sem.run_pure] at hr;cases hr;exact⟨Keeps.loadAt P w a w' h1,_,G⟩
   | halt c w1=>rw[h1] at hr;cases hr
 cases h
def holdB (ops:Array Oper)(listed:Array Bool)(B:List Nat)(i:Nat):Bool :=
 !B.contains i&&(List.range ops.size).all fun k=>match ops[k]? with
  | none=>true
  | some ok=>listed.getD k true || k == i ||(bif B.contains k then quietB ok&&(match ops[i]? with|some oi=>oi.apart ops ok|none=>false) else ok.after.any fun e=>Region.binds .any e&&(e.on == i ||(!B.contains e.on && !listed.getD e.on true)))
def YieldsAt (P:Program)(ops:Array Oper)(o:Oper)(v:Value)(a:Act)(w:World):Prop :=
 Region.wanted o (yielded ops a.tmps)=true∧(execOp a.eval o).run P w = .ok (.value v) w∧∀w,o.about P w a.eval=none
section
variable {F : Fence} {n : Nat} {P : Program} {ops : Array Oper} {Q : Exit → Act → World → Prop}
theorem YieldsAt.wpOpIn {i:Nat}{o:Oper}{v:Value}{a:Act}{w:World}(hro:F.round=none)(hi:ops[i]? = some o)(hy:YieldsAt P ops o v a w){K:Act→World→Prop}(h:K (a.put o.dst v) w):wpOpIn F n P ops Q i K a w:=by
 unfold Go.wpOpIn;simp only[hi];have hab :∀f,o.about P w a.eval=some f→F.fn f:=fun f hf=>by rw[hy.2.2 w] at hf;cases hf
 simp only[hy.1,if_true,Oper.wpIn,hro,Oper.semAt_none,hy.2.1,Oper.uponIn];exact⟨hab,h⟩
theorem wpOpIn_putQ {j:Nat}{oi oj:Oper}{v:Value}(hro:F.round=none)(hj:ops[j]? = some oj)(hq:Quiet oj)(hap:oi.apart ops oj=true)
 (hsi :∀cs b,oi.op≠ .select cs b) (hsj :∀cs b,oj.op≠ .select cs b)
 (hQ :∀c a w,Q (.panic c) (a.put oi.dst v) w→Q (.panic c) a w) {K:Act→World→Prop} {a:Act} {w:World}
 (hy:YieldsAt P ops oi v a w) (h:wpOpIn F n P ops Q j K (a.put oi.dst v) w) :
 wpOpIn F n P ops Q j (fun a' w'=>YieldsAt P ops oi v a' w'∧K (a'.put oi.dst v) w') a w:=by
 obtain⟨h1,h2,h3⟩:=Oper.apart_spec hap;have keep :∀u,YieldsAt P ops oi v (a.put oj.dst u) w:=fun u =>
  ⟨by rw[wanted_put oi a oj.dst u h3];exact hy.1,by rw[execOp_put oi hsi a oj.dst u h3];exact hy.2.1,fun w=>by rw[about_put oi w a oj.dst u h3];exact hy.2.2 w⟩
 unfold Go.wpOpIn at *;simp only[hj] at *;rw[wanted_put oj a oi.dst v h1,about_put oj w a oi.dst v h1] at h;split
 · rename_i hw;simp only[hw,if_true] at h;unfold Oper.wpIn at *;rw[about_put oj w a oi.dst v h1] at h;refine⟨h.1,?_⟩;have h:=h.2;rw[hro,Oper.semAt_none,execOp_put oj hsj a oi.dst v h1] at h;rw[hro,Oper.semAt_none];cases hr:(execOp a.eval oj).run P w with
   | ok x w' =>
     obtain⟨rfl,u,rfl⟩:=hq _ _ _ _ _ hr;rw[hr] at h;simp only[Oper.uponIn] at h ⊢;exact⟨keep u,by rw[←Act.put_comm a v u h2];exact h⟩
   | halt x w' =>
     rw[hr] at h;cases x <;> simp only[Oper.uponIn] at h ⊢
     case panic u=>exact hQ _ _ _ h
 rename_i hw;simp only[hw] at h;exact⟨h.1,keep _,by rw[←Act.put_comm a v undef h2];exact h.2⟩
theorem wpAnyIn_firstQ {i:Nat}{oi:Oper}{v:Value}{B:List Nat}{L0:Array Bool}(hro:F.round=none)(hi:ops[i]? = some oi)(hsel :∀(j:Nat) (o:Oper) cs b,ops[j]? = some o→o.op≠ .select cs b)
 (hQ :∀c a w,Q (.panic c) (a.put oi.dst v) w→Q (.panic c) a w) (hiB:i∉B) (hi0:L0.getD i true=false)
 (hk :∀k ok,ops[k]? = some ok→L0.getD k true=false→k≠i→(k∈B∧Quiet ok∧oi.apart ops ok=true)∨(k∉B∧∃e∈ok.after,Region.binds .any e=true∧(e.on=i∨(e.on∉B∧L0.getD e.on true=false)))) :
 ∀(fuel:Nat) (listed:Array Bool) (a:Act) (w:World),(∀k,k∉B→L0.getD k true=false→listed.getD k false=false∧listed.getD k true=false)→(∀k,L0.getD k true=true→listed.getD k true=true)→
  i∈Region.ready .any ops listed→YieldsAt P ops oi v a w→
  wpAnyIn F n P .any ops Q fuel (listed.setIfInBounds i true) (a.put oi.dst v) w→wpAnyIn F n P .any ops Q (fuel+1) listed a w:=by
 have inB :∀(listed:Array Bool) (j:Nat),(∀k,k∉B→L0.getD k true=false→listed.getD k false=false∧listed.getD k true=false)→(∀k,L0.getD k true=true→listed.getD k true=true)→j∈Region.ready .any ops listed→j≠i→
  ∃oj,ops[j]? = some oj∧j∈B∧Quiet oj∧oi.apart ops oj=true:=fun listed j hs1 hs2 hj hji=>by
  obtain⟨hjun,oj,hoj,hall⟩:=mem_ready.1 hj;have h0:L0.getD j true=false:=by
   cases hc:L0.getD j true with
   | false=>rfl
   | true=>rw[hs2 j hc] at hjun;cases hjun
  rcases hk j oj hoj h0 hji with ⟨h1,h2,h3⟩|⟨h1,e,he,hb,hor⟩
  · exact⟨oj,hoj,h1,h2,h3⟩
  have h4:=hall e he hb;rcases hor with h5|⟨h5,h6⟩
  · rw[h5,(hs1 i hiB hi0).1] at h4;cases h4
  rw[(hs1 e.on h5 h6).1] at h4;cases h4
 intro fuel;induction fuel with
 | zero =>
   intro listed a w hs1 hs2 hr hy H;refine⟨fun h=>(by rw[h] at hr;cases hr),fun j hj=>?_⟩;by_cases hji:j=i
   · subst hji;exact hy.wpOpIn hro hi H
   have:=ready_mono hj hji;rw[H.1] at this;cases this
 | succ fuel ih =>
   intro listed a w hs1 hs2 hr hy H;refine⟨fun h=>(by rw[h] at hr;cases hr),fun j hj=>?_⟩;by_cases hji:j=i
   · subst hji;exact hy.wpOpIn hro hi H
   obtain⟨oj,hoj,hjB,hq,hap⟩:=inB listed j hs1 hs2 hj hji;have h1:=H.2 j (ready_mono hj hji);have h2:=wpOpIn_putQ hro hoj hq hap (fun cs b=>hsel i oi cs b hi) (fun cs b=>hsel j oj cs b hoj) hQ hy h1;refine wpOpIn_mono (fun a' w' h3=>ih (listed.setIfInBounds j true) a' w' (fun k hkB hk0=>?_) (fun k hk0=>?_) (ready_mono hr (Ne.symm hji)) h3.1 ?_) h2
   · have hjk:j≠k:=fun h=>hkB (h ▸ hjB)
     rw[getD_set_ne false hjk,getD_set_ne true hjk];exact hs1 k hkB hk0
   · by_cases hjk:j=k
     · subst hjk;rcases l0G j listed.size with h'|h'
       · simp [h']
       simp [Array.getElem?_eq_none h']
     rw[getD_set_ne true hjk];exact hs2 k hk0
   rw[Array.setIfInBounds_comm _ _ hji];exact h3.2
end
section
variable {P : Program} {ops : Array Oper} {Q : Exit → Act → World → Prop} {n fuel i d : Nat} {D : List Deferred} {e : Env} {w : World} {listed : Array Bool} {o : Oper} {v : Value}
theorem getD_ff {l:Array Bool}{k:Nat}(h:l.getD k true=false):l.getD k false=false:=by
 rcases l0G k l.size with h'|h'
 · simp [h'] at h ⊢;exact h
 simp [Array.getElem?_eq_none h'] at h
theorem WA.takeM (B:List Nat)(ho:ops[i]? = some o)(hs:Region.noSelect ops=true)(hk:holdB ops listed B i=true)(hr:(Region.ready .any ops listed).contains i=true)(hx:Ex P o e w v w)(hw:Wn ops n D e o)(hd:o.dst=some d)(hn:Nat.blt d n=true)
 (hab :∀w ρ,o.about P w ρ=none) (k:WA none P ops Q n D fuel (listed.setIfInBounds i true) ((d,v)::e) w):WA none P ops Q n D (fuel+1) listed e w:=fun a ha=>by
 unfold holdB at hk;rw[l0e] at hk;have hiB:i∉B:=by simpa using hk.1
 have hr':i∈Region.ready .any ops listed:=by simpa using hr
 have hi0:=(mem_ready.1 hr').1;refine wpAnyIn_firstQ (F:=Wd none) (B:=B) (L0:=listed) G ho (Region.noSelect_spec hs) (fun _ _ _ h=>noP_put ho h) hiB hi0 (fun j oj hj h0 hji=>?_) fuel listed a w (fun k _ h0=>⟨getD_ff h0,h0⟩) (fun k h=>h) hr' ⟨hw a ha,hx.2 _ ha.fits,fun w=>hab w _⟩ ?_
 · have hlt:j<ops.size:=(Array.getElem?_eq_some_iff.1 hj).1;have:=List.all_eq_true.1 hk.2 j (List.mem_range.2 hlt);rw[hj] at this;simp only[h0,l1c,l1u,beq_iff_eq,hji,false_or] at this;cases hB:B.contains j with
   | true =>
     rw[hB,cond_true,ho,l0e] at this;exact .inl ⟨by simpa using hB,quiet_of this.1,this.2⟩
   | false =>
     rw[hB,cond_false] at this;obtain⟨ed,h1,h2⟩:=Array.any_eq_true'.1 this;simp only[l0e,l1u,beq_iff_eq,l1R] at h2;refine .inr ⟨by simpa using hB,ed,h1,h2.1,?_⟩;rcases h2.2 with h3|⟨h3,h4⟩
     · exact .inl h3
     exact .inr ⟨by simpa using h3,h4⟩
 rw[hd];exact k _ (ha.put (l06 hn) v)
abbrev _root_.q0Q := @WA.takeM
end
end Go.Ph
end
section
namespace Go.Ph
open Go Go.RowKit
def Grows {α:Type}(s:Sem α):Prop :=∀(P:Program) (w:World) (x:α) (w':World),s.run P w = .ok x w'→w.grownBy w' none
theorem Keeps.grows {α:Type}{s:Sem α}(h:Keeps s):Grows s:=fun P w x w' hr=>by
 rw[h P w x w' hr];exact World.grownBy.refl _ _
theorem Grows.bindK {α β:Type}{s:Sem α}{f:α→Sem β}(h:Keeps s)(hf :∀a,Grows (f a)):Grows (s >>= f):=fun P w x w' hr=>by
 rw[Sem.run_bind] at hr;cases h1:s.run P w with
 | ok a w1 =>
   rw[h1,Result.andThen_ok] at hr;rw[h P w a w1 h1] at hr;exact hf a P w x w' hr
 | halt c w1=>rw[h1] at hr;cases hr
theorem Grows.newVar {t:TypeId}{v:Value}{f:Addr→Value}:Grows (do pure (f (←Go.newVar t v)):Sem Value):=fun P w x w' hr=>by
 simp only[Go.newVar,newRow,Sem.run_bind,Sem.run_pure,Result.andThen_ok] at hr;have:w'=w.alloc (.cells v.cells t):=by cases hr;rfl
 rw[this];exact grownBy_alloc' _ _
theorem Keeps.zeroValue {t:TypeId}:Keeps (Go.zeroValue t):=by
 unfold Go.zeroValue;refine Keeps.bind Keeps.typeInfo fun p=>?_
 split
 · exact Keeps.pure _
 exact Keeps.halt
def growB (o:Oper):Bool:=match o.op with
 | .move _=>true
 | .assign _=>true
 | .load _ _=>true
 | .alloc _=>true
 | .box _ _=>true
 | _=>false
def GrowsO (o:Oper):Prop :=∀(ρ:Operand→Value) (P:Program) (w:World) (x:Next) (w':World),(execOp ρ o).run P w = .ok x w'→w.grownBy w' none∧∃u,x = .value u
theorem grows_val {s:Sem Value}(h:Grows s){P:Program}{w:World}{x:Next}{w':World}(hr:(do pure (.value (←s)):Sem Next).run P w = .ok x w'):w.grownBy w' none∧∃u,x = .value u:=by
 rw[Sem.run_bind] at hr;cases h1:s.run P w with
 | ok a w1 =>
   rw[h1] at hr;simp only[Result.andThen_ok,Sem.run_pure] at hr;cases hr;exact⟨h P w a w' h1,_,G⟩
 | halt c w1=>rw[h1] at hr;cases hr
theorem grows_of {o:Oper}(h:growB o=true):GrowsO o:=fun ρ P w x w' hr=>by
 unfold growB at h;unfold execOp at hr;split at h
 · rename_i y hy;rw[hy] at hr;simp only[Sem.run_pure] at hr;cases hr;exact ⟨World.grownBy.refl _ _,_,rfl⟩
 · rename_i y hy;rw[hy] at hr;simp only[Sem.run_pure] at hr;cases hr;exact ⟨World.grownBy.refl _ _,_,rfl⟩
 · rename_i t y hy;rw[hy] at hr;exact grows_val Keeps.loadAt.grows hr
 · rename_i t hy;rw[hy] at hr;exact grows_val (Grows.bindK Keeps.zeroValue fun z=>Grows.newVar) hr
 · rename_i t y hy;rw[hy] at hr;exact grows_val Grows.newVar hr
 cases h
def holdA (ops:Array Oper)(listed:Array Bool)(B:List Nat)(i:Nat):Bool :=
 !B.contains i&&(List.range ops.size).all fun k=>match ops[k]? with
  | none=>true
  | some ok=>listed.getD k true || k == i ||(bif B.contains k then growB ok&&(match ops[i]? with|some oi=>oi.apart ops ok|none=>false) else ok.after.any fun e=>Region.binds .any e&&(e.on == i ||(!B.contains e.on && !listed.getD e.on true)))
def YieldsW (W:World→Prop)(P:Program)(ops:Array Oper)(o:Oper)(v:Value)(a:Act)(w:World):Prop :=
 Region.wanted o (yielded ops a.tmps)=true∧(∀w,W w→(execOp a.eval o).run P w = .ok (.value v) w)∧(∀w,o.about P w a.eval=none)∧W w
section
variable {W : World → Prop} {F : Fence} {n : Nat} {P : Program} {ops : Array Oper} {Q : Exit → Act → World → Prop}
theorem YieldsW.wpOpIn {i:Nat}{o:Oper}{v:Value}{a:Act}{w:World}(hro:F.round=none)(hi:ops[i]? = some o)(hy:YieldsW W P ops o v a w){K:Act→World→Prop}(h:K (a.put o.dst v) w):wpOpIn F n P ops Q i K a w:=by
 unfold Go.wpOpIn;simp only[hi];have hab :∀f,o.about P w a.eval=some f→F.fn f:=fun f hf=>by rw[hy.2.2.1 w] at hf;cases hf
 simp only[hy.1,if_true,Oper.wpIn,hro,Oper.semAt_none,hy.2.1 w hy.2.2.2,Oper.uponIn];exact⟨hab,h⟩
theorem wpOpIn_putA (hW :∀w w',W w→w.grownBy w' none→W w'){j:Nat}{oi oj:Oper}{v:Value}(hro:F.round=none)(hj:ops[j]? = some oj)(hq:GrowsO oj)(hap:oi.apart ops oj=true)
 (hsi :∀cs b,oi.op≠ .select cs b) (hsj :∀cs b,oj.op≠ .select cs b)
 (hQ :∀c a w,Q (.panic c) (a.put oi.dst v) w→Q (.panic c) a w) {K:Act→World→Prop} {a:Act} {w:World}
 (hy:YieldsW W P ops oi v a w) (h:wpOpIn F n P ops Q j K (a.put oi.dst v) w) :
 wpOpIn F n P ops Q j (fun a' w'=>YieldsW W P ops oi v a' w'∧K (a'.put oi.dst v) w') a w:=by
 obtain⟨h1,h2,h3⟩:=Oper.apart_spec hap;have keep :∀u w1,W w1→YieldsW W P ops oi v (a.put oj.dst u) w1:=fun u w1 hw1 =>
  ⟨by rw[wanted_put oi a oj.dst u h3];exact hy.1,fun w2 h2=>by rw[execOp_put oi hsi a oj.dst u h3];exact hy.2.1 w2 h2,fun w=>by rw[about_put oi w a oj.dst u h3];exact hy.2.2.1 w,hw1⟩
 unfold Go.wpOpIn at *;simp only[hj] at *;rw[wanted_put oj a oi.dst v h1,about_put oj w a oi.dst v h1] at h;split
 · rename_i hw;simp only[hw,if_true] at h;unfold Oper.wpIn at *;rw[about_put oj w a oi.dst v h1] at h;refine⟨h.1,?_⟩;have h:=h.2;rw[hro,Oper.semAt_none,execOp_put oj hsj a oi.dst v h1] at h;rw[hro,Oper.semAt_none];cases hr:(execOp a.eval oj).run P w with
   | ok x w' =>
     obtain⟨hgr,u,rfl⟩:=hq _ _ _ _ _ hr;rw[hr] at h;simp only[Oper.uponIn] at h ⊢;exact⟨keep u _ (hW _ _ hy.2.2.2 hgr),by rw[←Act.put_comm a v u h2];exact h⟩
   | halt x w' =>
     rw[hr] at h;cases x <;> simp only[Oper.uponIn] at h ⊢
     case panic u=>exact hQ _ _ _ h
 rename_i hw;simp only[hw] at h;exact⟨h.1,keep _ _ hy.2.2.2,by rw[←Act.put_comm a v undef h2];exact h.2⟩
theorem wpAnyIn_firstA (hW :∀w w',W w→w.grownBy w' none→W w'){i:Nat}{oi:Oper}{v:Value}{B:List Nat}{L0:Array Bool}(hro:F.round=none)(hi:ops[i]? = some oi)(hsel :∀(j:Nat) (o:Oper) cs b,ops[j]? = some o→o.op≠ .select cs b)
 (hQ :∀c a w,Q (.panic c) (a.put oi.dst v) w→Q (.panic c) a w) (hiB:i∉B) (hi0:L0.getD i true=false)
 (hk :∀k ok,ops[k]? = some ok→L0.getD k true=false→k≠i→(k∈B∧GrowsO ok∧oi.apart ops ok=true)∨(k∉B∧∃e∈ok.after,Region.binds .any e=true∧(e.on=i∨(e.on∉B∧L0.getD e.on true=false)))) :
 ∀(fuel:Nat) (listed:Array Bool) (a:Act) (w:World),(∀k,k∉B→L0.getD k true=false→listed.getD k false=false∧listed.getD k true=false)→(∀k,L0.getD k true=true→listed.getD k true=true)→
  i∈Region.ready .any ops listed→YieldsW W P ops oi v a w→
  wpAnyIn F n P .any ops Q fuel (listed.setIfInBounds i true) (a.put oi.dst v) w→wpAnyIn F n P .any ops Q (fuel+1) listed a w:=by
 have inB :∀(listed:Array Bool) (j:Nat),(∀k,k∉B→L0.getD k true=false→listed.getD k false=false∧listed.getD k true=false)→(∀k,L0.getD k true=true→listed.getD k true=true)→j∈Region.ready .any ops listed→j≠i→
  ∃oj,ops[j]? = some oj∧j∈B∧GrowsO oj∧oi.apart ops oj=true:=fun listed j hs1 hs2 hj hji=>by
  obtain⟨hjun,oj,hoj,hall⟩:=mem_ready.1 hj;have h0:L0.getD j true=false:=by
   cases hc:L0.getD j true with
   | false=>rfl
   | true=>rw[hs2 j hc] at hjun;cases hjun
  rcases hk j oj hoj h0 hji with ⟨h1,h2,h3⟩|⟨h1,e,he,hb,hor⟩
  · exact⟨oj,hoj,h1,h2,h3⟩
  have h4:=hall e he hb;rcases hor with h5|⟨h5,h6⟩
  · rw[h5,(hs1 i hiB hi0).1] at h4;cases h4
  rw[(hs1 e.on h5 h6).1] at h4;cases h4
 intro fuel;induction fuel with
 | zero =>
   intro listed a w hs1 hs2 hr hy H;refine⟨fun h=>(by rw[h] at hr;cases hr),fun j hj=>?_⟩;by_cases hji:j=i
   · subst hji;exact hy.wpOpIn hro hi H
   have:=ready_mono hj hji;rw[H.1] at this;cases this
 | succ fuel ih =>
   intro listed a w hs1 hs2 hr hy H;refine⟨fun h=>(by rw[h] at hr;cases hr),fun j hj=>?_⟩;by_cases hji:j=i
   · subst hji;exact hy.wpOpIn hro hi H
   obtain⟨oj,hoj,hjB,hq,hap⟩:=inB listed j hs1 hs2 hj hji;have h1:=H.2 j (ready_mono hj hji);have h2:=wpOpIn_putA hW hro hoj hq hap (fun cs b=>hsel i oi cs b hi) (fun cs b=>hsel j oj cs b hoj) hQ hy h1;refine wpOpIn_mono (fun a' w' h3=>ih (listed.setIfInBounds j true) a' w' (fun k hkB hk0=>?_) (fun k hk0=>?_) (ready_mono hr (Ne.symm hji)) h3.1 ?_) h2
   · have hjk:j≠k:=fun h=>hkB (h ▸ hjB)
     rw[getD_set_ne false hjk,getD_set_ne true hjk];exact hs1 k hkB hk0
   · by_cases hjk:j=k
     · subst hjk;rcases l0G j listed.size with h'|h'
       · simp [h']
       simp [Array.getElem?_eq_none h']
     rw[getD_set_ne true hjk];exact hs2 k hk0
   rw[Array.setIfInBounds_comm _ _ hji];exact h3.2
end
section
variable {P : Program} {ops : Array Oper} {Q : Exit → Act → World → Prop} {n fuel i d : Nat} {D : List Deferred} {e : Env} {w : World} {listed : Array Bool} {o : Oper} {v : Value}
theorem WA.takeA {C:Nat→Prop}{w0:World}{M0 M:Mem}{L:List Item}(H:StX C w0 M0 M L w)(B:List Nat)(ho:ops[i]? = some o)(hs:Region.noSelect ops=true)(hk:holdA ops listed B i=true)(hr:(Region.ready .any ops listed).contains i=true)(hx :∀w,StX C w0 M0 M L w→Ex P o e w v w)(hw:Wn ops n D e o)(hd:o.dst=some d)(hn:Nat.blt d n=true)
 (hab :∀w ρ,o.about P w ρ=none) (k:WA none P ops Q n D fuel (listed.setIfInBounds i true) ((d,v)::e) w):WA none P ops Q n D (fuel+1) listed e w:=fun a ha=>by
 unfold holdA at hk;rw[l0e] at hk;have hiB:i∉B:=by simpa using hk.1
 have hr':i∈Region.ready .any ops listed:=by simpa using hr
 have hi0:=(mem_ready.1 hr').1;refine wpAnyIn_firstA (W:=StX C w0 M0 M L) (fun w w' h hg=>h.grow hg) (F:=Wd none) (B:=B) (L0:=listed) G ho (Region.noSelect_spec hs) (fun _ _ _ h=>noP_put ho h) hiB hi0 (fun j oj hj h0 hji=>?_) fuel listed a w (fun k _ h0=>⟨getD_ff h0,h0⟩) (fun k h=>h) hr' ⟨hw a ha,fun w hH=>(hx w hH).2 _ ha.fits,fun w=>hab w _,H⟩ ?_
 · have hlt:j<ops.size:=(Array.getElem?_eq_some_iff.1 hj).1;have:=List.all_eq_true.1 hk.2 j (List.mem_range.2 hlt);rw[hj] at this;simp only[h0,l1c,l1u,beq_iff_eq,hji,false_or] at this;cases hB:B.contains j with
   | true =>
     rw[hB,cond_true,ho,l0e] at this;exact .inl ⟨by simpa using hB,grows_of this.1,this.2⟩
   | false =>
     rw[hB,cond_false] at this;obtain⟨ed,h1,h2⟩:=Array.any_eq_true'.1 this;simp only[l0e,l1u,beq_iff_eq,l1R] at h2;refine .inr ⟨by simpa using hB,ed,h1,h2.1,?_⟩;rcases h2.2 with h3|⟨h3,h4⟩
     · exact .inl h3
     exact .inr ⟨by simpa using h3,h4⟩
 rw[hd];exact k _ (ha.put (l06 hn) v)
end
end Go.Ph
end
section
namespace Go.Ph
open Go Go.RowKit Pl
abbrev Hd : Type:=Option Addr × Nat × Nat
def hv (h:Hd):Value := .slice h.1 h.2.1 h.2.2
theorem One.hv (h:Hd):One (hv h):=One.slice _ _ _
structure Rl (F α:Type) where
 k:Nat
 enc:F→List Value
 rel:Mem→F→α→Prop
 len :∀f,(enc f).length=k
 one :∀f,∀u∈enc f,u.oneCell'=true
 up :∀{M M':Mem},M.le M'→∀{f:F} {x:α},rel M f x→rel M' f x
variable {F α : Type}
def RelL (R:Rl F α)(M:Mem):List F→List α→Prop
 | [],[]=>True
 | f::fl,x::l=>R.rel M f x∧RelL R M fl l
 | _,_=>False
section
variable {R : Rl F α} {M M' : Mem} {fl fs : List F} {l s l2 : List α}
theorem RelL.nil : RelL R M [] []:=trivial
theorem RelL.len :∀{fl:List F} {l:List α},RelL R M fl l→fl.length=l.length
 | [],[],_=>rfl
 | f::fl,x::l,h=>by rw[l02,l02,RelL.len h.2]
 | [],_::_,h=>h.elim
 | _::_,[],h=>h.elim
theorem RelL.mono :∀{fl:List F} {l:List α},RelL R M fl l→M.le M'→RelL R M' fl l
 | [],[],_,_=>trivial
 | f::fl,x::l,h,hl=>⟨R.up hl h.1,RelL.mono h.2 hl⟩
 | [],_::_,h,_=>h.elim
 | _::_,[],h,_=>h.elim
theorem RelL.append :∀{fl:List F} {l:List α},RelL R M fl l→RelL R M fs s→RelL R M (fl++fs) (l++s)
 | [],[],_,k=>k
 | f::fl,x::l,h,k=>⟨h.1,RelL.append h.2 k⟩
 | [],_::_,h,_=>h.elim
 | _::_,[],h,_=>h.elim
theorem RelL.one {f:F}{x:α}(h:R.rel M f x):RelL R M [f] [x]:=⟨h,trivial⟩
theorem RelL.at :∀{fl:List F} {l:List α} {i:Nat} {a:α},RelL R M fl l→l[i]? = some a→∃f,fl[i]? = some f∧R.rel M f a
 | [],[],i,a,_,hi=>by simp at hi
 | f::fl,x::l,0,a,h,hi=>by
   simp only[List.getElem?_cons_zero,Option.some.injEq] at hi;subst hi;exact⟨f,G,h.1⟩
 | f::fl,x::l,i+1,a,h,hi=>by
   rw[List.getElem?_cons_succ] at hi;obtain⟨f',h1,h2⟩:=RelL.at h.2 hi;exact⟨f',by rw[List.getElem?_cons_succ];exact h1,h2⟩
 | [],_::_,_,_,h,_=>h.elim
 | _::_,[],_,_,h,_=>h.elim
theorem RelL.drop :∀(n:Nat) {fl:List F} {l:List α},RelL R M fl l→RelL R M (fl.drop n) (l.drop n)
 | 0,_,_,h=>h
 | n+1,[],[],h=>h
 | n+1,f::fl,x::l,h=>RelL.drop n h.2
 | _+1,[],_::_,h=>h.elim
 | _+1,_::_,[],h=>h.elim
theorem RelL.take :∀(n:Nat) {fl:List F} {l:List α},RelL R M fl l→RelL R M (fl.take n) (l.take n)
 | 0,_,_,h=>trivial
 | n+1,[],[],h=>h
 | n+1,f::fl,x::l,h=>⟨h.1,RelL.take n h.2⟩
 | _+1,[],_::_,h=>h.elim
 | _+1,_::_,[],h=>h.elim
theorem RelL.appO {w:Nat}(h:RelL R M fl l)(k:RelL R M fs s)(ha:app w l s=some l2):∃fl2,app w fl fs=some fl2∧RelL R M fl2 l2:=by
 obtain⟨h1,rfl⟩:=app_some ha;exact⟨fl++fs,by unfold app;rw [h.len,k.len,if_pos h1],h.append k⟩
end
def SlR (R:Rl F α)(M:Mem)(v:Value)(l:List α):Prop :=∃fl,SlS M R.k R.enc v fl∧RelL R M fl l
section
variable {R : Rl F α} {M M' : Mem} {v : Value} {l l2 : List α}
theorem SlR.mono (h:SlR R M v l)(hl:M.le M'):SlR R M' v l:=by
 obtain⟨fl,h1,h2⟩:=h;exact⟨fl,h1.mono hl,h2.mono hl⟩
theorem SlR.nil : SlR R M (.slice none 0 0) []:=⟨[],q1e M R.enc R.len,trivial⟩
theorem SlR.one (h:SlR R M v l):One v:=by
 obtain⟨fl,h1,_⟩:=h;exact h1.one
theorem SlR.hd (h:SlR R M v l):∃q:Hd,v=hv q:=by
 obtain⟨fl,⟨_,A,c,hv,_⟩,_⟩:=h;exact⟨(A,fl.length,c),hv⟩
theorem SlR.atC {i:Int}{a:α}(h:SlR R M v l)(hi:idx l i=some a):∃b o f,AtP v R.k i l.length b o∧CellsM M ⟨b,o,none⟩ (R.enc f)∧R.rel M f a:=by
 obtain⟨fl,h1,h2⟩:=h;obtain⟨h0,hc⟩:=idx_some hi;obtain⟨f,hf,hr⟩:=h2.at hc;obtain⟨b,o,h3,h4⟩:=h1.atC (i:=i) (a:=f) (by unfold idx;rw [if_pos h0];exact hf);rw[h2.len] at h3;exact⟨b,o,f,h3,h4,hr⟩
theorem SlR.of {fl:List F}(h:SlS M R.k R.enc v fl)(k:RelL R M fl l):SlR R M v l:=⟨fl,h,k⟩
end
theorem SlS.hd {M:Mem}{kk:Nat}{enc:α→List Value}{v:Value}{l:List α}(h:SlS M kk enc v l):∃q:Hd,v=hv q:=by
 obtain⟨_,A,c,hv,_⟩:=h;exact⟨(A,l.length,c),hv⟩
theorem Sl.hd {M:Mem}{enc:α→Value}{v:Value}{l:List α}(h:Sl M enc v l):∃q:Hd,v=hv q:=by
 obtain⟨A,c,hv,_⟩:=h;exact⟨(A,l.length,c),hv⟩
section
variable {C : Nat → Prop} {r : Option Nat} {P : Program} {ops : Array Oper} {Q : Exit → Act → World → Prop} {n : Nat} {D : List Deferred} {rest : List Oper} {e : Env} {w0 w : World} {M0 M : Mem} {L L' : List Item} {d : Nat} {v u z : Value}
  {x y : Operand} {ty t t' te ts tt : TypeId} {pos : String} {af : Array Edge} {g : Option (Nat × Bool)} {dst : Option Tmp} {R : Rl F α} {l l2 l3 : List α}
theorem Ex.lenSlR (ht:P.underlying t=some (.slice t'))(h:SlR R M v l)(hx:ev e x=some v):Ex P ⟨dst, .call ⟨.builtin .len,#[x],#[t]⟩,ty,pos,af,g⟩ e w (I l.length) w:=by
 obtain⟨fl,h1,h2⟩:=h;rw[←h2.len];exact q0K ht h1 hx
theorem WR.appRC {bytes:Nat}{L':Item→List Item}{fl:List F}(T:ElemTy P ts t z R.k bytes)(hbp:Nat.blt 0 bytes=true)(H:StX C w0 M0 M L w)(hk:RelL R M fl l)(hx:ev e x=some v)(hu :∀it',Upd L (RowS t R.k R.enc v fl) it' (L' it'))(hy:ev e y=some u)
 (hs:SlR R M u l2) (ha:app bytes l l2=some l3)
 (hw:Wn ops n D e ⟨some d, .call ⟨.builtin .append,#[x,y],#[ts,ts]⟩,ty,pos,af,g⟩) (hn:Nat.blt d n=true)
 (k :∀v' fl' w',RelL R M fl' l3→StX C w0 M0 M (L' (RowS t R.k R.enc v' fl')) w'→WR r P ops Q n D rest ((d,v')::e) w') :
 WR r P ops Q n D (⟨some d, .call ⟨.builtin .append,#[x,y],#[ts,ts]⟩,ty,pos,af,g⟩::rest) e w:=by
 obtain⟨f2,h2,h3⟩:=hs;obtain⟨fl3,h4,h5⟩:=hk.appO h3 ha;exact WR.appSC T hbp R.one H hx hu hy h2 h4 hw hn fun v' w' h=>k v' fl3 w' h5 h
end
end Go.Ph
end
section
namespace Go.Ph
open Go Go.RowKit Pl
def onePanic (v:Value):List PanicEntry:=[{v,recovered:=false}]
section
variable {Q : Exit → Act → World → Prop} {ch : List PanicEntry} {D : List Deferred} {w : World} {n : Nat} {e e' : Env}
def Unwr (ops:Array Oper)(e:Env):Bool:=e.all fun p=>ops.toList.all fun o=>match o.dst with|some t => !Nat.beq t p.1|none=>true
theorem Unwr.of {ops:Array Oper}:∀{e:Env},Unwr ops e=true→∀i v,get e i=some v→∀(j:Nat) o,ops[j]? = some o→o.dst≠some i
 | [],_,i,v,hg,_,_,_=>by simp [get] at hg
 | (k,u)::e,h,i,v,hg,j,o,ho=>by
   unfold Unwr at h;rw[l0b,l0e] at h;simp only[get] at hg;cases hb:Nat.beq i k with
   | true =>
     have hik:i=k:=l0q hb;subst hik;have hm:o∈ops.toList:=by rw[←Array.getElem?_toList] at ho;exact l0r ho
     have h1:=List.all_eq_true.1 h.1 o hm;intro hd;rw[hd] at h1;simp at h1
   | false =>
     rw[hb] at hg;exact Unwr.of (e:=e) h.2 i v hg j o ho
end
def RetPan (A:List Item)(w:World)(M:Mem)(v:Value)(e:Ending)(w':World):Prop :=∃M',e = .panicked (onePanic v)∧StX (feet A) w M M' [] w'
structure CtPan (P:Program)(f:FuncId)(args:List Value)(A:List Item)(Pre:Mem→Prop)(v:Value):Prop where
 enters :∀ar w,(callFunc f ar).run P w = .ok (.enter f ar) w
 calls :∀w M,StX (feet A) w M M A w→Pre M→Calls P f args.toArray w (RetPan A w M v)
def RetS {X Y:Type}(A:List Item)(w:World)(M:Mem)(R:X→Value→Mem→List Item→Prop)(pv:Y→Value):X ⊕ Y→Ending→World→Prop
 | .inl x=>RetX A w M (R x)
 | .inr n=>RetPan A w M (pv n)
def CtS {X Y:Type}(P:Program)(f:FuncId)(args:List Value)(A:List Item)(Pre:Mem→Prop)(R:X→Value→Mem→List Item→Prop)(pv:Y→Value):X ⊕ Y→Prop
 | .inl x=>CtX P f args A Pre (R x)
 | .inr n=>CtPan P f args A Pre (pv n)
theorem CtS.of {X Y:Type}{P:Program}{f:FuncId}{fn:Func}{c:Code}{args:List Value}{A:List Item}{Pre:Mem→Prop}{R:X→Value→Mem→List Item→Prop}{pv:Y→Value}{r:X ⊕ Y}{n:Nat}
 (hf:P.funcs[f]? = some fn) (hen :∀ar w,(callFunc f ar).run P w = .ok (.enter f ar) w) (hb:fn.body=some c) (hnt:fn.ntmps=n) (hn:Nat.ble args.length n=true)
 (h :∀w M,StX (feet A) w M M A w→Pre M→WC none P (bodyPost P fn (RetS A w M R pv r)) n [] c (envOf 0 args) w):CtS P f args A Pre R pv r:=by
 cases r with
 | inl x=>exact⟨hen,fun w M ha hp=>calls_of_WC hf hb hnt hn (h w M ha hp)⟩
 | inr m=>exact⟨hen,fun w M ha hp=>calls_of_WC hf hb hnt hn (h w M ha hp)⟩
section
variable {C : Nat → Prop} {r : Option Nat} {P : Program} {ops : Array Oper} {Q : Exit → Act → World → Prop} {n : Nat} {D : List Deferred} {rest : List Oper} {e : Env} {w0 w : World} {M0 M : Mem} {L L' A B : List Item} {v u : Value}
  {x y : Operand} {ty t t' : TypeId} {pos : String} {af : Array Edge} {g : Option (Nat × Bool)} {dst : Option Tmp}
theorem Ex.ifaceV (hn:P.concrete t=true)(hx:ev e x=some v):Ex P ⟨dst, .makeInterface t x,ty,pos,af,g⟩ e w (.iface t v) w :=
 ⟨nofun,fun ρ hf=>by simp [execOp,hf _ _ hx,run_makeInterface _ _ _ hn]⟩
theorem WR.callVX {f:FuncId}{ar:List Operand}{vs cap:List Value}{tys:Array TypeId}{Pre:Mem→Prop}{R:Value→Mem→List Item→Prop}(H:StX C w0 M0 M L w)(hs:CtX P f (vs++cap) A Pre R)(hspl:Spl L A B)(hx:ev e x=some (.func (.func f) #[] cap.toArray))(ha:evs e ar=some vs)(hp:Pre M)
 {d:Nat} (hw:Wn ops n D e ⟨some d, .call ⟨.value x,ar.toArray,tys⟩,ty,pos,af,g⟩) (hn:Nat.blt d n=true)
 (k :∀v M' w' its,StX C w0 M0 M' (its++B) w'→M.le M'→R v M' its→WR r P ops Q n D rest ((d,v)::e) w') :
 WR r P ops Q n D (⟨some d, .call ⟨.value x,ar.toArray,tys⟩,ty,pos,af,g⟩::rest) e w:=by
 intro a hsat;unfold wpListIn;rw[if_pos (hw a hsat)];refine⟨fun _ _=>trivial,?_⟩;rw[Oper.semAt_eq _ _ _ (fun c h=>by cases h)];have hv:ar.map a.eval=vs:=hsat.fits.evs ha;have hf:a.eval x = .func (.func f) #[] cap.toArray:=hsat.fits _ _ hx;have hrun:(execOp a.eval ⟨some d, .call ⟨.value x,ar.toArray,tys⟩,ty,pos,af,g⟩).run P w = .ok (.enter f (vs++cap).toArray) w:=by
  simp only[execOp,resolve,hf,Deferred.ofValue,Sem.run_bind,Sem.run_pure,Result.andThen_ok,invoke,l0k,hv,l1j,l04,hs.enters]
 rw[hrun,Oper.uponIn_enter];refine⟨fun h=>(by cases h),callsIn_Wd.2 ((hs.calls w M (H.hand hspl) hp).mono ?_)⟩;rintro en w' ⟨rv,M',its,rfl,hx,hR⟩;exact k rv M' w' its (H.back hspl hx) hx.ext.le hR _ (hsat.put (l06 hn) rv)
end
end Go.Ph
end
section
namespace Go.Ph.Pl
abbrev Elt : Type:=Option (UInt8 ⊕ (Ls × Bool))
def eltW (p:Ls × Bool):Elt:=some (.inr p)
end Go.Ph.Pl
namespace Go.Ph
open Go Go.RowKit Pl
def encA (ts tw:TypeId):Elt→Value
 | none => .nilIface
 | some (.inl c) => .iface ts (encB c)
 | some (.inr p) => .iface tw (.agg #[S p.1, .bool p.2])
section
variable {P : Program} {e : Env} {w : World} {v : Value} {x y : Operand} {ty t t' ts tw xt : TypeId} {pos : String} {af : Array Edge} {g : Option (Nat × Bool)} {dst : Option Tmp} {a : Elt} {c : UInt8} {ms : Array (String × TypeId)}
theorem Ex.anyW {s:Ls}{b:Bool}(hn:P.concrete tw=true)(hx:ev e x=some (.agg #[S s, .bool b])):Ex P ⟨dst, .makeInterface tw x,ty,pos,af,g⟩ e w (encA ts tw (eltW (s,b))) w:=Ex.ifaceV hn hx
end
end Go.Ph
end
section
namespace Go.Ph
open Go Go.RowKit Pl
def dfrOf (f:FuncId)(cap:List Value):Deferred:={target := .fn (.func f) cap.toArray,args := #[]}
section
variable {C : Nat → Prop} {P : Program} {ops : Array Oper} {Q : Exit → Act → World → Prop} {n : Nat} {D : List Deferred} {rest : List Oper} {e : Env} {w0 w : World} {M0 M : Mem} {L L' : List Item} {v v1 v2 u z : Value}
  {x y : Operand} {ty t t' : TypeId} {pos : String} {af : Array Edge} {g : Option (Nat × Bool)} {fn : Func} {f : FuncId} {cap : List Value} {x1 x2 : ResultVar} {R : Value → Mem → Prop}
theorem WR.deferS (hx:ev e x=some (.func (.func f) #[] cap.toArray))(hw:Wn ops n D e ⟨none, .defer ⟨.value x,#[],#[]⟩,ty,pos,af,g⟩)
 (k:WR none P ops Q n (dfrOf f cap::D) rest e w):WR none P ops Q n D (⟨none, .defer ⟨.value x,#[],#[]⟩,ty,pos,af,g⟩::rest) e w:=by
 intro a hsat;unfold wpListIn;rw[if_pos (hw a hsat)];refine⟨fun _ _=>trivial,?_⟩;have hf:a.eval x = .func (.func f) #[] cap.toArray:=hsat.fits _ _ hx;have hrun:(Oper.semAt none a.eval ⟨none, .defer ⟨.value x,#[],#[]⟩,ty,pos,af,g⟩).run P w = .ok (.defer (dfrOf f cap)) w:=by
  rw[Oper.semAt_none];simp [execOp,resolve,hf,Deferred.ofValue,dfrOf]
 show Oper.uponIn (Wd none) 0 P _ a _ _ ((Oper.semAt none a.eval _).run P w)
 rw[hrun,Oper.uponIn_defer];exact k _ ⟨hsat.size,by simp [hsat.defers,Act.put],hsat.val⟩
theorem calls_of_WCD {c:Code}{args:List Value}{R:Ending→World→Prop}(hf:P.funcs[f]? = some fn)(hb:fn.body=some c)(hnt:fn.ntmps=n)(hn:Nat.ble args.length n=true)
 (h:WC none P (bodyPostDIn (Wd none) 0 P fn R) n [] c (envOf 0 args) w):Calls P f args.toArray w R:=by
 refine callsIn_Wd.1 (callsIn_of_wp_defers (F:=Wd none) (n:=0) hf hb trivial ?_);subst hnt;exact h _ (Sat.init (l06 hn))
theorem Ct.ofD {c:Code}{args:List Value}{Pre:Mem→Prop}(hf:P.funcs[f]? = some fn)(hen :∀ar w,(callFunc f ar).run P w = .ok (.enter f ar) w)(hb:fn.body=some c)(hnt:fn.ntmps=n)(hn:Nat.ble args.length n=true)
 (h :∀w M,St w M M [] w→Pre M→WC none P (bodyPostDIn (Wd none) 0 P fn (Ret w M R)) n [] c (envOf 0 args) w):Ct P f args Pre R :=
 ⟨hen,fun w M ha hp=>calls_of_WCD hf hb hnt hn (h w M (StX.start ha) hp)⟩
theorem leaves_one {m:FrameMode}{tmps:Array Value}{K:Ending→World→Prop}(hen :∀ar w,(callFunc f ar).run P w = .ok (.enter f ar) w)(hm:m≠ .run)
 (hc:CallsDIn (Wd none) 0 P f cap.toArray m w fun e u' w'=>(∃v,e = .returned v)∧settle u' = .returning∧∃v,(results fn tmps).run P w' = .ok v w'∧K (.returned v) w') :
 LeavesIn (Wd none) 0 P fn tmps K [dfrOf f cap] m w:=by
 refine⟨hm,fun h=>(by cases h),_,_,f,cap.toArray,G,by simp [invoke,dfrOf,hen],fun _ _=>trivial,hc.mono ?_⟩;rintro e u' w' ⟨⟨v,rfl⟩,hs,hk⟩;show LeavesIn _ _ _ _ _ _ [] (settle u') w'
 rw[hs];exact hk
def postD (P:Program)(fn:Func)(K:World→Prop):Exit→Act→World→Prop
 | .normal,a,w | .ret,a,w=>a.defers=[]∧∃v,(results fn a.tmps).run P w = .ok v w∧K w
 | _,_,_=>False
theorem WQ.postD0 {K:World→Prop}(hr:fn.results = #[])(k:K w):WQ (postD P fn K) .normal n [] e w:=fun a ha=>⟨ha.defers, .tuple #[],by simp [results,hr],k⟩
end
end Go.Ph
end
section
namespace Go.Ph
open Go Go.RowKit Pl
section
variable {C : Nat → Prop} {r : Option Nat} {P : Program} {ops : Array Oper} {Q : Exit → Act → World → Prop} {n : Nat} {D : List Deferred} {rest : List Oper} {e : Env} {w0 w : World} {M0 M : Mem} {L L' A B : List Item} {d : Nat} {v u : Value}
  {x y : Operand} {ty t t' : TypeId} {pos : String} {af : Array Edge} {g : Option (Nat × Bool)} {dst : Option Tmp} {α : Type} {enc : α → Value} {l : List α}
instance {F : Fence} {m:Nat} {fn:Func} {R:Ending→World→Prop}:RTo (bodyPostDIn F m P fn R) (bodyPostDIn F m P fn R):=⟨id⟩
end
end Go.Ph
end
section
namespace Go.Ph
open Go Go.RowKit Pl
theorem CtX.ofD {P:Program}{f:FuncId}{fn:Func}{c:Code}{args:List Value}{A:List Item}{Pre:Mem→Prop}{R:Value→Mem→List Item→Prop}{n:Nat}
 (hf:P.funcs[f]? = some fn) (hen :∀ar w,(callFunc f ar).run P w = .ok (.enter f ar) w) (hb:fn.body=some c) (hnt:fn.ntmps=n) (hn:Nat.ble args.length n=true)
 (h :∀w M,StX (feet A) w M M A w→Pre M→WC none P (bodyPostDIn (Wd none) 0 P fn (RetX A w M R)) n [] c (envOf 0 args) w):CtX P f args A Pre R :=
 ⟨hen,fun w M ha hp=>calls_of_WCD hf hb hnt hn (h w M ha hp)⟩
section
variable {P : Program} {n n' : Nat} {e : Env} {w : World} {fn fn' : Func} {f : FuncId} {cap : List Value} {K : Ending → World → Prop} {c : Code}
theorem WQ.dretX (hf:P.funcs[f]? = some fn')(hen :∀ar w,(callFunc f ar).run P w = .ok (.enter f ar) w)(hb:fn'.body=some c)(hnt:fn'.ntmps=n')(hn:Nat.ble cap.length n'=true)
 (k :∀a,Sat n [dfrOf f cap] e a→WC none P (postD P fn' fun w' =>∃v,(results fn a.tmps).run P w' = .ok v w'∧K (.returned v) w') n' [] c (envOf 0 cap) w) :
 WQ (bodyPostDIn (Wd none) 0 P fn K) .ret n [dfrOf f cap] e w:=fun a ha=>by
 show LeavesIn _ _ _ _ _ _ _ _ _
 rw[ha.defers];have hsat:Sat n' [] (envOf 0 cap) {tmps:=cap.toArray++Array.replicate (fn'.ntmps-cap.toArray.size) undef,defers:=[]}:=by
  subst hnt;exact Sat.init (l06 hn)
 refine leaves_one hen Sm ((callsDIn_of_wp (R:=fun en w'=>(∃v,en = .returned v)∧∃v,(results fn a.tmps).run P w' = .ok v w'∧K (.returned v) w') hf hb trivial (wpIn_mono (k a ha _ hsat) ?_)).mono ?_)
 · intro x b w' hq;cases x with
   | normal=>obtain⟨h1,v',h2,h3⟩:=hq;exact ⟨h1,v',h2,⟨_,rfl⟩,h3⟩
   | ret=>obtain⟨h1,v',h2,h3⟩:=hq;exact ⟨h1,v',h2,⟨_,rfl⟩,h3⟩
   | exit id=>exact hq.elim
   | goto l=>exact hq.elim
   | panic ch=>exact hq.elim
   | outgrown=>exact hq.elim
 rintro en u' w' ⟨rfl,h1,h2⟩;exact⟨h1,G,h2⟩
variable {a : Act} {D : List Deferred} {e' : Env} {w0 : World} {M0 M : Mem} {L A its : List Item} {R : Value → Mem → List Item → Prop} {v1 v2 : Value} {x1 x2 : ResultVar}
theorem WQ.postX1 (hr':fn'.results = #[])(hr:fn.results = #[x1])(ha:Sat n D e a)(h1:resv P w e x1 v1)(H:StX (feet A) w0 M0 M L w)(hp:Pick L its)(hR:R v1 M its):
 WQ (postD P fn' fun w' =>∃v,(results fn a.tmps).run P w' = .ok v w'∧RetX A w0 M0 R (.returned v) w') .normal n' [] e' w :=
 WQ.postD0 hr' ⟨v1,by rw[results_eq,hr];exact run_res1 _ (resv_run ha h1),_,M,its,rfl,H.pick hp,hR⟩
end
end Go.Ph
end
section
namespace Go.Ph.Pl
def andU (a b:Int):Int:=IntKind.u64.wrap ((BitVec.ofInt 64 a &&& BitVec.ofInt 64 b).toNat:Nat)
def xorU (a b:Int):Int:=IntKind.u64.wrap ((BitVec.ofInt 64 a ^^^ BitVec.ofInt 64 b).toNat:Nat)
def shrU (a b:Int):Option Int:=if 0≤b then some (a.fdiv (2 ^ min b.toNat 64)) else none
end Go.Ph.Pl
namespace Go.Ph
open Go Go.RowKit Go.Ph.Pl
section
variable {P : Program} {e : Env} {w : World} {x y : Operand} {dst : Option Nat} {ty t t' : TypeId} {pos : String} {af : Array Edge} {g : Option (Nat × Bool)} {a b z : Int}
theorem Ex.andU (h1:ev e x=some (.int .u64 a))(h2:ev e y=some (.int .u64 b)):Ex P ⟨dst, .binOp .and t x y t',ty,pos,af,g⟩ e w (.int .u64 (Pl.andU a b)) w:=Ex.bits h1 h2 (fun w=>rfl) (.inl rfl)
theorem Ex.xorU (h1:ev e x=some (.int .u64 a))(h2:ev e y=some (.int .u64 b)):Ex P ⟨dst, .binOp .xor t x y t',ty,pos,af,g⟩ e w (.int .u64 (Pl.xorU a b)) w:=Ex.bits h1 h2 (fun w=>rfl) (.inr (.inr (.inl rfl)))
theorem Ex.shrU {k':IntKind}(h1:ev e x=some (.int .u64 a))(h2:ev e y=some (.int k' b))(hz:Pl.shrU a b=some z):Ex P ⟨dst, .binOp .shr t x y t',ty,pos,af,g⟩ e w (.int .u64 z) w:=by
 unfold Pl.shrU at hz;split at hz
 · rename_i h;cases hz;exact Ex.shr h1 h2 h
 cases hz
end
end Go.Ph
namespace Go.Ph
open Go Go.RowKit Go.Ph.Pl
section
variable {C : Nat → Prop} {r : Option Nat} {P : Program} {ops : Array Oper} {Q : Exit → Act → World → Prop} {n : Nat} {D : List Deferred} {rest : List Oper} {e : Env} {w0 w : World} {M0 M : Mem} {L L' : List Item} {x y : Operand} {ty t t' : TypeId} {pos : String} {af : Array Edge} {g : Option (Nat × Bool)} {v : Value}
theorem WR.storeP {b o s:Nat}{cs0 us:List Value}(cs:List Value)(H:StX C w0 M0 M L w)(hx:ev e x=some (ptr b o))(hy:ev e y=some v)(hc:v.cells=us.toArray)(hu:Upd L (.blk b (.cells cs0.toArray t')) (.blk b (.cells cs.toArray t')) L')
 (hs :∀w,(sizeOf t).run P w = .ok s w) (hvs:us.length=s) (hfit:Nat.ble (o+s) cs0.length=true) (h1:us.all (·.oneCell')=true) (he:cs0.take o++us++cs0.drop (o+s)=cs)
 (hw:Wn ops n D e ⟨none, .store t x y,ty,pos,af,g⟩) (k :∀w',StX C w0 M0 M L' w'→WR r P ops Q n D rest e w'):WR r P ops Q n D (⟨none, .store t x y,ty,pos,af,g⟩::rest) e w :=
 WR.storeK H hx hy hu hs (by rw[hc];simpa using hvs) (by simpa using l06 hfit) (fun u hu=>by rw[hc] at hu;exact List.all_eq_true.1 h1 u (by simpa using hu)) (by
  rw[hc,←he]) hw k
theorem Ex.loadAggP {dst:Option Tmp}{b o s:Nat}{cs us:List Value}(H:StX C w0 M0 M L w)(hx:ev e x=some (ptr b o))(hm:Item.blk b (.cells cs.toArray t')∈L)(ha :∀w,(isAgg t).run P w = .ok true w)(hs :∀w,(sizeOf t).run P w = .ok s w)(hu:(cs.drop o).take s=us)(hl:us.length=s):
 Ex P ⟨dst, .load t x,ty,pos,af,g⟩ e w (.agg us.toArray) w:=by
 refine Ex.loadK hx ?_;have hb:=H.blk hm;subst hl;have hl:(loadCells ⟨b,o,none⟩ us.length).run P w = .ok us.toArray w :=
  run_loadCells_list (P:=P) w ⟨b,o,none⟩ us (fun j v hv=>by
   rw[Addr.add_lit,cell_of_row w b _ _ t' _ hb];have h1:=(List.getElem?_eq_some_iff.1 hv).1;rw[←hu,List.getElem?_take_of_lt h1,List.getElem?_drop] at hv;simpa using hv)
 simp only[loadVar,Sem.run_bind,ha,Result.andThen_ok,if_true,hs,hl,Sem.run_pure]
abbrev _root_.q1r := @Ex.loadAggP
theorem WR.makeMap {d:Tmp}(H:StX C w0 M0 M L w)(hw:Wn ops n D e ⟨some d, .makeMap t none,ty,pos,af,g⟩)(hn:Nat.blt d n=true)
 (k :∀b w',StX C w0 M0 M L w'→WR r P ops Q n D rest ((d, .map (some b))::e) w'):WR r P ops Q n D (⟨some d, .makeMap t none,ty,pos,af,g⟩::rest) e w:=by
 refine q0I (v := .map (some w.heap.size)) (w':=w.alloc (.map #[] 0)) ⟨nofun,fun ρ hf=>?_⟩ hw G hn (k _ _ ((H.new (it := .blk w.heap.size (.map #[] 0)) (grownBy_alloc' _ _) (World.alloc_heap_new w _) (fun b hb=>by cases hb;exact l09 _)).drop (l0I _ _)));simp only[execOp,l1b];rfl
theorem St.allocRow {cur:Array Value}{k cap:Nat}{xs:List Value}(ha:Ag M w)(h1:xs.length=k)(h2:k≤cap)(h3:cap≤maxLen)(h4:cur.size=cap)(h5:cur.toList.take k=xs):St w M M [.row t 1 (.slice (some ⟨w.heap.size,0,none⟩) k cap) k xs] (w.alloc (.cells cur t)) :=
 (StX.start ha).new (it := .row t 1 (.slice (some ⟨w.heap.size,0,none⟩) k cap) k xs) (grownBy_alloc' _ _) ⟨by omega, .inr ⟨_,_,cur,rfl,l0C _,World.alloc_heap_new _ _,h2,h3,by omega,by rw[l0x];exact h5⟩⟩ (fun b hb=>by cases hb;exact l09 _)
def subV (v:Value)(i j:Nat):Value:=match v with
 | .slice A _ c => .slice (if c=i then A else A.map (·.add i)) (j-i) (c-i)
 | v=>v
variable {α : Type} {enc : α → Value} {l l2 : List α} {dst : Option Tmp} {o1 o2 : Operand} {i j : Int}
theorem Sl.subV (h:Sl M enc v l)(hc:cut l i j=some l2):Sl M enc (subV v i.toNat j.toNat) l2:=by
 obtain⟨⟨a1,a2,a3⟩,rfl⟩:=cut_some hc;obtain⟨A,nn,c,rfl,rfl,hnc,hs⟩:=h.part (i:=i.toNat) (j:=j.toNat) Om Om;exact hs
theorem Ex.sliceV {a b:Nat}{lo hi:Option Operand}(ht:P.underlying t=some (.slice t'))(hz :∀w,(sizeOf t').run P w = .ok 1 w)(h:Sl M enc v l)(hx:ev e x=some v)
 (hlo:(∃o,lo=some o∧ev e o=some (I a))∨(lo=none∧a=0)) (hhi:(∃o,hi=some o∧ev e o=some (I b))∨(hi=none∧b=l.length)) (hij:a≤b) (hj:b≤l.length):Ex P ⟨dst, .slice t x lo hi none,ty,pos,af,g⟩ e w (Ph.subV v a b) w:=by
 obtain⟨A,nn,c,rfl,rfl,hnc,hs⟩:=h.part hij hj;refine⟨nofun,fun ρ hfi=>?_⟩;have hr:=run_slice_part (P:=P) (w:=w) (lo:=lo.map ρ) (hi:=hi.map ρ) ht hz A l.length c hnc hij hj
  (by rcases hlo with ⟨o,rfl,ho⟩|⟨rfl,h⟩
      · exact .inl (by simp [hfi _ _ ho])
      exact .inr ⟨G,h⟩)
  (by rcases hhi with ⟨o,rfl,ho⟩|⟨rfl,h⟩
      · exact .inl (by simp [hfi _ _ ho])
      exact .inr ⟨G,h⟩)
 simp only[execOp,hfi _ _ hx,l1b,Sem.run_bind,hr,Result.andThen_ok,Sem.run_pure];rfl
theorem Ex.sliceVL (ht:P.underlying t=some (.slice t'))(hz :∀w,(sizeOf t').run P w = .ok 1 w)(h:Sl M enc v l)(hx:ev e x=some v)(h1:ev e o1=some (I i))(hc:cut l i (l.length:Int)=some l2):Ex P ⟨dst, .slice t x (some o1) none none,ty,pos,af,g⟩ e w (Ph.subV v i.toNat (l.length:Int).toNat) w:=by
 obtain⟨⟨a1,a2,a3⟩,rfl⟩:=cut_some hc;exact Ex.sliceV ht hz h hx (.inl ⟨_,G,by rw[h1,l0h a1]⟩) (.inr ⟨G,by simp⟩) Om Om
theorem Ex.sliceVH (ht:P.underlying t=some (.slice t'))(hz :∀w,(sizeOf t').run P w = .ok 1 w)(h:Sl M enc v l)(hx:ev e x=some v)(h2:ev e o2=some (I j))(hc:cut l 0 j=some l2):Ex P ⟨dst, .slice t x none (some o2) none,ty,pos,af,g⟩ e w (Ph.subV v (0:Int).toNat j.toNat) w:=by
 obtain⟨⟨a1,a2,a3⟩,rfl⟩:=cut_some hc;exact Ex.sliceV ht hz h hx (.inr ⟨G,G⟩) (.inl ⟨_,G,by rw[h2,l0h Om]⟩) Om Om
theorem WQ.end0 {fn:Func}{R:Value→Mem→Prop}(hr:fn.results = #[])(H:Ext w0 M0 w M)(hR:R (.tuple #[]) M):WQ (bodyPost P fn (Ret w0 M0 R)) .normal n [] e w :=
 fun a ha=>⟨ha.defers, .tuple #[],by simp [results,hr],_,M,rfl,H,hR⟩
end
end Go.Ph
end
section
namespace Go.Ph
open Go Go.RowKit Pl
structure ItR {α:Type}(P:Program)(f:FuncId)(cap:List Value)(A:List Item)(Pre:Mem→Prop)(Rx:Value→Mem→α→Prop)(run:(σ:Type)→(σ→α→Option (σ × Bool))→σ→Option σ):Prop where
 enters :∀ar w,(callFunc f ar).run P w = .ok (.enter f ar) w
 calls :∀(l:Nat) (σ:Type) (Y:σ→α→Option (σ × Bool)) (Z:σ→List Item→Mem→Prop),(∀s L M M',Z s L M→M.le M'→Z s L M')→
  (∀s x s' b v L w M,Y s x=some (s',b)→Z s L M→Rx v M x→StX (feet L) w M M L w→YieldAt (Wd none) 0 P l #[v] w fun e w' =>∃M' L',StX (feet L) w M M' L' w'∧e = .returned (.bool b)∧Z s' L' M')→
  ∀s s' L w M,run σ Y s=some s'→Z s L M→StX (feet (A++L)) w M M (A++L) w→Pre M→
  Calls P f (yv l::cap).toArray w fun e w' =>∃r M' L',e = .returned r∧StX (feet (A++L)) w M M' L' w'∧Z s' L' M'
section
variable {C : Nat → Prop} {r : Option Nat} {P : Program} {ops : Array Oper} {Q : Exit → Act → World → Prop} {n : Nat} {D : List Deferred} {rest : List Oper} {e : Env} {w0 w : World} {M0 M : Mem} {L B : List Item} {d : Nat}
  {x y : Operand} {ty t ts t' : TypeId} {pos : String} {af : Array Edge} {g : Option (Nat × Bool)} {α σ : Type} {Rx : Value → Mem → α → Prop}
variable {lid : Nat} {rc : LoopState → Option Code → Loop} {Z : σ → List Item → Mem → Prop} {E : σ → Option Code} {s : σ} {w1 : World} {M1 : Mem} {Lh L0 : List Item}
theorem WC.rangeR {Lall A:List Item}{f:FuncId}{cap:List Value}{Pre:Mem→Prop}{run:(σ:Type)→(σ→α→Option (σ × Bool))→σ→Option σ}{gv:Operand}{p:Tmp}{assign body:Code}
 (H:StX C w0 M0 M Lall w) (hg:ev e gv=some (.func (.func f) #[] cap.toArray)) (hit:ItR P f cap A Pre Rx run) (hs:Spl Lall (A++L) B) (hp:Pre M) (hpn:Nat.blt p n=true)
 (Z:σ→List Item→Mem→Prop) (E:σ→Option Code) (stop:σ→Bool) (hE :∀s,stop s=(E s).isSome) (Bd:σ→α→Option σ) (s0 s1:σ) (hrun:run σ (stepY stop Bd) s0=some s1)
 (hZ :∀s L M M',Z s L M→M.le M'→Z s L M') (hE0:E s0=none) (hz:Z s0 L M)
 (hbody :∀(lid:Nat) (rc:LoopState→Option Code→Loop),LoopRec rc→∀s x s' xv L w M,E s=none→Bd s x=some s'→Z s L M→Rx xv M x→
  StX (feet (.blk lid (.loop (rc .ready none))::L)) w M M (.blk lid (.loop (rc .ready none))::L) w→
  WC (some lid) P (asgPost P lid body (RS Z E lid rc (.blk lid (.loop (rc .ready none))::L) w M s')) n [] assign ((p,xv)::e) w)
 (hdone :∀Dm w M' L',StX C w0 M0 M' (L'++(.blk Dm (.deferred (some []))::B)) w→M.le M'→E s1=none→Z s1 L' M'→WQ Q .normal n (mark Dm::D) e w)
 (hstop :∀Dm w M' L' c,StX C w0 M0 M' (L'++(.blk Dm (.deferred (some []))::B)) w→M.le M'→E s1=some c→Z s1 L' M'→WC none P Q n (mark Dm::D) c e w) :
 WC none P Q n D (.rangeFunc gv #[p] assign body) e w:=by
 intro a ha;refine wpIn_rangeFunc (F:=Wd none) (n:=0) ?_;intro fn _;obtain⟨rc,hrcd⟩ :∃rc:LoopState→Option Code→Loop,rc=fun st pe=>{state:=st,pending:=pe,fn,tmps:=a.tmps,params := #[p],assign,body,defers:=w.heap.size}:=⟨_,rfl⟩
 have hrc:LoopRec rc:=by subst hrcd;exact ⟨fun _ _=>rfl,fun _ _=>rfl,fun _ _ _=>rfl,fun _ _ _ _=>rfl⟩
 have H1:StX C w0 M0 M (.blk w.heap.size (.deferred (some []))::Lall) (w.alloc (.deferred (some []))) :=
  H.new (grownBy_alloc' _ _) (World.alloc_heap_new w _) (fun b hb=>by cases hb;exact l09 _)
 have H2:StX C w0 M0 M (.blk (w.heap.size+1) (.loop (rc .ready none)) :: .blk w.heap.size (.deferred (some []))::Lall) ((w.alloc (.deferred (some []))).alloc (.loop (rc .ready none))) :=
  H1.new (grownBy_alloc' _ _) (by have:=World.alloc_heap_new (w.alloc (.deferred (some []))) (.loop (rc .ready none));rwa [World.size_alloc] at this) (fun b hb=>by cases hb;simp)
 obtain⟨W,hW⟩ :∃W,(w.alloc (.deferred (some []))).alloc (.loop (rc .ready none))=W:=⟨_,rfl⟩
 rw[hW] at H2;have hperm:(Item.blk (w.heap.size+1) (.loop (rc .ready none)) :: .blk w.heap.size (.deferred (some []))::Lall).Perm ((A++(.blk (w.heap.size+1) (.loop (rc .ready none))::L))++(.blk w.heap.size (.deferred (some []))::B)):=by
  have h1:Lall.Perm (A++L++B):=hs.perm;have h2:(A++(Item.blk (w.heap.size+1) (.loop (rc .ready none))::L)).Perm (.blk (w.heap.size+1) (.loop (rc .ready none))::(A++L)):=List.perm_middle;refine(((h1.cons _).trans List.perm_middle.symm).cons _).trans ?_;exact(h2.append_right _).symm
 have H3:=H2.perm hperm;refine⟨w.heap.size+1,[mark w.heap.size],W,{target := .fn (.func f) cap.toArray,args := #[yv (w.heap.size+1)]},W,f,(yv (w.heap.size+1)::cap).toArray,W,?_,?_,fun _ _=>trivial,?_,fun h=>(by cases h),?_⟩
 · rw[←hW,hrcd];exact run_enterLoop_outer _ _ _ _ _
 · have h1:=ha.fits _ _ hg;simp only[resolve,h1,Deferred.ofValue,Sem.run_pure,l0k,l0i,l0y,Array.empty_append];rfl
 · simp only[invoke,l1j,l03,l04,hit.enters]
 refine callsIn_Wd.2 ((hit.calls (w.heap.size+1) σ (stepY stop Bd) (fun s L M =>∃L0,L = .blk (w.heap.size+1) (.loop (lpS rc (E s)))::L0∧Z s L0 M) (fun s L M M' ⟨L0,h1,h2⟩ hle=>⟨L0,h1,hZ _ _ _ _ h2 hle⟩) ?_ s0 s1 _ W M hrun ⟨L,by rw[hE0];rfl,hz⟩ (H3.hand (Spl.append _ _)) hp).mono ?_)
 · rintro s x s' b xv L1 w1 M1 hy ⟨L0,rfl,hz0⟩ hrx Hs;unfold stepY at hy;split at hy
   case isTrue=>cases hy
   rename_i hst;have hEs:E s=none:=by
    cases hc:E s with
    | none=>rfl
    | some c=>rw[hE,hc] at hst;exact absurd rfl hst
   obtain⟨s2,hB,heq⟩:=Option.map_eq_some_iff.1 hy;obtain⟨rfl,rfl⟩:=Prod.mk.inj heq;rw[hEs] at Hs;have hl:=Hs.blk (List.Mem.head _);have hy:=run_yield (P:=P) (args := #[xv]) hl (by rw[lpS,hrcd];rfl);refine⟨_,_,_,_,hy,roundIn_of_wpIn trivial ?_⟩;have hb:=hbody (w.heap.size+1) rc hrc s x s2 xv L0 w1 M1 hEs hB hz0 hrx Hs;have hsat:Sat n [] ((p,xv)::e) {tmps:=(((rc .ready none).params.zip #[xv]).foldl (fun tmps (t,a)=>tmps.setIfInBounds t a) (rc .ready none).tmps),defers:=[]}:=by
    have h1:=Sat.put (D:=[]) (a:={tmps:=a.tmps,defers:=[]}) (e:=e) (n:=n) ⟨ha.size,rfl,ha.val⟩ (l06 hpn) xv;rw[hrcd];simpa [Act.put] using h1
   have hfin:=hb _ hsat;have hpost :∀en w',RS Z E (w.heap.size+1) rc (.blk (w.heap.size+1) (.loop (rc .ready none))::L0) w1 M1 s2 en w'→
    ∃M' L',StX (feet (.blk (w.heap.size+1) (.loop (lpS rc (E s)))::L0)) w1 M1 M' L' w'∧en = .returned (.bool (!stop s2))∧∃L0,L' = .blk (w.heap.size+1) (.loop (lpS rc (E s2)))::L0∧Z s2 L0 M':=by
    rintro en w' ⟨M',L2,h1,h2,h3⟩;refine⟨M',_,by rw[hEs];exact h1,?_,L2,G,h3⟩;rw[h2,hE];cases E s2 <;> rfl
   have hpe:RS Z E (w.heap.size+1) rc (.blk (w.heap.size+1) (.loop (rc .ready none))::L0) w1 M1 s2=fun en w' =>∃M' L',StX (feet (.blk (w.heap.size+1) (.loop (lpS rc (E s)))::L0)) w1 M1 M' L' w'∧en = .returned (.bool (!stop s2))∧∃L0,L' = .blk (w.heap.size+1) (.loop (lpS rc (E s2)))::L0∧Z s2 L0 M':=by
    funext en w'
    refine propext ⟨hpost en w',?_⟩;rintro⟨M',L',h1,h2,L2,rfl,h3⟩;refine⟨M',L2,by rw[hEs] at h1;exact h1,?_,h3⟩;rw[h2,hE];cases E s2 <;> rfl
   rw[hpe] at hfin;rw[lpS];rw[hrcd] at hfin ⊢;exact hfin
 rintro en w3 ⟨rv,M',L',rfl,Hs,L0,rfl,hz'⟩;have Hb:=H3.back (Spl.append _ _) Hs;have hle:M.le M':=Hs.ext.le;have hd:Sat n (mark w.heap.size::D) e {a with defers:=[mark w.heap.size]++a.defers}:=⟨ha.size,by simp [ha.defers],ha.val⟩
 have hl:=Hb.blk (List.Mem.head _);cases hEs:E s1 with
 | none =>
   rw[hEs] at hl Hb;have hr:=run_endLoop (P:=P) hl (by rw[lpS,hrc.state];intro h;cases h);rw[lpS,hrc.setS,hrc.pending] at hr;have Hc:=(Hb.put (o' := .loop (rc .exhausted none)) .head).drop (l0I _ _);exact⟨none,_,hr,hdone _ _ M' L0 Hc hle hEs hz' _ hd⟩
 | some c =>
   rw[hEs] at hl Hb;have hr:=run_endLoop (P:=P) hl (by rw[lpS,hrc.state];intro h;cases h);rw[lpS,hrc.setS,hrc.pending] at hr;have Hc:=(Hb.put (o' := .loop (rc .exhausted (some c))) .head).drop (l0I _ _);exact⟨some c,_,hr,hstop _ _ M' L0 c Hc hle hEs hz' _ hd⟩
variable {Lc A : List Item} {v : Value}
theorem WR.yieldR {l:Nat}{Y:σ→α→Option (σ × Bool)}{Z:σ→List Item→Mem→Prop}{s s':σ}{b:Bool}{xv:α}{tys:Array TypeId}(H:StX C w0 M0 M L w)(hspl:Spl L Lc B)
 (hY :∀s x s' b v L w M,Y s x=some (s',b)→Z s L M→Rx v M x→StX (feet L) w M M L w→YieldAt (Wd none) 0 P l #[v] w fun e w' =>∃M' L',StX (feet L) w M M' L' w'∧e = .returned (.bool b)∧Z s' L' M')
 (hz:ZH Z s Lc M) (hy:Y s xv=some (s',b)) (hx:ev e x=some (yv l)) (hv:ev e y=some v) (hr:Rx v M xv)
 (hw:Wn ops n D e ⟨some d, .call ⟨.value x,#[y],tys⟩,ty,pos,af,g⟩) (hn:Nat.blt d n=true)
 (k :∀w M' Lc',StX C w0 M0 M' (B++Lc') w→M.le M'→ZH Z s' Lc' M'→WR none P ops Q n D rest ((d, .bool b)::e) w) :
 WR none P ops Q n D (⟨some d, .call ⟨.value x,#[y],tys⟩,ty,pos,af,g⟩::rest) e w :=
 WR.yield (hY _ _ _ _ _ _ _ _ hy hz.z hr (H.hand hspl)) hx hv hw hn (fun en w' ⟨M',L',h1,he,hz'⟩=>⟨b,he,k _ _ _ ((H.back hspl h1).perm List.perm_append_comm) h1.ext.le ⟨hz',hz.m⟩⟩)
theorem ItR.of {f:FuncId}{fn:Func}{c:Code}{cap:List Value}{Pre:Mem→Prop}{run:(σ:Type)→(σ→α→Option (σ × Bool))→σ→Option σ}
 (hf:P.funcs[f]? = some fn) (hen :∀ar w,(callFunc f ar).run P w = .ok (.enter f ar) w) (hb:fn.body=some c) (hnt:fn.ntmps=n) (hn:Nat.ble (cap.length+1) n=true)
 (h :∀(l:Nat) (σ:Type) (Y:σ→α→Option (σ × Bool)) (Z:σ→List Item→Mem→Prop) (C:Nat→Prop),
  (∀s x s' b v L w M,Y s x=some (s',b)→Z s L M→Rx v M x→StX (feet L) w M M L w→YieldAt (Wd none) 0 P l #[v] w fun e w' =>∃M' L',StX (feet L) w M M' L' w'∧e = .returned (.bool b)∧Z s' L' M')→
  ∀s s' L w M,run σ Y s=some s'→ZH Z s L M→StX C w M M (A++L) w→Pre M→WC none P (bodyPost P fn (RetZ C Z s' w M)) n [] c (envOf 0 (yv l::cap)) w):ItR P f cap A Pre Rx run :=
 ⟨hen,fun l σ Y Z hZ hY s s' L w M hrun hz H hp=>calls_of_WC (args:=yv l::cap) hf hb hnt hn (h l σ Y Z _ hY s s' L w M hrun ⟨hz,hZ⟩ H hp)⟩
theorem map_add0 (A:Option Addr):A.map (·.add 0)=A:=by cases A <;> simp [Addr.add]
theorem Sl.tight {enc:α→Value}{A:Option Addr}{nn c:Nat}{l:List α}(h:Sl M enc (.slice A nn c) l):Sl M enc (.slice A nn nn) l:=by
 obtain⟨A',c',he,h1,h2,h3⟩:=h;cases he;exact⟨A,_,G,l09 _,⟨by omega,fun hA=>by have:=h2.2 hA;omega⟩,h3⟩
theorem WR.slice3C {enc:α→Value}{l l2:List α}{o2 o3:Operand}{j:Int}(ht:P.underlying t=some (.slice t'))(hz :∀w,(sizeOf t').run P w = .ok 1 w)(h:Sl M enc v l)(hx:ev e x=some v)(h2:ev e o2=some (I j))(h3:ev e o3=some (I j))(hc:cut l 0 j=some l2)
 (hw:Wn ops n D e ⟨some d, .slice t x none (some o2) (some o3),ty,pos,af,g⟩) (hn:Nat.blt d n=true) (k :∀v',Sl M enc v' l2→WR r P ops Q n D rest ((d,v')::e) w) :
 WR r P ops Q n D (⟨some d, .slice t x none (some o2) (some o3),ty,pos,af,g⟩::rest) e w:=by
 obtain⟨⟨a1,a2,a3⟩,rfl⟩:=cut_some hc;obtain⟨A,nn,c,rfl,rfl,hnc,hs⟩:=h.part (i:=(0:Int).toNat) (j:=j.toNat) Om Om;have hs2:=hs.tight;simp only[Int.toNat_zero,map_add0,ite_self,Nat.sub_zero] at hs2;refine q0I (v := .slice A j.toNat j.toNat) (w':=w) ⟨nofun,fun ρ hfi=>?_⟩ hw G hn (k _ hs2);have b1:(0:Int)≤j∧j≤(c:Int):=by omega
 have b2:(0:Int)≤j∧j≤(j.toNat:Int):=by omega
 simp only[execOp,hfi _ _ hx,l1b,l0Q,hfi _ _ h2,hfi _ _ h3,Instr.sliceAt,Instr.slice,Instr.sliceBounds,Instr.sliceBound,asIntOf,Sem.run_bind,run_underlying ht,Result.andThen_ok,Sem.run_pure,b1,b2,and_self,if_true,hz,Nat.zero_mul,map_add0,ite_self,Nat.sub_zero]
end
end Go.Ph
end
section
namespace Go.Ph
open Go Go.RowKit Pl
section
variable {C : Nat → Prop} {r : Option Nat} {P : Program} {ops : Array Oper} {Q : Exit → Act → World → Prop} {n : Nat} {D : List Deferred} {rest : List Oper} {e : Env} {w0 w : World} {M0 M : Mem} {L L' : List Item} {d : Nat} {v z : Value}
  {x y : Operand} {ty t ts tt tn : TypeId} {pos : String} {af : Array Edge} {g : Option (Nat × Bool)} {α : Type} {enc : α → List Value} {kk bytes : Nat}
section
variable {A B : List Item} {u : Value} {g : Option (Nat × Bool)} {l : List α}
theorem StX.lendS (H:StX C w0 M0 M L w)(hm:RowS t kk enc u l∈L)(h0 :∀x,(enc x).length=kk):∃M1,M.le M1∧Ag M1 w∧SlS M1 kk enc u l∧∀{w':World} {M':Mem},Ext w M1 w' M'→∃M2,M.le M2∧M2.le M'∧StX C w0 M0 M2 L w':=by
 have hown:=H.rowOf hm;rcases hown.2 with ⟨hv,hn⟩|⟨g,cap,cur,hv,hgb,hg,hnc,hcm,hcs,htake⟩
 · have:l=[]:=l05 hn;subst this;subst hv;exact⟨M,Mem.le.refl M,H.ag,q1e M enc h0,fun {w' M'} hx=>⟨M',hx.le,Mem.le.refl _,H.call hx⟩⟩
 have hf:(RowS t kk enc u l).foot=some g:=by rw[hv];rfl
 have hMg:=((H.own _ hm).2 g hf).1;have hCg:=((H.own _ hm).2 g hf).2;have hle:M.le (M.set g (.cells cur t)):=fun b o hb=>by
  by_cases h:b=g
  · subst h;rw [hMg] at hb;cases hb
  simp [Mem.set,h,hb]
 have hag:Ag (M.set g (.cells cur t)) w:=fun b o hb=>by
  by_cases h:b=g
  · subst h;simp only[Mem.set,if_true] at hb;rw [←hb];exact hg
  simp only[Mem.set,h,if_false] at hb;exact H.ag b o hb
 refine⟨_,hle,hag,⟨h0,some ⟨g,0,none⟩,cap,hv,hnc,⟨hcm,fun h=>by cases h⟩,fun _=>⟨g,0,cur,t,(0,0),G,by simp [Mem.set],fun i x hx j u hj=>?_⟩⟩,fun {w' M'} hx=>?_⟩
 · have h3:=flat_at h0 l i j x u hx hj;rw[←htake,List.getElem?_take] at h3;split at h3
   · rw[l0n];simpa using h3
   cases h3
 have hgw:g<w.heap.size:=(Array.getElem?_eq_some_iff.1 hg).1;refine⟨fun b=>if b=g then none else M' b,fun b o hb=>?_,fun b o hb=>?_,⟨⟨hx.below.os.trans H.ext.below.os,hx.below.tape.trans H.ext.below.tape,hx.below.output.trans H.ext.below.output,l1a H.ext.below.size hx.below.size,fun k hk hn=>?_⟩,fun b o hb=>?_,fun b o hb=>?_,fun b hb=>?_⟩,fun it hit=>?_,H.sep⟩
 · have hne:b≠g:=fun h=>by rw[h,hMg] at hb;cases hb
   simp only[hne,if_false];exact hx.le b o (hle b o hb)
 · by_cases h:b=g
   · simp [h] at hb
   simpa [h] using hb
 · exact(hx.below.block k (l0L hk H.base) (fun h=>h)).trans (H.ext.below.block k hk hn)
 · have hb':=H.ext.le b o hb;have hne:b≠g:=fun h=>by rw[h,hMg] at hb';cases hb'
   simp only[hne,if_false];exact hx.le b o (hle b o hb')
 · by_cases h:b=g
   · simp [h] at hb
   simp only[h,if_false] at hb;exact hx.ag b o hb
 · by_cases h:b=g
   · subst h;simp only[if_true];rw[←H.ext.old b hb,hMg]
   simp only[h,if_false];rw[hx.old b (l0L hb H.base)];simp only[Mem.set,h,if_false];exact H.ext.old b hb
 obtain⟨h1,h2⟩:=H.own it hit;refine⟨h1.kept (fun b hb=>hx.below.block b (h1.lt b hb) (fun h=>h)),fun b hb=>⟨?_,(h2 b hb).2⟩⟩;by_cases h:b=g
 · simp [h]
 simp only[h,if_false];rw[hx.old b (h1.lt b hb)];simp only[Mem.set,h,if_false];exact(h2 b hb).1
theorem WR.callLendS {f:FuncId}{ar:List Operand}{vs:List Value}{tys:Array TypeId}{Pre:Mem→Prop}{R:Value→Mem→Prop}(H:StX C w0 M0 M L w)(hm:RowS t kk enc u l∈L)(h0 :∀x,(enc x).length=kk)(hs:Ct P f vs Pre R)(hR :∀v M1 M2,R v M1→R v M2)(ha:evs e ar=some vs)(hp :∀M1,M.le M1→SlS M1 kk enc u l→Pre M1)
 (hw:Wn ops n D e ⟨some d, .call ⟨.value (.func f),ar.toArray,tys⟩,ty,pos,af,g⟩) (hn:Nat.blt d n=true)
 (k :∀v M' w',StX C w0 M0 M' L w'→M.le M'→R v M'→WR r P ops Q n D rest ((d,v)::e) w') :
 WR r P ops Q n D (⟨some d, .call ⟨.value (.func f),ar.toArray,tys⟩,ty,pos,af,g⟩::rest) e w:=by
 intro a hsat;unfold wpListIn;rw[if_pos (hw a hsat)];refine⟨fun _ _=>trivial,?_⟩;rw[Oper.semAt_eq _ _ _ (fun c h=>by cases h)];have hv:ar.map a.eval=vs:=hsat.fits.evs ha;have hf:a.eval (.func f) = .func (.func f) #[] #[]:=rfl;have hrun:(execOp a.eval ⟨some d, .call ⟨.value (.func f),ar.toArray,tys⟩,ty,pos,af,g⟩).run P w = .ok (.enter f vs.toArray) w:=by
  simp only[execOp,resolve,hf,Deferred.ofValue,Sem.run_bind,Sem.run_pure,Result.andThen_ok,invoke,l0k,hv,Array.append_empty,Array.empty_append,hs.enters]
 rw[hrun,Oper.uponIn_enter];obtain⟨M1,h1,h2,h3,h4⟩:=H.lendS hm h0;refine⟨fun h=>(by cases h),callsIn_Wd.2 ((hs.calls w M1 h2 (hp M1 h1 h3)).mono ?_)⟩;rintro en w' ⟨rv,M',rfl,hx,hres⟩;obtain⟨M2,k1,k2,k3⟩:=h4 hx;exact k rv M2 w' k3 k1 (hR _ _ _ hres) _ (hsat.put (l06 hn) rv)
end
theorem Ex.capSlice {A:Option Addr}{nn cp:Nat}{t0:TypeId}{dst:Option Tmp}(ht:P.underlying t=some (.slice t0))(h:ev e x=some (.slice A nn cp)):Ex P ⟨dst, .call ⟨.builtin .cap,#[x],#[t]⟩,ty,pos,af,g⟩ e w (I cp) w :=
 ⟨nofun,fun ρ hf=>by simp [hf _ _ h,Builtin.cap_,underlying,ht,goInt,go_sem]⟩
theorem WR.appZeros {k:Int}(T:ElemTy P ts t z kk bytes)(hkk:Nat.blt 0 kk=true)(enc:α→List Value)(hb:Nat.ble bytes 1000=true)(htn:P.underlying tn=some (.int .i64))(hk:0<k∧k≤1000000)(H:StX C w0 M0 M L w)(hx:ev e x=some (.slice none 0 0))(hy:ev e y=some (I k))
 (hw:Wn ops n D e ⟨some d, .call ⟨.builtin .append,#[x,y],#[ts,tn]⟩,ty,pos,af,g⟩) (hn:Nat.blt d n=true)
 (K :∀b nn cp w',nn≤cp→StX C w0 M0 M (RowS t kk enc (.slice (some ⟨b,0,none⟩) 0 cp) ([]:List α)::L) w'→WR r P ops Q n D rest ((d, .slice (some ⟨b,0,none⟩) nn cp)::e) w') :
 WR r P ops Q n D (⟨some d, .call ⟨.builtin .append,#[x,y],#[ts,tn]⟩,ty,pos,af,g⟩::rest) e w:=by
 obtain⟨i,hi,hz,hsz,hby⟩:=T.info;obtain⟨m,rfl⟩:=l0M (Int.le_of_lt hk.1);have hkk':=T.pos;have hb':=l06 hb;have hm:m*i.bytes≤1000000*1000:=Nat.mul_le_mul Om Om;have hrun:=Lib.run_append_nil_zeros (P:=P) w ts tn ty t i z .i64 .i64 T.under htn hi hz m Om Om Om Om;have hge:=grownCap_ge w m 0 t;have hle:=grownCap_le_maxLen w m 0 t (by unfold maxLen;omega);refine q0I (v := .slice (some ⟨w.heap.size,0,none⟩) m (grownCap w m 0 t)) (w':=w.drew.alloc (.cells (Builtin.zeroCells z.cells m++Builtin.zeroCells z.cells (grownCap w m 0 t-m)) t)) ⟨nofun,fun ρ hfi=>?_⟩ hw G hn (K _ _ _ _ hge (H.drew.new (it:=RowS t kk enc (.slice (some ⟨w.heap.size,0,none⟩) 0 (grownCap w m 0 t)) ([]:List α)) (grownBy_alloc' _ _) ?_ (fun b hb=>by cases hb;exact l09 _)))
 · simp only[execOp,resolve,invoke,builtin,Sem.run_bind,Sem.run_pure,Result.andThen_ok,l0k,l0i,l0y,hfi _ _ hx,hfi _ _ hy,hrun]
 refine⟨by simp, .inr ⟨w.heap.size,_,_,G,l0C _,World.alloc_heap_new w.drew _,l0C _,hle,?_,by simp⟩⟩;rw[Array.size_append,size_zeroCells,size_zeroCells,T.zs,←l0V];congr 1;omega
theorem Ex.slice0 {b nn cp:Nat}{t':TypeId}{o2:Operand}{dst:Option Tmp}(ht:P.underlying t=some (.slice t'))(hz :∀w,(sizeOf t').run P w = .ok kk w)(hx:ev e x=some (.slice (some ⟨b,0,none⟩) nn cp))(hy:ev e o2=some (I 0))(hnc:nn≤cp):
 Ex P ⟨dst, .slice t x none (some o2) none,ty,pos,af,g⟩ e w (.slice (some ⟨b,0,none⟩) 0 cp) w:=by
 have h:=Ex.sliceRow (P:=P) (w:=w) (ty:=ty) (pos:=pos) (af:=af) (g:=g) (dst:=dst) (kk:=kk) (i:=0) (j:=0) (lo:=none) (hi:=some o2) ht hz hx hnc (l09 _) (l0C _) (.inr ⟨rfl,rfl⟩) (.inl ⟨_,rfl,hy⟩);have e1:(Value.slice (if cp=0 then some ⟨b,0,none⟩ else(some (⟨b,0,none⟩:Addr)).map (fun a=>a.add (0*kk))) (0-0) (cp-0)) = .slice (some ⟨b,0,none⟩) 0 cp:=by
  split <;> simp [Addr.add]
 rw[e1] at h;exact h
theorem Sl.nilOr {enc:α→Value}{l:List α}(h:Sl M enc v l):(v = .slice none 0 0∧l=[])∨∃a c,v = .slice (some a) l.length c:=by
 obtain⟨A,c,rfl,h1,h2,_⟩:=h;cases A with
 | none =>
   have hc:=h2.2 rfl;have hl:l=[]:=l05 Om;subst hl;subst hc;exact .inl ⟨G,G⟩
 | some a=>exact .inr ⟨a,c,rfl⟩
theorem WR.litRS {enc:α→List Value}{ps:List (Nat × Operand)}{vs:List (Nat × Value)}{len:Nat}(T:ElemTy P ts t z kk bytes)(l:List α)(H:StX C w0 M0 M L w)(h0 :∀a,(enc a).length=kk)(hp:evq e ps=some vs)
 (hfl:Instr.fill (fun i=>some (i*kk,kk)) ((Array.range (len*kk)).map (z.cells[· % z.cells.size]!)) vs=some (l.flatMap enc).toArray) (hlen:l.length=len) (hbig:Nat.ble (len*kk) 16777216=true) (hnz:Nat.blt 0 (len*kk)=true)
 (hw:Wn ops n D e ⟨some d, .buildSlice ts len ps.toArray,ty,pos,af,g⟩) (hn:Nat.blt d n=true)
 (k :∀v w',StX C w0 M0 M (RowS t kk enc v l::L) w'→WR r P ops Q n D rest ((d,v)::e) w') :
 WR r P ops Q n D (⟨some d, .buildSlice ts len ps.toArray,ty,pos,af,g⟩::rest) e w:=by
 have hbig:=l06 hbig;have hnz:=l06 hnz;obtain⟨i,hi,hz,hsz,_⟩:=T.info;have hs:(sizeOf t).run P w = .ok kk w:=by simp [sizeOf,typeInfo,hi,hsz]
 have hzv:(zeroValue t).run P w = .ok z w:=by simp [zeroValue,typeInfo,hi,hz]
 have hll:l.length≤maxLen:=by
  have:len≤len*kk:=l1z _ T.pos;simp only[maxLen];omega
 have hsize:(l.flatMap enc).length=l.length*kk:=flat_len h0 l;refine q0I (w':=w.alloc (.cells (l.flatMap enc).toArray t)) (v := .slice (some ⟨w.heap.size,0,none⟩) len len) ⟨nofun,fun ρ hf=>?_⟩ hw G hn (k _ _ (H.new (it:=RowS t kk enc (.slice (some ⟨w.heap.size,0,none⟩) len len) l) (grownBy_alloc' w (.cells (l.flatMap enc).toArray t)) ?_ (fun b hb=>by cases hb;exact l09 _)))
 · have h1:(ps.toArray.map fun x=>(x.1,ρ x.2)).toList=vs:=by simpa using hf.evq hp
   have hnb :¬(len*kk>2 ^ 24):=by omega
   have h00 :¬(len*kk=0):=by omega
   simp only[execOp,Instr.buildSlice,Sem.run_bind,run_underlying T.under,Result.andThen_ok,hs,hnb,if_false,h00,hzv,Sem.run_pure,h1,hfl];rfl
 subst hlen;exact⟨hsize, .inr ⟨w.heap.size,l.length,_,G,l0C _,heap_alloc_new w _,l09 _,hll,by rw[l0P];exact hsize,by rw[←hsize];exact l0E Sm⟩⟩
theorem Ext.ofDrawn {M:Mem}{w:World}(ha:Ag M w)(q:Nat):Ext w M (w.drewN q) M:=q1q ha (below_drewN (Below.refl _ w) q)
theorem Sl.cells1 {enc:α→Value}{l:List α}(h:Sl M enc v l):v.cells = #[v]:=by
 obtain⟨A,c,rfl,_⟩:=h;rfl
end
end Go.Ph
end
section
namespace Go.Ph.Pl
theorem u8_lit (c n:UInt8):c=n↔c.toNat=n.toNat:=UInt8.toNat_inj.symm
theorem drop_cons {α:Type}{l:List α}{i:Nat}(h:i<l.length):l.drop i=l[i]::l.drop (i+1):=l0R h
theorem scanL {α β:Type}(L:Nat→Int→Option β)(l:List α)(p:α→Bool)(stop r:β)(hend :∀m,L (m+1) (l.length:Int)=some stop)
 (hstep :∀m i (h:i<l.length),L (m+1) (i:Int)=if p l[i]=true then some r else L m ((i+1:Nat):Int)) :
 ∀(k i m:Nat),l.length-i≤k→k<m→i≤l.length→L m (i:Int)=some (if (l.drop i).any p=true then r else stop)
 | 0,i,m,h1,h2,h3=>by
   obtain⟨m,rfl⟩ :∃k,m=k+1:=⟨m-1,by omega⟩
   obtain rfl:i=l.length:=by omega
   rw[hend,l0J];rfl
 | k + 1,i,m,h1,h2,h3=>by
   obtain⟨m,rfl⟩ :∃k,m=k+1:=⟨m-1,by omega⟩
   by_cases hi:i<l.length
   · rw[hstep m i hi,drop_cons hi,List.any_cons];by_cases hp:p l[i]=true
     · rw[if_pos hp,hp];rfl
     rw[if_neg hp,scanL L l p stop r hend hstep k (i+1) m Om Om Om];have:p l[i]=false:=by simpa using hp
     rw[this];rfl
   obtain rfl:i=l.length:=by omega
   rw[hend,l0J];rfl
theorem scan0 {α β:Type}{L:Nat→Int→Option β}{l:List α}{p:α→Bool}{stop r:β}{m:Nat}(hm:l.length<m)(hend :∀m,L (m+1) (l.length:Int)=some stop)
 (hstep :∀m i (h:i<l.length),L (m+1) (i:Int)=if p l[i]=true then some r else L m ((i+1:Nat):Int)):L m 0=some (if l.any p=true then r else stop):=by
 have:=scanL L l p stop r hend hstep l.length 0 m Om hm Om;simpa using this
theorem scanP {α β:Type}(L:Nat→Int→Option β)(l:List α)(p:Nat→α→Option β)(stop:β)(hend :∀m,L (m+1) (l.length:Int)=some stop)
 (hstep :∀m i (h:i<l.length),L (m+1) (i:Int)=match p i l[i] with|some r=>some r|none=>L m ((i+1:Nat):Int)) :
 ∀(k i m:Nat),l.length-i≤k→k<m→i≤l.length→
  (∃(j:Nat) (hj:j<l.length) (r:β),i≤j∧p j l[j]=some r∧(∀(a:Nat) (ha:a<l.length),i≤a→a<j→p a l[a]=none)∧L m (i:Int)=some r)∨
  ((∀(a:Nat) (ha:a<l.length),i≤a→p a l[a]=none)∧L m (i:Int)=some stop)
 | 0,i,m,h1,h2,h3=>by
   obtain⟨m,rfl⟩ :∃k,m=k+1:=⟨m-1,by omega⟩
   obtain rfl:i=l.length:=by omega
   exact .inr ⟨fun a ha hi=>by omega,hend m⟩
 | k + 1,i,m,h1,h2,h3=>by
   obtain⟨m,rfl⟩ :∃k,m=k+1:=⟨m-1,by omega⟩
   by_cases hi:i<l.length
   · cases hp:p i l[i] with
     | some r=>exact .inl ⟨i,hi,r,l09 _,hp,fun a ha h1 h2=>by omega,by rw[hstep m i hi,hp]⟩
     | none =>
       rw[hstep m i hi,hp];rcases scanP L l p stop hend hstep k (i+1) m Om Om Om with ⟨j,hj,r,a1,a2,a3,a4⟩|⟨a1,a2⟩
       · refine .inl ⟨j,hj,r,by omega,a2,fun a ha h1 h2=>?_,a4⟩;rcases Nat.eq_or_lt_of_le h1 with rfl|h1
         · exact hp
         exact a3 a ha h1 h2
       refine .inr ⟨fun a ha h1=>?_,a2⟩;rcases Nat.eq_or_lt_of_le h1 with rfl|h1
       · exact hp
       exact a1 a ha h1
   obtain rfl:i=l.length:=by omega
   exact .inr ⟨fun a ha hi=>by omega,hend m⟩
theorem FU_gt {n:Nat}(h:n≤9223372036854775807):n<FU:=by rw[FU_eq];omega
end Go.Ph.Pl
end
section
namespace Go.Ph.Pf
open Go.Ph.Pl
def Y0n (p0:Ls)(p1:UInt8):Option Int :=
 some (ixB p0 p1)
def Y0S (p0:List Ls)(p1:Ls):Option Ls :=
 if p0.length≤140737488355328∧(jn p1 p0).length≤140737488355328 then some (jn p1 p0) else none
def strconv_Itoa (p0:Int):Option Ls :=
 if -9223372036854775808≤p0∧p0≤9223372036854775807 then some (itoaP p0) else none
def Y0T (p0:Ls)(p1:Int):Option Ls :=
 if 0≤p1∧p1≤9223372036854775807∧p0.length*p1.toNat≤140737488355328 then some (Lib.repeatL p0 p1.toNat) else none
def Y0g (p0:Ls)(p1:Ls):Option (List Ls) :=
 if p0.length<4294967281∧1≤p1.length then some (Lib.split p0 p1) else none
def Y0O (p0:Ls)(p1:Ls):Option Bool :=
 if p0.length<4294967281 then some (Lib.contains p0 p1) else none
def Y0H (p0:Ls)(p1:Ls):Option Int :=
 if p0.length<4294967281 then some (Lib.index p0 p1) else none
def Y16 (p1:Int):Option (List (Ls × Ls)) :=
 if 0<p1∧p1≤1000000 then some [] else none
def Y17 (p0:Ls):Option Ls :=
 app 1 [] p0
def Y1E (p0:Ls)(p1:Ls):Option Int :=
 if p0.length<4294967281∧p1.length=2 then some (Lib.index p0 p1) else none
def Y03 (p0:Int)(p1:Int):Option (Int × Int) :=
 some (p0,p1)
def Y0Z (p0:Ls)(p1:(UInt8→Option Bool)):Nat→Int→Option (Unit ⊕ Bool)
 | 0,_=>none
 | m4+1,n3=>(if n3<(p0.length:Int) then(idx p0 n3).bind fun c6=>(p1 c6).bind fun b7=>(if b7=true then(chk (n3+1)).bind fun n10=>Y0Z p0 p1 m4 n10 else some (.inr false)) else some (.inl ()))
def Y1a (p0:Ls)(p1:(UInt8→Option Bool)):Option Bool :=
 ((Y0Z p0 p1 FU 0:Option (Unit ⊕ Bool))).bind fun o13=>(match o13 with | .inl _=>some true | .inr r12=>some r12)
def fold_name_1 (p0:UInt8):Option Bool :=
 ((if 33≤p0.toNat then(if p0.toNat≤126 then some (!decide (p0=58)) else some false) else some false)).bind fun b3=>some b3
def fold_name (p0:Ls):Option Bool :=
 ((if p0=[] then some false else(if (p0.length:Int)≤(60:Int) then(Y1a p0 fold_name_1).bind fun b6=>some b6 else some false))).bind fun b3=>some b3
def Y0U (p0:Int):Option Bool :=
 ((if (0:Int)≤p0 then some (decide (p0<(55296:Int))) else some false)).bind fun b3=>(if b3=true then some true else((if (57343:Int)<p0 then some (decide (p0≤(1114111:Int))) else some false)).bind fun b9=>(if b9=true then some true else some false))
def Y0C (p0:Ls):Nat→Nat→Option (Unit ⊕ Int)
 | 0,_=>none
 | m13+1,ps12=>(if ps12<p0.length then(if ((Utf.dr (p0.drop ps12)).1:Int)=(65533:Int) then some (.inr (ps12:Int)) else Y0C p0 m13 (ps12+(Utf.dr (p0.drop ps12)).2)) else some (.inl ()))
def Y0D (p0:Ls)(p1:Int)(n22:Int)(n32:Int):Nat→Int→Option Unit
 | 0,_=>none
 | m46+1,n45=>(if n45<((Chs.utf8 p1).length:Int) then(chk (n32-n45)).bind fun n48=>(idx p0 n48).bind fun c49=>(chk (n22-n45)).bind fun n50=>(idx (Chs.utf8 p1) n50).bind fun c51=>(if c49=c51 then(chk (n45+1)).bind fun n53=>Y0D p0 p1 n22 n32 m46 n53 else none) else some ())
def Y0E (p0:Ls)(p1:Int)(n22:Int):Nat→Int→Option (Unit ⊕ Int)
 | 0,_=>none
 | m26+1,n25=>(if n25<(p0.length:Int) then(idx p0 n25).bind fun c28=>(idx (Chs.utf8 p1) n22).bind fun c29=>(((if c28=c29 then some (.inl n25) else(chk (n25+1)).bind fun n34=>(cut p0 n34 (p0.length:Int)).bind fun s35=>(idx (Chs.utf8 p1) n22).bind fun c36=>(Y0n s35 c36).bind fun n37=>(if n37<(0:Int) then some (.inr (-1)) else(chk (n37+1)).bind fun n40=>(chk (n25+n40)).bind fun n41=>some (.inl n41))):Option (Int ⊕ Int))).bind fun o57=>(match o57 with | .inl n32=>(Y0D p0 p1 n22 n32 FU 1).bind fun _=>(chk (n32-n22)).bind fun n55=>some (.inr n55) | .inr r56=>some (.inr r56)) else some (.inl ()))
def Y0I (p0:Ls)(p1:Int):Option Int :=
 ((if (0:Int)≤p1 then some (decide (p1<(128:Int))) else some false)).bind fun b3=>(if b3=true then(Y0n p0 (ub8 p1)).bind fun n7=>some n7 else(if p1=(65533:Int) then((Y0C p0 FU 0:Option (Unit ⊕ Int))).bind fun o18=>(match o18 with | .inl _=>some (-1) | .inr r17=>some r17) else(Y0U p1).bind fun b19=>(if b19=true then(chk (((Chs.utf8 p1).length:Int)-1)).bind fun n22=>((Y0E p0 p1 n22 FU n22:Option (Unit ⊕ Int))).bind fun o60=>(match o60 with | .inl _=>some (-1) | .inr r59=>some r59) else some (-1))))
def Y0f (p0:Int):Option Bool :=
 some (decide ((8:Int)<p0))
def Y0u (p0:Ls):Nat→List Bool→Int→Option (List Bool ⊕ (List Bool × Bool))
 | 0,_,_=>none
 | m6+1,l4,n5=>(if n5<(p0.length:Int) then(idx p0 n5).bind fun c8=>(if 128≤c8.toNat then(chkA 256 l4).bind fun l10=>(chkA 256 l4).bind fun l11=>(chkA 256 l10).bind fun l12=>(chkA 256 l10).bind fun l13=>some (.inr (l13,false)) else(idxA 256 l4 (c8.toNat:Int)).bind fun a14=>(putA 256 l4 (c8.toNat:Int) true).bind fun l15=>(chk (n5+1)).bind fun n16=>Y0u p0 m6 l15 n16) else some (.inl l4))
def Y0w (p0:Ls):Option (List Bool × Bool) :=
 ((Y0u p0 FU (List.replicate 256 false:List Bool) 0:Option (List Bool ⊕ (List Bool × Bool)))).bind fun o23=>(match o23 with | .inl l3=>(chkA 256 l3).bind fun l18=>(chkA 256 l3).bind fun l19=>(chkA 256 l18).bind fun l20=>(chkA 256 l18).bind fun l21=>some (l21,true) | .inr r22=>some r22)
def Y0q (p0:List Bool)(p1:UInt8):Option Bool :=
 (idxA 256 p0 (p1.toNat:Int)).bind fun a1=>some a1
def Y0i (p0:Ls)(n16:List Bool):Nat→Int→Option (Unit ⊕ Int)
 | 0,_=>none
 | m26+1,n25=>(if n25<(p0.length:Int) then(idx p0 n25).bind fun c28=>(Y0q n16 c28).bind fun b29=>(if b29=true then some (.inr n25) else(chk (n25+1)).bind fun n32=>Y0i p0 n16 m26 n32) else some (.inl ()))
def Y0j (p0:Ls)(p1:Ls):Nat→Nat→Option (Unit ⊕ Int)
 | 0,_=>none
 | m40+1,ps39=>(if ps39<p0.length then(Y0I p1 ((Utf.dr (p0.drop ps39)).1:Int)).bind fun n42=>(if (0:Int)≤n42 then some (.inr (ps39:Int)) else Y0j p0 p1 m40 (ps39+(Utf.dr (p0.drop ps39)).2)) else some (.inl ()))
def Y0P (p0:Ls)(p1:Ls):Option Int :=
 (if p1=[] then some (-1) else(if (p1.length:Int)=(1:Int) then(idx p1 0).bind fun c3=>((if (128:Int)≤(IntKind.i32.wrap (c3.toNat:Int)) then some 65533 else some (IntKind.i32.wrap (c3.toNat:Int)))).bind fun n6=>(Y0I p0 n6).bind fun n9=>some n9 else(Y0f (p0.length:Int)).bind fun b11=>(((if b11=true then(Y0w p1).bind fun(n16,b17)=>(chkA 256 (List.replicate 256 false:List Bool)).bind fun l19=>(chkA 256 n16).bind fun l20=>(if b17=true then((Y0i p0 n16 FU 0:Option (Unit ⊕ Int))).bind fun o35=>(match o35 with | .inl _=>some (.inr (-1)) | .inr r34=>some (.inr r34)) else some (.inl ())) else some (.inl ())):Option (Unit ⊕ Int))).bind fun o49=>(match o49 with | .inl _=>((Y0j p0 p1 FU 0:Option (Unit ⊕ Int))).bind fun o47=>(match o47 with | .inl _=>some (-1) | .inr r46=>some r46) | .inr r48=>some r48)))
def Y0x (p0:Ls)(p1:Ls):Option Bool :=
 (Y0P p0 p1).bind fun n1=>some (decide ((0:Int)≤n1))
def fold_ends (p0:Ls):Option Bool :=
 (Y0x p0 [13,10,0]).bind fun b1=>some b1
def Y10 (p0:UInt8):Option Bool :=
 ((if p0=32 then some true else some (decide (p0=9)))).bind fun b3=>some b3
def fold_value (p0:Ls):Option Bool :=
 ((fold_ends p0).bind fun b4=>(if b4=true then some false else(if p0=[] then some true else(idx p0 0).bind fun c7=>(Y10 c7).bind fun b8=>(if b8=true then some false else(chk ((p0.length:Int)-1)).bind fun n10=>(idx p0 n10).bind fun c11=>(Y10 c11).bind fun b12=>some (!b12))))).bind fun b3=>some b3
def fold_point_L1 (p0:Ls):Nat→Int→Int→Option Int
 | 0,_,_=>none
 | m6+1,n4,n5=>(if n5<(p0.length:Int) then((idx p0 n5).bind fun c11=>(Y10 c11).bind fun b12=>(if b12=true then(chk (n5-1)).bind fun n14=>(idx p0 n14).bind fun c15=>(Y10 c15).bind fun b16=>some b16 else some true)).bind fun b10=>(if b10=true then(chk (n5+1)).bind fun n20=>fold_point_L1 p0 m6 n4 n20 else((if (0:Int)<n4 then some (decide ((78:Int)<n5)) else some false)).bind fun b23=>(if b23=true then some n4 else(chk (n5+1)).bind fun n27=>fold_point_L1 p0 m6 n5 n27)) else some n4)
def fold_point (p0:Ls)(p1:Int):Option Int :=
 (fold_point_L1 p0 FU 0 (max p1 1)).bind fun n3=>some n3
def Y0b  : Option (Int × Int) :=
 some (0,0)
def fold_Fold_L1  : Nat→Ls→Int→List Ls→Option (Ls × List Ls)
 | 0,_,_,_=>none
 | m31+1,s26,n27,l29=>(if (78:Int)<(s26.length:Int) then(fold_point s26 n27).bind fun n34=>(if n34=(0:Int) then some (s26,l29) else(cut s26 0 n34).bind fun s37=>(app 16 l29 ([s37]:List Ls)).bind fun l38=>(cut s26 n34 (s26.length:Int)).bind fun s39=>fold_Fold_L1  m31 s39 0 l38) else some (s26,l29))
def fold_Fold_L2 (l41:List Ls):Nat→Int→Int→Int→Option ((Int × Int) ⊕ (List Ls × (Int × Int)))
 | 0,_,_,_=>none
 | m49+1,n46,n47,n48=>(if n48<(l41.length:Int) then(idx l41 n48).bind fun a51=>(if (998:Int)<(a51.length:Int) then(Y03 1 n48).bind fun(n53,n54)=>some (.inr ([],(n53,n54))) else(chk (n48+1)).bind fun n56=>fold_Fold_L2 l41 m49 n46 n47 n56) else some (.inl (n46,n47)))
def fold_Fold (p0:Ls)(p1:Ls):Option (List Ls × (Int × Int)) :=
 (fold_name p0).bind fun b1=>(if b1=true then(if (4000:Int)<(p1.length:Int) then(Y03 1 (-1)).bind fun(n8,n9)=>some ([],(n8,n9)) else(fold_value p1).bind fun b11=>(if b11=true then(cat p0 [58,32]).bind fun s17=>(cat s17 p1).bind fun s18=>(chk ((p0.length:Int)+2)).bind fun n19=>(fold_Fold_L1  FU s18 n19 []).bind fun(s22,l24)=>(app 16 l24 ([s22]:List Ls)).bind fun l41=>((fold_Fold_L2 l41 FU 0 0 0:Option ((Int × Int) ⊕ (List Ls × (Int × Int))))).bind fun o63=>(match o63 with | .inl (n44,n45)=>(Y0b).bind fun(n58,n59)=>some (l41,(n58,n59)) | .inr r62=>some r62) else(Y03 11 (-1)).bind fun(n14,n15)=>some ([],(n14,n15)))) else(Y03 10 (-1)).bind fun(n4,n5)=>some ([],(n4,n5)))
def Y02 (p0:(Int × Int)):Option Bool :=
 some (!decide (p0.1=(0:Int)))
def Y0h (p0:List (Ls × Ls)):Nat→Int→Int→Int→Option ((Int × Int) ⊕ (Int × Int))
 | 0,_,_,_=>none
 | m12+1,n9,n10,n11=>(if n11<(p0.length:Int) then(idx p0 n11).bind fun a14=>(fold_Fold a14.1 a14.2).bind fun(l15,(n16,n17))=>(Y02 (n16,n17)).bind fun b19=>(if b19=true then(Y03 n16 n11).bind fun(n22,n23)=>some (.inr (n22,n23)) else(chk (n11+1)).bind fun n25=>Y0h p0 m12 n9 n10 n25) else some (.inl (n9,n10)))
def Y0J (p0:List (Ls × Ls)):Option (Int × Int) :=
 (if (60:Int)<(p0.length:Int) then(Y03 2 (-1)).bind fun(n2,n3)=>some (n2,n3) else((Y0h p0 FU 0 0 0:Option ((Int × Int) ⊕ (Int × Int)))).bind fun o31=>(match o31 with | .inl (n7,n8)=>(Y0b).bind fun(n27,n28)=>some (n27,n28) | .inr r30=>some r30))
def message_write_L2 (l14:List Ls):Nat→Ls→Int→Option Ls
 | 0,_,_=>none
 | m29+1,l25,n28=>(if n28<(l14.length:Int) then(idx l14 n28).bind fun a31=>(app 1 l25 a31).bind fun l32=>(app 1 l32 ([13,10]:Ls)).bind fun l33=>(chk (n28+1)).bind fun n34=>message_write_L2 l14 m29 l33 n34 else some l25)
def message_write_L1 (p0:(List (Ls × Ls) × Ls)):Nat→Ls→Int→Option Ls
 | 0,_,_=>none
 | m10+1,l7,n9=>(if n9<(p0.1.length:Int) then(idx p0.1 n9).bind fun a13=>(fold_Fold a13.1 a13.2).bind fun(l14,(n15,n16))=>(message_write_L2 l14 FU l7 0).bind fun l21=>(chk (n9+1)).bind fun n36=>message_write_L1 p0 m10 l21 n36 else some l7)
def message_write (p0:(List (Ls × Ls) × Ls)):Option Ls :=
 (message_write_L1 p0 FU [] 0).bind fun l4=>(app 1 l4 ([13,10]:Ls)).bind fun l38=>(app 1 l38 p0.2).bind fun l39=>some l39
def Y0F (p0:Ls):Nat→Int→Int→Option (Unit ⊕ Int)
 | 0,_,_=>none
 | m5+1,n3,n4=>(if n4<(p0.length:Int) then(idx p0 n4).bind fun c7=>((if c7=13 then(chk (n4+1)).bind fun n12=>(if n12<(p0.length:Int) then(chk (n4+1)).bind fun n14=>(idx p0 n14).bind fun c15=>some (decide (c15=10)) else some false) else some false)).bind fun b10=>(if b10=true then(chk (n4+1)).bind fun n18=>(chk (n18+1)).bind fun n19=>Y0F p0 m5 0 n19 else((if c7=13 then some true else some (decide (c7=10)))).bind fun b22=>(if b22=true then some (.inr 11) else(chk (n3+1)).bind fun n26=>(if (998:Int)<n26 then some (.inr 1) else(chk (n4+1)).bind fun n28=>Y0F p0 m5 n26 n28))) else some (.inl ()))
def Y1N (p0:Ls):Option Int :=
 ((Y0F p0 FU 0 0:Option (Unit ⊕ Int))).bind fun o31=>(match o31 with | .inl _=>some 0 | .inr r30=>some r30)
def message_body (p0:Ls):Option (Int × Int) :=
 (Y1N p0).bind fun n1=>(if n1=(11:Int) then(Y03 11 (-5)).bind fun(n4,n5)=>some (n4,n5) else(if n1=(1:Int) then(Y03 1 (-6)).bind fun(n8,n9)=>some (n8,n9) else(Y0b).bind fun(n11,n12)=>some (n11,n12)))
def message_Validate (p0:(List (Ls × Ls) × Ls)):Option (Int × Int) :=
 (Y0J p0.1).bind fun(n1,n2)=>(Y02 (n1,n2)).bind fun b4=>(if b4=true then some (n1,n2) else(message_write (p0.1,p0.2)).bind fun l7=>(if (12000:Int)<(l7.length:Int) then(Y03 1 (-4)).bind fun(n10,n11)=>some (n10,n11) else(message_body p0.2).bind fun(n13,n14)=>some (n13,n14)))
def Y1g (p0:UInt8):Option Bool :=
 ((if 97≤p0.toNat then(if p0.toNat≤122 then some true else(if 65≤p0.toNat then(if p0.toNat≤90 then some true else(if 48≤p0.toNat then some (decide (p0.toNat≤57)) else some false)) else(if 48≤p0.toNat then some (decide (p0.toNat≤57)) else some false))) else(if 65≤p0.toNat then(if p0.toNat≤90 then some true else(if 48≤p0.toNat then some (decide (p0.toNat≤57)) else some false)) else(if 48≤p0.toNat then some (decide (p0.toNat≤57)) else some false)))).bind fun b3=>some b3
def Y1n (p0:UInt8):Option Bool :=
 ((Y1g p0).bind fun b4=>(if b4=true then some true else(if p0=45 then some true else(if p0=95 then some true else some (decide (p0=46)))))).bind fun b3=>some b3
def Y1v (p0:Ls):Option Bool :=
 ((if p0=[] then some false else(if (p0.length:Int)≤(60:Int) then(Y1a p0 Y1n).bind fun b6=>some b6 else some false))).bind fun b3=>some b3
def Y0t (l1:Ls):Nat→Ls→Int→Option Ls
 | 0,_,_=>none
 | m11+1,l8,n10=>(if n10<(l1.length:Int) then(idx l8 n10).bind fun c13=>((if 65≤c13.toNat then some (decide (c13.toNat≤90)) else some false)).bind fun b16=>(if b16=true then(idx l8 n10).bind fun c20=>(put l8 n10 ((c13+(97:UInt8))-(65:UInt8))).bind fun l21=>(chk (n10+1)).bind fun n23=>Y0t l1 m11 l21 n23 else(chk (n10+1)).bind fun n24=>Y0t l1 m11 l8 n24) else some l8)
def Y14 (p0:Ls):Option Ls :=
 (toB p0).bind fun l1=>(Y0t l1 FU l1 0).bind fun l6=>some l6
def Y0z (p0:Ls):Option Bool :=
 ((Y1v p0).bind fun b4=>(if b4=true then(Y14 p0).bind fun s6=>some (decide (s6=p0)) else some false)).bind fun b3=>some b3
def Y04 (p0:List Ls)(p1:(Ls→Option Bool)):Nat→Int→Option (Unit ⊕ Int)
 | 0,_=>none
 | m4+1,n3=>(if n3<(p0.length:Int) then(idx p0 n3).bind fun a6=>(p1 a6).bind fun b7=>(if b7=true then some (.inr n3) else(chk (n3+1)).bind fun n10=>Y04 p0 p1 m4 n10) else some (.inl ()))
def Y0G (p0:List Ls)(p1:(Ls→Option Bool)):Option Int :=
 ((Y04 p0 p1 FU 0:Option (Unit ⊕ Int))).bind fun o13=>(match o13 with | .inl _=>some (-1) | .inr r12=>some r12)
def Y0o (p0:List Ls)(p1:(Ls→Option Bool)):Option Bool :=
 (Y0G p0 p1).bind fun n1=>some (decide ((0:Int)≤n1))
def Y0Q (p0:Ls)(p1:Ls):Option Bool :=
 ((if (p0.length:Int)=(p1.length:Int) then(Y14 p0).bind fun s5=>(Y14 p1).bind fun s7=>some (decide (s5=s7)) else some false)).bind fun b3=>some b3
def sign_named_1 (p0:Ls):Option Bool :=
 ((Y0z p0).bind fun b4=>(if b4=true then(Y0Q p0 [77,97,105,108,45,83,105,103,110,97,116,117,114,101]).bind fun b6=>some b6 else some true)).bind fun b3=>some b3
def sign_named (p0:List Ls):Option Bool :=
 ((if (1:Int)≤(p0.length:Int) then(if (p0.length:Int)≤(20:Int) then(Y0o p0 sign_named_1).bind fun b6=>some (!b6) else some false) else some false)).bind fun b3=>some b3
def Y1e (p0:Ls):Option (Int × Int) :=
 (if (p0.length:Int)<(1:Int) then some (65533,0) else none)
def Y13 (p0:Ls):Nat→Int→Option (Unit ⊕ (Int × Int))
 | 0,_=>none
 | m4+1,n3=>(if n3<(p0.length:Int) then(idx p0 n3).bind fun c6=>(if c6.toNat<128 then some (.inr ((IntKind.i32.wrap (c6.toNat:Int)),1)) else some (.inl ())) else some (.inl ()))
def Y1x (p0:Ls):Option (Int × Int) :=
 ((Y13 p0 FU 0:Option (Unit ⊕ (Int × Int)))).bind fun o13=>(match o13 with | .inl _=>(Y1e p0).bind fun(n9,n10)=>some (n9,n10) | .inr r12=>some r12)
def Y0K {σ:Type}(Y:σ→Ls→Option (σ × Bool)):Nat→Ls→σ→Option ((Ls × σ) ⊕ σ)
 | 0,_,_=>none
 | m12+1,l8,s11=>(if (0:Int)<(l8.length:Int) then(Y1x l8).bind fun(n14,n15)=>(cut l8 0 n15).bind fun l17=>(Y s11 l17).bind fun(s18,b19)=>(if b19=true then(cut l8 n15 (l8.length:Int)).bind fun l22=>Y0K Y m12 l22 s18 else some (.inr s18)) else some (.inl (l8,s11)))
def Y0k {σ:Type}(Y:σ→Ls→Option (σ × Bool))(p1:Ls)(p3:Int):Nat→Ls→σ→Option ((Ls × σ) ⊕ σ)
 | 0,_,_=>none
 | m37+1,l33,s36=>(Y1E l33 p1).bind fun n38=>(if n38<(0:Int) then some (.inl (l33,s36)) else(chk (n38+p3)).bind fun n41=>(cut l33 0 n41).bind fun l42=>(cut l42 0 (l42.length:Int)).bind fun l43=>(Y s36 l43).bind fun(s44,b45)=>(if b45=true then(chk (n38+(p1.length:Int))).bind fun n48=>(cut l33 n48 (l33.length:Int)).bind fun l49=>Y0k Y p1 p3 m37 l49 s44 else some (.inr s44)))
def Y1d (p1:Ls)(p2:Ls)(p3:Int)(σ:Type)(Y:σ→Ls→Option (σ × Bool))(s0:σ):Option σ :=
 (if (p1.length:Int)=(0:Int) then((Y0K Y FU p2 s0:Option ((Ls × σ) ⊕ σ))).bind fun o25=>(match o25 with | .inl (l4,s7)=>some s7 | .inr r24=>some r24) else((Y0k Y p1 p3 FU p2 s0:Option ((Ls × σ) ⊕ σ))).bind fun o56=>(match o56 with | .inl (l28,s32)=>(cut l28 0 (l28.length:Int)).bind fun l51=>(Y s32 l51).bind fun(s52,b53)=>some s52 | .inr r55=>some r55))
def Y0l (p0:Ls)(p1:Ls):Option Bool :=
 ((if (p1.length:Int)≤(p0.length:Int) then(chk ((p0.length:Int)-(p1.length:Int))).bind fun n5=>(cut p0 n5 (p0.length:Int)).bind fun s6=>some (decide (s6=p1)) else some false)).bind fun b3=>some b3
def Y0p (p0:Ls)(p1:Ls):Option Ls :=
 (Y0l p0 p1).bind fun b1=>(if b1=true then(chk ((p0.length:Int)-(p1.length:Int))).bind fun n4=>(cut p0 0 n4).bind fun s5=>some s5 else some p0)
def Y0v (p0:Ls)(p1:Ls):Option Ls :=
 (Y0p p0 p1).bind fun s1=>some s1
def canonical_squeezed_L1 (p0:Ls):Nat→Ls→Int→Option Ls
 | 0,_,_=>none
 | m11+1,l7,n10=>(if n10<(p0.length:Int) then(idx p0 n10).bind fun c14=>(Y10 c14).bind fun b15=>(((if b15=true then((if (0:Int)<(l7.length:Int) then(chk ((l7.length:Int)-1)).bind fun n25=>(idx l7 n25).bind fun c26=>some (decide (c26=32)) else some false)).bind fun b23=>(if b23=true then some (.inr ()) else some (.inl 32)) else some (.inl c14)):Option (UInt8 ⊕ Unit))).bind fun o34=>(match o34 with | .inl c19=>(app 1 l7 ([c19]:Ls)).bind fun l30=>(chk (n10+1)).bind fun n31=>canonical_squeezed_L1 p0 m11 l30 n31 | .inr _=>(chk (n10+1)).bind fun n33=>canonical_squeezed_L1 p0 m11 l7 n33) else some l7)
def canonical_squeezed (p0:Ls):Option Ls :=
 (canonical_squeezed_L1 p0 FU [] 0).bind fun l4=>(Y0v l4 [32]).bind fun s37=>some s37
def canonical_body_Y5  (s:(Ls × Int)) (x9:Ls):Option (Ls × Int) :=
 match s with
 |(l2,n4)=>(canonical_squeezed x9).bind fun s11=>(if s11=[] then(chk (n4+1)).bind fun n14=>some (l2,n14) else(Y0T [13,10] n4).bind fun s15=>(cat s15 s11).bind fun s17=>(cat s17 [13,10]).bind fun s18=>(app 1 l2 s18).bind fun l19=>some (l19,0))
def canonical_body (p0:Ls):Option Ls :=
 (Y1d ([13,10]:Ls) p0 0 (Ls × Int) (stepY goOn (canonical_body_Y5)) ([],0)).bind fun(l2,n4)=>some l2
def canonical_Body (p0:Ls):Option (Ls × (Int × Int)) :=
 (if (12000:Int)<(p0.length:Int) then(Y03 1 (-1)).bind fun(n2,n3)=>some ([],(n2,n3)) else(canonical_body p0).bind fun l5=>(Y0b).bind fun(n7,n8)=>some (l5,(n7,n8)))
def canonical_field (p0:(Ls × Ls)):Option Ls :=
 (Y14 p0.1).bind fun s1=>(cat s1 [58]).bind fun s3=>(canonical_squeezed p0.2).bind fun s4=>(cat s3 s4).bind fun s6=>(cat s6 [13,10]).bind fun s7=>some s7
def canonical_Fields_L2 (p0:List (Ls × Ls))(a29:Ls):Nat→List Bool→Ls→Int→Option (List Bool × Ls)
 | 0,_,_,_=>none
 | m42+1,l37,l39,n41=>(if (0:Int)≤n41 then((idx l37 n41).bind fun a47=>(if a47=true then some false else(idx p0 n41).bind fun a48=>(Y0Q a48.1 a29).bind fun b49=>some b49)).bind fun b46=>(if b46=true then(idx l37 n41).bind fun a53=>(put l37 n41 true).bind fun l54=>(idx p0 n41).bind fun a55=>(canonical_field (a55.1,a55.2)).bind fun s56=>(app 1 l39 s56).bind fun l58=>some (l54,l58) else(chk (n41-1)).bind fun n59=>canonical_Fields_L2 p0 a29 m42 l37 l39 n59) else some (l37,l39))
def canonical_Fields_L1 (p0:List (Ls × Ls))(p1:List Ls):Nat→List Bool→Ls→Int→Option Ls
 | 0,_,_,_=>none
 | m26+1,l20,l22,n25=>(if n25<(p1.length:Int) then(idx p1 n25).bind fun a29=>(chk ((p0.length:Int)-1)).bind fun n30=>(canonical_Fields_L2 p0 a29 FU l20 l22 n30).bind fun(l33,l35)=>(chk (n25+1)).bind fun n61=>canonical_Fields_L1 p0 p1 m26 l33 l35 n61 else some l22)
def canonical_Fields (p0:List (Ls × Ls))(p1:List Ls):Option (Ls × (Int × Int)) :=
 (Y0J p0).bind fun(n1,n2)=>(Y02 (n1,n2)).bind fun b4=>(if b4=true then some ([],(n1,n2)) else(if (300:Int)<(p1.length:Int) then(Y03 2 (-2)).bind fun(n9,n10)=>some ([],(n9,n10)) else(mkS 1 (p0.length:Int) (p0.length:Int) (false:Bool)).bind fun l13=>(canonical_Fields_L1 p0 p1 FU l13 [] 0).bind fun l18=>(Y0b).bind fun(n63,n64)=>some (l18,(n63,n64))))
def sign_Sum_L1 (p1:Ls):Nat→Int→Int→Option Int
 | 0,_,_=>none
 | m6+1,n4,n5=>(if n5<(p1.length:Int) then(idx p1 n5).bind fun c8=>(chk (n5+1)).bind fun n9=>sign_Sum_L1 p1 m6 (xorU (IntKind.u64.wrap ((xorU n4 (IntKind.u64.wrap (c8.toNat:Int)))*1099511628211)) (Int.fdiv (IntKind.u64.wrap ((xorU n4 (IntKind.u64.wrap (c8.toNat:Int)))*1099511628211)) (2 ^ min (Int.toNat 29) (IntKind.bits .u64)))) n9 else some n4)
def sign_Sum (p0:Int)(p1:Ls):Option Int :=
 (sign_Sum_L1 p1 FU (xorU p0 (11400714819323198485:Int)) 0).bind fun n3=>some (xorU (IntKind.u64.wrap ((xorU n3 (IntKind.u64.wrap (p1.length:Int)))*13787848793156543929)) (Int.fdiv (IntKind.u64.wrap ((xorU n3 (IntKind.u64.wrap (p1.length:Int)))*13787848793156543929)) (2 ^ min (Int.toNat 31) (IntKind.bits .u64))))
def sign_Hex_L1 (p0:Int)(l1:Ls):Nat→Ls→Int→Option Ls
 | 0,_,_=>none
 | m8+1,l6,n7=>(if n7<(l1.length:Int) then(chk ((4:Int)*n7)).bind fun n10=>(chk ((60:Int)-n10)).bind fun n11=>(shrU p0 n11).bind fun n12=>(idx [48,49,50,51,52,53,54,55,56,57,97,98,99,100,101,102] (andU n12 (15:Int))).bind fun c13=>(idx l6 n7).bind fun c14=>(put l6 n7 c13).bind fun l15=>(chk (n7+1)).bind fun n16=>sign_Hex_L1 p0 l1 m8 l15 n16 else some l6)
def sign_Hex (p0:Int):Option Ls :=
 (mkS 1 16 16 (0:UInt8)).bind fun l1=>(sign_Hex_L1 p0 l1 FU l1 0).bind fun l5=>some l5
def sign_value (p0:(List (Ls × Ls) × Ls))(p1:Ls)(p2:Int)(p3:List Ls):Option (Ls × Bool) :=
 (canonical_Body p0.2).bind fun(l1,(n2,n3))=>(canonical_Fields p0.1 p3).bind fun(l5,(n6,n7))=>((Y02 (n2,n3)).bind fun b13=>(if b13=true then some true else(Y02 (n6,n7)).bind fun b15=>some b15)).bind fun b12=>(if b12=true then some ([],false) else(cat [100,61] p1).bind fun s19=>(cat s19 [59,32,104,61]).bind fun s20=>(Y0S p3 [58]).bind fun s21=>(cat s20 s21).bind fun s23=>(cat s23 [59,32,98,61]).bind fun s24=>(sign_Sum p2 l1).bind fun n25=>(sign_Hex n25).bind fun s27=>(cat s24 s27).bind fun s29=>(cat s29 [59,32,115,61]).bind fun s30=>(app 1 l5 s30).bind fun l31=>(sign_Sum p2 l31).bind fun n33=>(sign_Hex n33).bind fun s35=>(cat s30 s35).bind fun s37=>some (s37,true))
def Y08 (p0:List (List (Ls × Ls))):Nat→Int→Int→Option Int
 | 0,_,_=>none
 | m6+1,n4,n5=>(if n5<(p0.length:Int) then(idx p0 n5).bind fun a8=>(chk (n4+(a8.length:Int))).bind fun n9=>(if n9<(0:Int) then none else(chk (n5+1)).bind fun n11=>Y08 p0 m6 n9 n11) else some n4)
def Y09 (p0:List (List (Ls × Ls))):Nat→List (Ls × Ls)→Int→Option (List (Ls × Ls))
 | 0,_,_=>none
 | m25+1,l22,n24=>(if n24<(p0.length:Int) then(idx p0 n24).bind fun a27=>(app 32 l22 a27).bind fun l28=>(chk (n24+1)).bind fun n29=>Y09 p0 m25 l28 n29 else some l22)
def Y0L (p0:List (List (Ls × Ls))):Option (List (Ls × Ls)) :=
 (Y08 p0 FU 0 0).bind fun n3=>(Y16 n3).bind fun l13=>(Y09 p0 FU l13 0).bind fun l19=>some l19
def trace_Front (p0:(List (Ls × Ls) × Ls))(p1:Ls)(p2:Ls):Option (List (Ls × Ls) × Ls) :=
 (Y0L ([([(p1,p2)]:List (Ls × Ls)),p0.1]:List (List (Ls × Ls)))).bind fun l3=>(Y17 p0.2).bind fun l5=>some (l3,l5)
def sign_Sign (p0:(List (Ls × Ls) × Ls))(p1:Ls)(p2:Int)(p3:List Ls):Option ((List (Ls × Ls) × Ls) × (Int × Int)) :=
 (message_Validate (p0.1,p0.2)).bind fun(n1,n2)=>(Y02 (n1,n2)).bind fun b4=>(if b4=true then some (([],[]),(n1,n2)) else(Y0z p1).bind fun b7=>(if b7=true then(sign_named p3).bind fun b13=>(if b13=true then(sign_value (p0.1,p0.2) p1 p2 p3).bind fun(s19,b20)=>(if b20=true then(trace_Front (p0.1,p0.2) [77,97,105,108,45,83,105,103,110,97,116,117,114,101] s19).bind fun(l26,l27)=>(message_Validate (l26,l27)).bind fun(n29,n30)=>(Y02 (n29,n30)).bind fun b32=>(if b32=true then(Y03 n29 (-23)).bind fun(n35,n36)=>some (([],[]),(n35,n36)) else(Y0b).bind fun(n38,n39)=>some ((l26,l27),(n38,n39))) else(Y03 17 (-22)).bind fun(n23,n24)=>some (([],[]),(n23,n24))) else(Y03 10 (-21)).bind fun(n16,n17)=>some (([],[]),(n16,n17))) else(Y03 10 (-20)).bind fun(n10,n11)=>some (([],[]),(n10,n11))))
def posthouseref5_Has_L1 (p0:List Ls)(p1:Ls):Nat→Int→Option (Unit ⊕ Bool)
 | 0,_=>none
 | m4+1,n3=>(if n3<(p0.length:Int) then(idx p0 n3).bind fun a6=>(if a6=p1 then some (.inr true) else(chk (n3+1)).bind fun n8=>posthouseref5_Has_L1 p0 p1 m4 n8) else some (.inl ()))
def posthouseref5_Has (p0:List Ls)(p1:Ls):Option Bool :=
 ((posthouseref5_Has_L1 p0 p1 FU 0:Option (Unit ⊕ Bool))).bind fun o11=>(match o11 with | .inl _=>some false | .inr r10=>some r10)
def posthouseref5_In (p0:Int)(p1:Int)(p2:Int):Option Bool :=
 ((if p1≤p0 then some (decide (p0≤p2)) else some false)).bind fun b3=>some b3
def posthouseref5_Low (p0:UInt8):Option UInt8 :=
 (posthouseref5_In (p0.toNat:Int) 65 90).bind fun b1=>(if b1=true then some (p0+(32:UInt8)) else some p0)
def posthouseref5_Alike_L1 (p0:Ls)(p1:Ls):Nat→Int→Option (Unit ⊕ Bool)
 | 0,_=>none
 | m5+1,n4=>(if n4<(p0.length:Int) then(idx p0 n4).bind fun c7=>(posthouseref5_Low c7).bind fun c8=>(idx p1 n4).bind fun c10=>(posthouseref5_Low c10).bind fun c11=>(if c8=c11 then(chk (n4+1)).bind fun n14=>posthouseref5_Alike_L1 p0 p1 m5 n14 else some (.inr false)) else some (.inl ()))
def posthouseref5_Alike (p0:Ls)(p1:Ls):Option Bool :=
 (if (p0.length:Int)=(p1.length:Int) then((posthouseref5_Alike_L1 p0 p1 FU 0:Option (Unit ⊕ Bool))).bind fun o17=>(match o17 with | .inl _=>some true | .inr r16=>some r16) else some false)
def posthouseref5_Values_L1 (p0:(List (Ls × Ls) × Ls))(p1:Ls):Nat→List Ls→Int→Option (List Ls)
 | 0,_,_=>none
 | m10+1,l7,n9=>(if n9<(p0.1.length:Int) then(idx p0.1 n9).bind fun a13=>(posthouseref5_Alike a13.1 p1).bind fun b14=>(if b14=true then(idx p0.1 n9).bind fun a17=>(app 16 l7 ([a17.2]:List Ls)).bind fun l18=>(chk (n9+1)).bind fun n19=>posthouseref5_Values_L1 p0 p1 m10 l18 n19 else(chk (n9+1)).bind fun n20=>posthouseref5_Values_L1 p0 p1 m10 l7 n20) else some l7)
def posthouseref5_Values (p0:(List (Ls × Ls) × Ls))(p1:Ls):Option (List Ls) :=
 (posthouseref5_Values_L1 p0 p1 FU [] 0).bind fun l4=>some l4
def rules_parser_quoted_L1  : Nat→Ls→Int→Int→Int→Ls→Bool→Int→Int→Int→Int→Int→Ls→Int→Int→Ls→Ls→Int→Option ((Int × Int × Ls × Int × Int × Ls × Ls × Int × Int × Int × Ls × Bool × Int × Int × Int) ⊕ ((Int × Int × Ls) × (Ls × Int × Int × Int × Ls × Bool × Int × Int × Int)))
 | 0,_,_,_,_,_,_,_,_,_,_,_,_,_,_,_,_,_=>none
 | m39+1,s19,n20,n21,n22,s23,b24,n25,n26,n27,n28,n29,s30,n31,n32,s33,l35,n38=>(if n38<(s19.length:Int) then(idx s19 n38).bind fun c42=>(if c42=34 then(chk (n38+1)).bind fun n44=>some (.inr ((n31,n32,l35),(s19,n44,n21,n22,s23,b24,n25,n26,n27))) else(if c42=92 then none else(app 1 l35 ([c42]:Ls)).bind fun l47=>(chk (n38+1)).bind fun n48=>rules_parser_quoted_L1  m39 s19 n20 n21 n22 s23 b24 n25 n26 n27 n28 n29 s30 n31 n32 s33 l47 n48)) else some (.inl (n28,n29,s30,n31,n32,s33,s19,n20,n21,n22,s23,b24,n25,n26,n27)))
def rules_parser_quoted (p0:(Ls × Int × Int × Int × Ls × Bool × Int × Int × Int)):Option ((Int × Int × Ls) × (Ls × Int × Int × Int × Ls × Bool × Int × Int × Int)) :=
 (chk (p0.2.1+1)).bind fun n1=>((rules_parser_quoted_L1  FU p0.1 p0.2.1 p0.2.2.1 p0.2.2.2.1 p0.2.2.2.2.1 p0.2.2.2.2.2.1 p0.2.2.2.2.2.2.1 p0.2.2.2.2.2.2.2.1 p0.2.2.2.2.2.2.2.2 0 0 [] 1 p0.2.1 [] [] n1:Option ((Int × Int × Ls × Int × Int × Ls × Ls × Int × Int × Int × Ls × Bool × Int × Int × Int) ⊕ ((Int × Int × Ls) × (Ls × Int × Int × Int × Ls × Bool × Int × Int × Int))))).bind fun o51=>(match o51 with | .inl (n4,n5,s6,n7,n8,s9,s10,n11,n12,n13,s14,b15,n16,n17,n18)=>some ((5,n8,s9),(s10,n11,n12,n13,s14,b15,n16,n17,n18)) | .inr r50=>some r50)
def rules_parser_advance_1 (p0:UInt8):Option Bool :=
 ((if 97≤p0.toNat then some (decide (p0.toNat≤122)) else some false)).bind fun b3=>some b3
def rules_parser_advance_2 (p0:UInt8):Option Bool :=
 ((if 48≤p0.toNat then some (decide (p0.toNat≤57)) else some false)).bind fun b3=>some b3
def rules_parser_advance_L1  : Nat→Ls→Int→Int→Int→Ls→Bool→Int→Int→Int→Option (Ls × Int × Int × Int × Ls × Bool × Int × Int × Int)
 | 0,_,_,_,_,_,_,_,_,_=>none
 | m21+1,s12,n13,n14,n15,s16,b17,n18,n19,n20=>((if n13<(s12.length:Int) then(idx s12 n13).bind fun c26=>(Y0n [32,9,13,10] c26).bind fun n27=>some (decide ((0:Int)≤n27)) else some false)).bind fun b24=>(if b24=true then(chk (n13+1)).bind fun n31=>rules_parser_advance_L1  m21 s12 n31 n14 n15 s16 b17 n18 n19 n20 else some (s12,n13,n14,n15,s16,b17,n18,n19,n20))
def rules_parser_advance_L2 (s3:Ls)(n59:Int):Nat→Int→Option Int
 | 0,_=>none
 | m66+1,n65=>((if n65<(s3.length:Int) then(idx s3 n65).bind fun c71=>(rules_parser_advance_2 c71).bind fun b72=>(if b72=true then some true else(if n59=(2:Int) then(idx s3 n65).bind fun c75=>(rules_parser_advance_1 c75).bind fun b76=>some b76 else some false)) else some false)).bind fun b69=>(if b69=true then(chk (n65+1)).bind fun n80=>rules_parser_advance_L2 s3 n59 m66 n80 else some n65)
def rules_parser_advance (p0:(Ls × Int × Int × Int × Ls × Bool × Int × Int × Int)):Option (Ls × Int × Int × Int × Ls × Bool × Int × Int × Int) :=
 (rules_parser_advance_L1  FU p0.1 p0.2.1 p0.2.2.1 p0.2.2.2.1 p0.2.2.2.2.1 p0.2.2.2.2.2.1 p0.2.2.2.2.2.2.1 p0.2.2.2.2.2.2.2.1 p0.2.2.2.2.2.2.2.2).bind fun(s3,n4,n5,n6,s7,b8,n9,n10,n11)=>(if n4=(s3.length:Int) then some (s3,n4,0,n4,[],b8,n9,n10,n11) else(idx s3 n4).bind fun c34=>(if c34=34 then(rules_parser_quoted (s3,n4,n5,n6,s7,b8,n9,n10,n11)).bind fun((n36,n37,s38),o39)=>some (o39.1,o39.2.1,n36,n37,s38,o39.2.2.2.2.2.1,o39.2.2.2.2.2.2.1,o39.2.2.2.2.2.2.2.1,o39.2.2.2.2.2.2.2.2) else(chk (n4+1)).bind fun n41=>((rules_parser_advance_1 c34).bind fun b45=>(if b45=true then some true else(rules_parser_advance_2 c34).bind fun b47=>some b47)).bind fun b44=>((if b44=true then(rules_parser_advance_1 c34).bind fun b55=>((if b55=true then some 2 else some 3)).bind fun n59=>(rules_parser_advance_L2 s3 n59 FU n41).bind fun n64=>some (n64,n59) else some (n41,4))).bind fun(n52,n53)=>(cut s3 n4 n52).bind fun s83=>some (s3,n52,n53,n4,s83,b8,n9,n10,n11)))
def rules_parser_is (p0:(Ls × Int × Int × Int × Ls × Bool × Int × Int × Int))(p1:Int)(p2:Ls):Option (Bool × (Ls × Int × Int × Int × Ls × Bool × Int × Int × Int)) :=
 ((if p0.2.2.2.2.2.1=true then some true else(if p0.2.2.1=p1 then some (!decide (p0.2.2.2.2.1=p2)) else some true))).bind fun b3=>(if b3=true then some (false,(p0.1,p0.2.1,p0.2.2.1,p0.2.2.2.1,p0.2.2.2.2.1,p0.2.2.2.2.2.1,p0.2.2.2.2.2.2.1,p0.2.2.2.2.2.2.2.1,p0.2.2.2.2.2.2.2.2)) else(rules_parser_advance (p0.1,p0.2.1,p0.2.2.1,p0.2.2.2.1,p0.2.2.2.2.1,p0.2.2.2.2.2.1,p0.2.2.2.2.2.2.1,p0.2.2.2.2.2.2.2.1,p0.2.2.2.2.2.2.2.2)).bind fun o8=>some (true,(o8.1,o8.2.1,o8.2.2.1,o8.2.2.2.1,o8.2.2.2.2.1,o8.2.2.2.2.2.1,o8.2.2.2.2.2.2.1,o8.2.2.2.2.2.2.2.1,o8.2.2.2.2.2.2.2.2)))
def rules_parser_take (p0:(Ls × Int × Int × Int × Ls × Bool × Int × Int × Int))(p1:Int):Option (Ls × (Ls × Int × Int × Int × Ls × Bool × Int × Int × Int)) :=
 ((if p0.2.2.2.2.2.1=true then some true else some (!decide (p0.2.2.1=p1)))).bind fun b3=>(if b3=true then some ([],(p0.1,p0.2.1,p0.2.2.1,p0.2.2.2.1,p0.2.2.2.2.1,true,p0.2.2.2.2.2.2.1,p0.2.2.2.2.2.2.2.1,p0.2.2.2.2.2.2.2.2)) else(rules_parser_advance (p0.1,p0.2.1,p0.2.2.1,p0.2.2.2.1,p0.2.2.2.2.1,p0.2.2.2.2.2.1,p0.2.2.2.2.2.2.1,p0.2.2.2.2.2.2.2.1,p0.2.2.2.2.2.2.2.2)).bind fun o7=>some (p0.2.2.2.2.1,(o7.1,o7.2.1,o7.2.2.1,o7.2.2.2.1,o7.2.2.2.2.1,o7.2.2.2.2.2.1,o7.2.2.2.2.2.2.1,o7.2.2.2.2.2.2.2.1,o7.2.2.2.2.2.2.2.2)))
def rules_parser_test (p0:(Ls × Int × Int × Int × Ls × Bool × Int × Int × Int)):Option ((Int × Unit × Ls × Int × Ls × Int) × (Ls × Int × Int × Int × Ls × Bool × Int × Int × Int)) :=
 (chk (p0.2.2.2.2.2.2.2.2+1)).bind fun n1=>(if (8:Int)<n1 then none else(rules_parser_is (p0.1,p0.2.1,p0.2.2.1,p0.2.2.2.1,p0.2.2.2.2.1,p0.2.2.2.2.2.1,p0.2.2.2.2.2.2.1,p0.2.2.2.2.2.2.2.1,n1) 2 [116,114,117,101]).bind fun(b4,o5)=>(if b4=true then none else(rules_parser_is (o5.1,o5.2.1,o5.2.2.1,o5.2.2.2.1,o5.2.2.2.2.1,o5.2.2.2.2.2.1,o5.2.2.2.2.2.2.1,o5.2.2.2.2.2.2.2.1,o5.2.2.2.2.2.2.2.2) 2 [110,111,116]).bind fun(b8,o9)=>(if b8=true then none else(rules_parser_is (o9.1,o9.2.1,o9.2.2.1,o9.2.2.2.1,o9.2.2.2.2.1,o9.2.2.2.2.2.1,o9.2.2.2.2.2.2.1,o9.2.2.2.2.2.2.2.1,o9.2.2.2.2.2.2.2.2) 2 [97,108,108]).bind fun(b12,o13)=>(if b12=true then none else(rules_parser_is (o13.1,o13.2.1,o13.2.2.1,o13.2.2.2.1,o13.2.2.2.2.1,o13.2.2.2.2.2.1,o13.2.2.2.2.2.2.1,o13.2.2.2.2.2.2.2.1,o13.2.2.2.2.2.2.2.2) 2 [97,110,121]).bind fun(b16,o17)=>(if b16=true then none else(rules_parser_is (o17.1,o17.2.1,o17.2.2.1,o17.2.2.2.1,o17.2.2.2.2.1,o17.2.2.2.2.2.1,o17.2.2.2.2.2.2.1,o17.2.2.2.2.2.2.2.1,o17.2.2.2.2.2.2.2.2) 2 [104,101,97,100,101,114]).bind fun(b20,o21)=>(if b20=true then none else(rules_parser_is (o21.1,o21.2.1,o21.2.2.1,o21.2.2.2.1,o21.2.2.2.2.1,o21.2.2.2.2.2.1,o21.2.2.2.2.2.2.1,o21.2.2.2.2.2.2.2.1,o21.2.2.2.2.2.2.2.2) 2 [102,114,111,109]).bind fun(b24,o25)=>(if b24=true then none else(rules_parser_is (o25.1,o25.2.1,o25.2.2.1,o25.2.2.2.1,o25.2.2.2.2.1,o25.2.2.2.2.2.1,o25.2.2.2.2.2.2.1,o25.2.2.2.2.2.2.2.1,o25.2.2.2.2.2.2.2.2) 2 [116,111]).bind fun(b28,o29)=>(if b28=true then none else(rules_parser_is (o29.1,o29.2.1,o29.2.2.1,o29.2.2.2.1,o29.2.2.2.2.1,o29.2.2.2.2.2.1,o29.2.2.2.2.2.2.1,o29.2.2.2.2.2.2.2.1,o29.2.2.2.2.2.2.2.2) 2 [115,105,122,101]).bind fun(b32,o33)=>(if b32=true then none else(rules_parser_is (o33.1,o33.2.1,o33.2.2.1,o33.2.2.2.1,o33.2.2.2.2.1,o33.2.2.2.2.2.1,o33.2.2.2.2.2.2.1,o33.2.2.2.2.2.2.2.1,o33.2.2.2.2.2.2.2.2) 2 [101,120,105,115,116,115]).bind fun(b36,o37)=>(if b36=true then(rules_parser_take (o37.1,o37.2.1,o37.2.2.1,o37.2.2.2.1,o37.2.2.2.2.1,o37.2.2.2.2.2.1,o37.2.2.2.2.2.2.1,o37.2.2.2.2.2.2.2.1,o37.2.2.2.2.2.2.2.2) 1).bind fun(s40,o41)=>(chk (o41.2.2.2.2.2.2.2.2-1)).bind fun n43=>some ((9,(),s40,0,[],0),(o41.1,o41.2.1,o41.2.2.1,o41.2.2.2.1,o41.2.2.2.2.1,o41.2.2.2.2.2.1,o41.2.2.2.2.2.2.1,o41.2.2.2.2.2.2.2.1,n43)) else none))))))))))
def rules_parser_need (p0:(Ls × Int × Int × Int × Ls × Bool × Int × Int × Int))(p1:Ls):Option (Ls × Int × Int × Int × Ls × Bool × Int × Int × Int) :=
 (rules_parser_is (p0.1,p0.2.1,p0.2.2.1,p0.2.2.2.1,p0.2.2.2.2.1,p0.2.2.2.2.2.1,p0.2.2.2.2.2.2.1,p0.2.2.2.2.2.2.2.1,p0.2.2.2.2.2.2.2.2) 4 p1).bind fun(b1,o2)=>(if b1=true then some (o2.1,o2.2.1,o2.2.2.1,o2.2.2.2.1,o2.2.2.2.2.1,o2.2.2.2.2.2.1,o2.2.2.2.2.2.2.1,o2.2.2.2.2.2.2.2.1,o2.2.2.2.2.2.2.2.2) else some (o2.1,o2.2.1,o2.2.2.1,o2.2.2.2.1,o2.2.2.2.2.1,true,o2.2.2.2.2.2.2.1,o2.2.2.2.2.2.2.2.1,o2.2.2.2.2.2.2.2.2))
def rules_actions  : Option (List Ls) :=
 (chkA 7 (List.replicate 7 []:List Ls)).bind fun l1=>(chkA 7 ([[107,101,101,112],[102,105,108,101],[100,105,115,99,97,114,100],[114,101,100,105,114,101,99,116],[114,101,106,101,99,116],[102,108,97,103],[114,101,112,108,121]]:List Ls)).bind fun l2=>(chkA 7 ([[107,101,101,112],[102,105,108,101],[100,105,115,99,97,114,100],[114,101,100,105,114,101,99,116],[114,101,106,101,99,116],[102,108,97,103],[114,101,112,108,121]]:List Ls)).bind fun l3=>some l3
def rules_texted (p0:Int):Option Bool :=
 ((if p0=(2:Int) then some true else(if p0=(4:Int) then some true else(if p0=(5:Int) then some true else some (decide (p0=(7:Int))))))).bind fun b3=>some b3
def rules_parser_action_L1 (n1:List Ls):Nat→Ls→Int→Int→Int→Ls→Bool→Int→Int→Int→Int→Int→Unit→Ls→Int→Ls→Int→Unit→Unit→Int→Ls→Ls→Int→Int→Int→Unit→Ls→Int→Ls→Int→Unit→Unit→Int→Ls→Ls→Int→Int→Option ((Ls × Int × Int × Int × Ls × Bool × Int × Int × Int × Int × Int × Unit × Ls × Int × Ls × Int × Unit × Unit × Int × Ls × Ls × Int × Int × Int × Unit × Ls × Int × Ls × Int × Unit × Unit × Int × Ls × Ls × Int) ⊕ ((Int × Int × Unit × Ls × Int × Ls × Int × Unit × Unit × Int × Ls × Ls × Int) × (Ls × Int × Int × Int × Ls × Bool × Int × Int × Int)))
 | 0,_,_,_,_,_,_,_,_,_,_,_,_,_,_,_,_,_,_,_,_,_,_,_,_,_,_,_,_,_,_,_,_,_,_,_,_=>none
 | m76+1,s40,n41,n42,n43,s44,b45,n46,n47,n48,n49,n50,n51,s52,n53,s54,n55,n56,n57,n58,s59,s60,n61,n62,n63,n64,s65,n66,s67,n68,n69,n70,n71,s72,s73,n74,n75=>(if n75<(7:Int) then(idxA 7 n1 n75).bind fun a78=>(rules_parser_is (s40,n41,n42,n43,s44,b45,n46,n47,n48) 2 a78).bind fun(b79,o80)=>(if b79=true then(chk (n75+1)).bind fun n84=>(if n84=(6:Int) then none else(rules_texted n84).bind fun b86=>((if b86=true then(rules_parser_take (o80.1,o80.2.1,o80.2.2.1,o80.2.2.2.1,o80.2.2.2.2.1,o80.2.2.2.2.2.1,o80.2.2.2.2.2.2.1,o80.2.2.2.2.2.2.2.1,o80.2.2.2.2.2.2.2.2) 1).bind fun(s113,o114)=>some (o114.1,o114.2.1,o114.2.2.1,o114.2.2.2.1,o114.2.2.2.2.1,o114.2.2.2.2.2.1,o114.2.2.2.2.2.2.1,o114.2.2.2.2.2.2.2.1,o114.2.2.2.2.2.2.2.2,n62,n63,(),s65,n66,s67,n68,(),(),n84,s72,s113,n74) else some (o80.1,o80.2.1,o80.2.2.1,o80.2.2.2.1,o80.2.2.2.2.1,o80.2.2.2.2.2.1,o80.2.2.2.2.2.2.1,o80.2.2.2.2.2.2.2.1,o80.2.2.2.2.2.2.2.2,n62,n63,(),s65,n66,s67,n68,(),(),n84,s72,s73,n74))).bind fun(s90,n91,n92,n93,s94,b95,n96,n97,n98,n99,n100,n101,s102,n103,s104,n105,n106,n107,n108,s109,s110,n111)=>(rules_parser_need (s90,n91,n92,n93,s94,b95,n96,n97,n98) [59]).bind fun o117=>some (.inr ((n99,n100,(),s102,n103,s104,n105,(),(),n108,s109,s110,n111),(o117.1,o117.2.1,o117.2.2.1,o117.2.2.2.1,o117.2.2.2.2.1,o117.2.2.2.2.2.1,o117.2.2.2.2.2.2.1,o117.2.2.2.2.2.2.2.1,o117.2.2.2.2.2.2.2.2)))) else(chk (n75+1)).bind fun n83=>rules_parser_action_L1 n1 m76 o80.1 o80.2.1 o80.2.2.1 o80.2.2.2.1 o80.2.2.2.2.1 o80.2.2.2.2.2.1 o80.2.2.2.2.2.2.1 o80.2.2.2.2.2.2.2.1 o80.2.2.2.2.2.2.2.2 n49 n50 () s52 n53 s54 n55 () () n58 s59 s60 n61 n62 n63 () s65 n66 s67 n68 () () n71 s72 s73 n74 n83) else some (.inl (s40,n41,n42,n43,s44,b45,n46,n47,n48,n49,n50,(),s52,n53,s54,n55,(),(),n58,s59,s60,n61,n62,n63,(),s65,n66,s67,n68,(),(),n71,s72,s73,n74)))
def rules_parser_action (p0:(Ls × Int × Int × Int × Ls × Bool × Int × Int × Int)):Option ((Int × Int × Unit × Ls × Int × Ls × Int × Unit × Unit × Int × Ls × Ls × Int) × (Ls × Int × Int × Int × Ls × Bool × Int × Int × Int)) :=
 (rules_actions).bind fun n1=>((rules_parser_action_L1 n1 FU p0.1 p0.2.1 p0.2.2.1 p0.2.2.2.1 p0.2.2.2.2.1 p0.2.2.2.2.2.1 p0.2.2.2.2.2.2.1 p0.2.2.2.2.2.2.2.1 p0.2.2.2.2.2.2.2.2 0 0 () [] 0 [] 0 () () 0 [] [] 0 2 0 () [] 0 [] 0 () () 0 [] [] 0 0:Option ((Ls × Int × Int × Int × Ls × Bool × Int × Int × Int × Int × Int × Unit × Ls × Int × Ls × Int × Unit × Unit × Int × Ls × Ls × Int × Int × Int × Unit × Ls × Int × Ls × Int × Unit × Unit × Int × Ls × Ls × Int) ⊕ ((Int × Int × Unit × Ls × Int × Ls × Int × Unit × Unit × Int × Ls × Ls × Int) × (Ls × Int × Int × Int × Ls × Bool × Int × Int × Int))))).bind fun o121=>(match o121 with | .inl (s5,n6,n7,n8,s9,b10,n11,n12,n13,n14,n15,n16,s17,n18,s19,n20,n21,n22,n23,s24,s25,n26,n27,n28,n29,s30,n31,s32,n33,n34,n35,n36,s37,s38,n39)=>some ((n27,n28,(),s30,n31,s32,n33,(),(),n36,s37,s38,n39),(s5,n6,n7,n8,s9,true,n11,n12,n13)) | .inr r120=>some r120)
def rules_parser_rule_0 (p0:(Ls × Int × Int × Int × Ls × Bool × Int × Int × Int)):Option ((Int × Int × Unit × Ls × Int × Ls × Int × Unit × Unit × Int × Ls × Ls × Int) × (Ls × Int × Int × Int × Ls × Bool × Int × Int × Int)) :=
 (chk (p0.2.2.2.2.2.2.1+1)).bind fun n1=>((if (100:Int)<n1 then some true else some (decide ((8:Int)<p0.2.2.2.2.2.2.2.1)))).bind fun b4=>(if b4=true then none else(rules_parser_is (p0.1,p0.2.1,p0.2.2.1,p0.2.2.2.1,p0.2.2.2.2.1,p0.2.2.2.2.2.1,n1,p0.2.2.2.2.2.2.2.1,p0.2.2.2.2.2.2.2.2) 2 [105,102]).bind fun(b8,o9)=>(if b8=true then none else(rules_parser_is (o9.1,o9.2.1,o9.2.2.1,o9.2.2.2.1,o9.2.2.2.2.1,o9.2.2.2.2.2.1,o9.2.2.2.2.2.2.1,o9.2.2.2.2.2.2.2.1,o9.2.2.2.2.2.2.2.2) 2 [115,101,116]).bind fun(b12,o13)=>(if b12=true then none else(rules_parser_is (o13.1,o13.2.1,o13.2.2.1,o13.2.2.2.1,o13.2.2.2.2.1,o13.2.2.2.2.2.1,o13.2.2.2.2.2.2.1,o13.2.2.2.2.2.2.2.1,o13.2.2.2.2.2.2.2.2) 2 [115,116,111,112]).bind fun(b16,o17)=>(if b16=true then none else(rules_parser_action (o17.1,o17.2.1,o17.2.2.1,o17.2.2.2.1,o17.2.2.2.2.1,o17.2.2.2.2.2.1,o17.2.2.2.2.2.2.1,o17.2.2.2.2.2.2.2.1,o17.2.2.2.2.2.2.2.2)).bind fun((n20,n21,n22,s23,n24,s25,n26,n27,n28,n29,s30,s31,n32),o33)=>some ((n20,n21,(),s23,n24,s25,n26,(),(),n29,s30,s31,n32),(o33.1,o33.2.1,o33.2.2.1,o33.2.2.2.1,o33.2.2.2.2.1,o33.2.2.2.2.2.1,o33.2.2.2.2.2.2.1,o33.2.2.2.2.2.2.2.1,o33.2.2.2.2.2.2.2.2))))))
def rules_parser_script_0_L1  : Nat→Ls→Int→Int→Int→Ls→Bool→Int→Int→Int→List (Int × Int × Unit × Ls × Int × Ls × Int × Unit × Unit × Int × Ls × Ls × Int)→Option (List (Int × Int × Unit × Ls × Int × Ls × Int × Unit × Unit × Int × Ls × Ls × Int) × Ls × Int × Int × Int × Ls × Bool × Int × Int × Int)
 | 0,_,_,_,_,_,_,_,_,_,_=>none
 | m27+1,s15,n16,n17,n18,s19,b20,n21,n22,n23,l25=>((if b20=true then some false else(if n17=(0:Int) then some false else(if n17=(4:Int) then some (!decide (s19=[125])) else some true)))).bind fun b31=>(if b31=true then(rules_parser_rule_0 (s15,n16,n17,n18,s19,b20,n21,n22,n23)).bind fun((n36,n37,n38,s39,n40,s41,n42,n43,n44,n45,s46,s47,n48),o49)=>(app 184 l25 ([(n36,n37,(),s39,n40,s41,n42,(),(),n45,s46,s47,n48)]:List (Int × Int × Unit × Ls × Int × Ls × Int × Unit × Unit × Int × Ls × Ls × Int))).bind fun l51=>rules_parser_script_0_L1  m27 o49.1 o49.2.1 o49.2.2.1 o49.2.2.2.1 o49.2.2.2.2.1 o49.2.2.2.2.2.1 o49.2.2.2.2.2.2.1 o49.2.2.2.2.2.2.2.1 o49.2.2.2.2.2.2.2.2 l51 else some (l25,s15,n16,n17,n18,s19,b20,n21,n22,n23))
def rules_parser_script_0 (p0:(Ls × Int × Int × Int × Ls × Bool × Int × Int × Int)):Option (List (Int × Int × Unit × Ls × Int × Ls × Int × Unit × Unit × Int × Ls × Ls × Int) × (Ls × Int × Int × Int × Ls × Bool × Int × Int × Int)) :=
 (rules_parser_script_0_L1  FU p0.1 p0.2.1 p0.2.2.1 p0.2.2.2.1 p0.2.2.2.2.1 p0.2.2.2.2.2.1 p0.2.2.2.2.2.2.1 p0.2.2.2.2.2.2.2.1 p0.2.2.2.2.2.2.2.2 []).bind fun(l4,s6,n7,n8,n9,s10,b11,n12,n13,n14)=>some (l4,(s6,n7,n8,n9,s10,b11,n12,n13,n14))
def rules_parser_block (p0:(Ls × Int × Int × Int × Ls × Bool × Int × Int × Int)):Option (List (Int × Int × Unit × Ls × Int × Ls × Int × Unit × Unit × Int × Ls × Ls × Int) × (Ls × Int × Int × Int × Ls × Bool × Int × Int × Int)) :=
 (rules_parser_need (p0.1,p0.2.1,p0.2.2.1,p0.2.2.2.1,p0.2.2.2.2.1,p0.2.2.2.2.2.1,p0.2.2.2.2.2.2.1,p0.2.2.2.2.2.2.2.1,p0.2.2.2.2.2.2.2.2) [123]).bind fun o1=>(chk (o1.2.2.2.2.2.2.2.1+1)).bind fun n3=>(rules_parser_script_0 (o1.1,o1.2.1,o1.2.2.1,o1.2.2.2.1,o1.2.2.2.2.1,o1.2.2.2.2.2.1,o1.2.2.2.2.2.2.1,n3,o1.2.2.2.2.2.2.2.2)).bind fun(l5,o6)=>(rules_parser_need (o6.1,o6.2.1,o6.2.2.1,o6.2.2.2.1,o6.2.2.2.2.1,o6.2.2.2.2.2.1,o6.2.2.2.2.2.2.1,o6.2.2.2.2.2.2.2.1,o6.2.2.2.2.2.2.2.2) [125]).bind fun o8=>(chk (o8.2.2.2.2.2.2.2.1-1)).bind fun n10=>some (l5,(o8.1,o8.2.1,o8.2.2.1,o8.2.2.2.1,o8.2.2.2.2.1,o8.2.2.2.2.2.1,o8.2.2.2.2.2.2.1,n10,o8.2.2.2.2.2.2.2.2))
def rules_parser_rule (p0:(Ls × Int × Int × Int × Ls × Bool × Int × Int × Int)):Option ((Int × Int × Unit × Ls × Int × Ls × Int × List (Int × Int × Unit × Ls × Int × Ls × Int × Unit × Unit × Int × Ls × Ls × Int) × List (Int × Int × Unit × Ls × Int × Ls × Int × Unit × Unit × Int × Ls × Ls × Int) × Int × Ls × Ls × Int) × (Ls × Int × Int × Int × Ls × Bool × Int × Int × Int)) :=
 (chk (p0.2.2.2.2.2.2.1+1)).bind fun n1=>((if (100:Int)<n1 then some true else some (decide ((8:Int)<p0.2.2.2.2.2.2.2.1)))).bind fun b4=>(if b4=true then none else(rules_parser_is (p0.1,p0.2.1,p0.2.2.1,p0.2.2.2.1,p0.2.2.2.2.1,p0.2.2.2.2.2.1,n1,p0.2.2.2.2.2.2.2.1,p0.2.2.2.2.2.2.2.2) 2 [105,102]).bind fun(b8,o9)=>(if b8=true then(rules_parser_test (o9.1,o9.2.1,o9.2.2.1,o9.2.2.2.1,o9.2.2.2.2.1,o9.2.2.2.2.2.1,o9.2.2.2.2.2.2.1,o9.2.2.2.2.2.2.2.1,o9.2.2.2.2.2.2.2.2)).bind fun((n12,n13,s14,n15,s16,n17),o18)=>(rules_parser_block (o18.1,o18.2.1,o18.2.2.1,o18.2.2.2.1,o18.2.2.2.2.1,o18.2.2.2.2.2.1,o18.2.2.2.2.2.2.1,o18.2.2.2.2.2.2.2.1,o18.2.2.2.2.2.2.2.2)).bind fun(l20,o21)=>(rules_parser_is (o21.1,o21.2.1,o21.2.2.1,o21.2.2.2.1,o21.2.2.2.2.1,o21.2.2.2.2.2.1,o21.2.2.2.2.2.2.1,o21.2.2.2.2.2.2.2.1,o21.2.2.2.2.2.2.2.2) 2 [101,108,115,101]).bind fun(b23,o24)=>(if b23=true then none else some ((1,n12,(),s14,n15,s16,n17,l20,[],0,[],[],0),(o24.1,o24.2.1,o24.2.2.1,o24.2.2.2.1,o24.2.2.2.2.1,o24.2.2.2.2.2.1,o24.2.2.2.2.2.2.1,o24.2.2.2.2.2.2.2.1,o24.2.2.2.2.2.2.2.2))) else none))
def rules_parser_script_L1  : Nat→Ls→Int→Int→Int→Ls→Bool→Int→Int→Int→List (Int × Int × Unit × Ls × Int × Ls × Int × List (Int × Int × Unit × Ls × Int × Ls × Int × Unit × Unit × Int × Ls × Ls × Int) × List (Int × Int × Unit × Ls × Int × Ls × Int × Unit × Unit × Int × Ls × Ls × Int) × Int × Ls × Ls × Int)→Option (List (Int × Int × Unit × Ls × Int × Ls × Int × List (Int × Int × Unit × Ls × Int × Ls × Int × Unit × Unit × Int × Ls × Ls × Int) × List (Int × Int × Unit × Ls × Int × Ls × Int × Unit × Unit × Int × Ls × Ls × Int) × Int × Ls × Ls × Int) × Ls × Int × Int × Int × Ls × Bool × Int × Int × Int)
 | 0,_,_,_,_,_,_,_,_,_,_=>none
 | m31+1,s17,n18,n19,n20,s21,b22,n23,n24,n25,l27=>((if b22=true then some false else(if n19=(0:Int) then some false else(if n19=(4:Int) then some (!decide (s21=[125])) else some true)))).bind fun b36=>(if b36=true then(rules_parser_rule (s17,n18,n19,n20,s21,b22,n23,n24,n25)).bind fun((n41,n42,n43,s44,n45,s46,n47,l48,l49,n50,s51,s52,n53),o54)=>(app 184 l27 ([(n41,n42,(),s44,n45,s46,n47,l48,l49,n50,s51,s52,n53)]:List (Int × Int × Unit × Ls × Int × Ls × Int × List (Int × Int × Unit × Ls × Int × Ls × Int × Unit × Unit × Int × Ls × Ls × Int) × List (Int × Int × Unit × Ls × Int × Ls × Int × Unit × Unit × Int × Ls × Ls × Int) × Int × Ls × Ls × Int))).bind fun l58=>rules_parser_script_L1  m31 o54.1 o54.2.1 o54.2.2.1 o54.2.2.2.1 o54.2.2.2.2.1 o54.2.2.2.2.2.1 o54.2.2.2.2.2.2.1 o54.2.2.2.2.2.2.2.1 o54.2.2.2.2.2.2.2.2 l58 else some (l27,s17,n18,n19,n20,s21,b22,n23,n24,n25))
def rules_parser_script (p0:(Ls × Int × Int × Int × Ls × Bool × Int × Int × Int)):Option (List (Int × Int × Unit × Ls × Int × Ls × Int × List (Int × Int × Unit × Ls × Int × Ls × Int × Unit × Unit × Int × Ls × Ls × Int) × List (Int × Int × Unit × Ls × Int × Ls × Int × Unit × Unit × Int × Ls × Ls × Int) × Int × Ls × Ls × Int) × (Ls × Int × Int × Int × Ls × Bool × Int × Int × Int)) :=
 (rules_parser_script_L1  FU p0.1 p0.2.1 p0.2.2.1 p0.2.2.2.1 p0.2.2.2.2.1 p0.2.2.2.2.2.1 p0.2.2.2.2.2.2.1 p0.2.2.2.2.2.2.2.1 p0.2.2.2.2.2.2.2.2 []).bind fun(l4,s8,n9,n10,n11,s12,b13,n14,n15,n16)=>some (l4,(s8,n9,n10,n11,s12,b13,n14,n15,n16))
def rules_used (p0:Int):Option (Bool × Bool × Bool) :=
 (if p0=(5:Int) then some (true,true,false) else((if p0=(6:Int) then some (decide (p0=(6:Int))) else some (decide (p0=(7:Int))))).bind fun b4=>(if b4=true then some (false,true,false) else(if p0=(8:Int) then some (false,false,true) else(if p0=(9:Int) then some (true,false,false) else some (false,false,false)))))
def rules_inner (p0:(Int × Unit × Ls × Int × Ls × Int)):Option Bool :=
 (if p0.1=(2:Int) then some (decide ((0:Int)=(1:Int))) else((if p0.1=(3:Int) then some (decide (p0.1=(3:Int))) else some (decide (p0.1=(4:Int))))).bind fun b4=>(if b4=true then((if (1:Int)≤(0:Int) then some (decide ((0:Int)≤(60:Int))) else some false)).bind fun b10=>some b10 else some (decide ((0:Int)=(0:Int)))))
def rules_test_L1  : Nat→Int→Option (Unit ⊕ Int)
 | 0,_=>none
 | m47+1,n46=>(if n46<(0:Int) then none else some (.inl ()))
def rules_test_B (self:(Int × Unit × Ls × Int × Ls × Int)→Int→Option Int)(p0:(Int × Unit × Ls × Int × Ls × Int))(p1:Int):Option Int :=
 (rules_used p0.1).bind fun(b1,b2,b3)=>(if (8:Int)<p1 then none else((if p0.1<(1:Int) then some true else some (decide ((9:Int)<p0.1)))).bind fun b8=>(if b8=true then none else(rules_inner (p0.1,(),p0.2.2.1,p0.2.2.2.1,p0.2.2.2.2.1,p0.2.2.2.2.2)).bind fun b12=>(if b12=true then((if b1=true then(if b2=true then(if b3=true then some false else some (!decide (p0.2.2.2.2.2=(0:Int)))) else(if p0.2.2.2.1=(0:Int) then(if p0.2.2.2.2.1=[] then(if b3=true then some false else some (!decide (p0.2.2.2.2.2=(0:Int)))) else some true) else some true)) else(if p0.2.2.1=[] then(if b2=true then(if b3=true then some false else some (!decide (p0.2.2.2.2.2=(0:Int)))) else(if p0.2.2.2.1=(0:Int) then(if p0.2.2.2.2.1=[] then(if b3=true then some false else some (!decide (p0.2.2.2.2.2=(0:Int)))) else some true) else some true)) else some true))).bind fun b17=>(if b17=true then none else((if b1=true then(if p0.2.2.1=[] then some true else some (decide ((60:Int)<(p0.2.2.1.length:Int)))) else some false)).bind fun b27=>(if b27=true then none else((if b2=true then(if p0.2.2.2.1<(1:Int) then some true else some (decide ((3:Int)<p0.2.2.2.1))) else some false)).bind fun b33=>(if b33=true then none else(if (200:Int)<(p0.2.2.2.2.1.length:Int) then none else((if p0.2.2.2.2.2<(0:Int) then some true else some (decide ((1000000:Int)<p0.2.2.2.2.2)))).bind fun b40=>(if b40=true then none else((rules_test_L1  FU 0:Option (Unit ⊕ Int))).bind fun o51=>(match o51 with | .inl _=>some 0 | .inr r50=>some r50)))))) else none)))
def rules_test_R : Nat→(Int × Unit × Ls × Int × Ls × Int)→Int→Option Int
 | 0,_,_=>none
 | m+1,p0,p1=>rules_test_B (rules_test_R m) p0 p1
def rules_test (p0:(Int × Unit × Ls × Int × Ls × Int))(p1:Int):Option Int:=rules_test_R FU p0 p1
def rules_rule (p0:(Int × Int × Unit × Ls × Int × Ls × Int × List (Int × Int × Unit × Ls × Int × Ls × Int × Unit × Unit × Int × Ls × Ls × Int) × List (Int × Int × Unit × Ls × Int × Ls × Int × Unit × Unit × Int × Ls × Ls × Int) × Int × Ls × Ls × Int))(p1:Int):Option Int :=
 (if (8:Int)<p1 then none else((if p0.1<(1:Int) then some true else some (decide ((4:Int)<p0.1)))).bind fun b4=>(if b4=true then none else(if p0.1=(1:Int) then((if p0.2.2.2.2.2.2.2.2.2.1=(0:Int) then(if p0.2.2.2.2.2.2.2.2.2.2.1=[] then(if p0.2.2.2.2.2.2.2.2.2.2.2.1=[] then some (!decide (p0.2.2.2.2.2.2.2.2.2.2.2.2=(0:Int))) else some true) else some true) else some true)).bind fun b11=>(if b11=true then none else(rules_test (p0.2.1,(),p0.2.2.2.1,p0.2.2.2.2.1,p0.2.2.2.2.2.1,p0.2.2.2.2.2.2.1) 1).bind fun n17=>some n17) else none)))
def rules_noTest (p0:(Int × Unit × Ls × Int × Ls × Int)):Option Bool :=
 ((if p0.1=(0:Int) then(if (0:Int)=(0:Int) then(if p0.2.2.1=[] then(if p0.2.2.2.1=(0:Int) then(if p0.2.2.2.2.1=[] then some (decide (p0.2.2.2.2.2=(0:Int))) else some false) else some false) else some false) else some false) else some false)).bind fun b3=>some b3
def rules_variable_1 (p0:UInt8):Option Bool :=
 ((if 97≤p0.toNat then(if p0.toNat≤122 then some true else(if 48≤p0.toNat then some (decide (p0.toNat≤57)) else some false)) else(if 48≤p0.toNat then some (decide (p0.toNat≤57)) else some false))).bind fun b3=>some b3
def rules_variable (p0:Ls):Option Bool :=
 ((if p0=[] then some false else(if (p0.length:Int)≤(60:Int) then(Y1a p0 rules_variable_1).bind fun b6=>(if b6=true then(idx p0 0).bind fun c8=>some (decide (57<c8.toNat)) else some false) else some false))).bind fun b3=>some b3
def rules_plain (p0:(Int × Int × Unit × Ls × Int × Ls × Int × Unit × Unit × Int × Ls × Ls × Int)):Option Int :=
 ((rules_noTest (p0.2.1,(),p0.2.2.2.1,p0.2.2.2.2.1,p0.2.2.2.2.2.1,p0.2.2.2.2.2.2.1)).bind fun b4=>(if b4=true then(chk ((0:Int)+0)).bind fun n6=>(if (0:Int)<n6 then some true else(if p0.1=(2:Int) then(if p0.1=(3:Int) then(if p0.1=(4:Int) then some (!decide (p0.2.2.2.2.2.2.2.2.2.2.2.1=[])) else some false) else(if p0.2.2.2.2.2.2.2.2.2.2.1=[] then(if p0.1=(4:Int) then some (!decide (p0.2.2.2.2.2.2.2.2.2.2.2.1=[])) else some false) else some true)) else(if p0.2.2.2.2.2.2.2.2.2.1=(0:Int) then(if p0.2.2.2.2.2.2.2.2.2.2.2.2=(0:Int) then(if p0.1=(3:Int) then(if p0.1=(4:Int) then some (!decide (p0.2.2.2.2.2.2.2.2.2.2.2.1=[])) else some false) else(if p0.2.2.2.2.2.2.2.2.2.2.1=[] then(if p0.1=(4:Int) then some (!decide (p0.2.2.2.2.2.2.2.2.2.2.2.1=[])) else some false) else some true)) else some true) else some true))) else some true)).bind fun b3=>(if b3=true then none else((if p0.1=(2:Int) then(if p0.2.2.2.2.2.2.2.2.2.1<(1:Int) then some true else some (decide ((7:Int)<p0.2.2.2.2.2.2.2.2.2.1))) else some false)).bind fun b23=>(if b23=true then none else((if p0.1=(2:Int) then(rules_texted p0.2.2.2.2.2.2.2.2.2.1).bind fun b32=>(if b32=true then(if p0.2.2.2.2.2.2.2.2.2.1=(6:Int) then some false else some (!decide (p0.2.2.2.2.2.2.2.2.2.2.2.2=(0:Int)))) else(if p0.2.2.2.2.2.2.2.2.2.2.2.1=[] then(if p0.2.2.2.2.2.2.2.2.2.1=(6:Int) then some false else some (!decide (p0.2.2.2.2.2.2.2.2.2.2.2.2=(0:Int)))) else some true)) else some false)).bind fun b30=>(if b30=true then none else((if p0.1=(3:Int) then(rules_variable p0.2.2.2.2.2.2.2.2.2.2.1).bind fun b43=>some (!b43) else some false)).bind fun b41=>(if b41=true then none else(if (200:Int)<(p0.2.2.2.2.2.2.2.2.2.2.2.1.length:Int) then none else((if p0.2.2.2.2.2.2.2.2.2.2.2.2<(0:Int) then some true else some (decide ((63:Int)<p0.2.2.2.2.2.2.2.2.2.2.2.2)))).bind fun b50=>(if b50=true then none else some 0))))))
def rules_rule_0 (p0:(Int × Int × Unit × Ls × Int × Ls × Int × Unit × Unit × Int × Ls × Ls × Int))(p1:Int):Option Int :=
 (if (8:Int)<p1 then none else((if p0.1<(1:Int) then some true else some (decide ((4:Int)<p0.1)))).bind fun b4=>(if b4=true then none else(if p0.1=(1:Int) then((if p0.2.2.2.2.2.2.2.2.2.1=(0:Int) then(if p0.2.2.2.2.2.2.2.2.2.2.1=[] then(if p0.2.2.2.2.2.2.2.2.2.2.2.1=[] then some (!decide (p0.2.2.2.2.2.2.2.2.2.2.2.2=(0:Int))) else some true) else some true) else some true)).bind fun b13=>(if b13=true then none else(rules_test (p0.2.1,(),p0.2.2.2.1,p0.2.2.2.2.1,p0.2.2.2.2.2.1,p0.2.2.2.2.2.2.1) 1).bind fun n19=>some n19) else(rules_plain (p0.1,p0.2.1,(),p0.2.2.2.1,p0.2.2.2.2.1,p0.2.2.2.2.2.1,p0.2.2.2.2.2.2.1,(),(),p0.2.2.2.2.2.2.2.2.2.1,p0.2.2.2.2.2.2.2.2.2.2.1,p0.2.2.2.2.2.2.2.2.2.2.2.1,p0.2.2.2.2.2.2.2.2.2.2.2.2)).bind fun n9=>some n9)))
def rules_Validate_1_n_L1  : Nat→Int→Int→Option Int
 | 0,_,_=>none
 | m6+1,n4,n5=>(if n5<(0:Int) then none else some n4)
def rules_Validate_1_n (p0:Unit)(p1:Int)(p2:Int)(p3:Unit):Option ((Int × Int) × Int × Unit) :=
 (rules_Validate_1_n_L1  FU p2 0).bind fun n3=>(Y0b).bind fun(n9,n10)=>some ((n9,n10),n3,())
def rules_Validate_1_0_L2 (p1:Int):Nat→Int→Int→Option Int
 | 0,_,_=>none
 | m19+1,n17,n18=>(if n18<(([(),()]:List Unit).length:Int) then(idx ([(),()]:List Unit) n18).bind fun a21=>(chk (p1+1)).bind fun n22=>(rules_Validate_1_n () n22 n17 ()).bind fun((n23,n24),o25,o26)=>(Y02 (n23,n24)).bind fun b28=>(if b28=true then none else(chk (n18+1)).bind fun n31=>rules_Validate_1_0_L2 p1 m19 o25 n31) else some n17)
def rules_Validate_1_0_L1 (p0:List (Int × Int × Unit × Ls × Int × Ls × Int × Unit × Unit × Int × Ls × Ls × Int))(p1:Int):Nat→Int→Int→Option Int
 | 0,_,_=>none
 | m6+1,n4,n5=>(if n5<(p0.length:Int) then(idx p0 n5).bind fun a8=>(if n4=(100:Int) then none else(rules_rule_0 (a8.1,a8.2.1,(),a8.2.2.2.1,a8.2.2.2.2.1,a8.2.2.2.2.2.1,a8.2.2.2.2.2.2.1,(),(),a8.2.2.2.2.2.2.2.2.2.1,a8.2.2.2.2.2.2.2.2.2.2.1,a8.2.2.2.2.2.2.2.2.2.2.2.1,a8.2.2.2.2.2.2.2.2.2.2.2.2) p1).bind fun n10=>(if n10=(0:Int) then(chk (n4+1)).bind fun n13=>(rules_Validate_1_0_L2 p1 FU n13 0).bind fun n16=>(chk (n5+1)).bind fun n33=>rules_Validate_1_0_L1 p0 p1 m6 n16 n33 else none)) else some n4)
def rules_Validate_1_0 (p0:List (Int × Int × Unit × Ls × Int × Ls × Int × Unit × Unit × Int × Ls × Ls × Int))(p1:Int)(p2:Int)(p3:Unit):Option ((Int × Int) × Int × Unit) :=
 (rules_Validate_1_0_L1 p0 p1 FU p2 0).bind fun n3=>(Y0b).bind fun(n35,n36)=>some ((n35,n36),n3,())
def rules_Validate_1_L2 (p1:Int)(a8:(Int × Int × Unit × Ls × Int × Ls × Int × List (Int × Int × Unit × Ls × Int × Ls × Int × Unit × Unit × Int × Ls × Ls × Int) × List (Int × Int × Unit × Ls × Int × Ls × Int × Unit × Unit × Int × Ls × Ls × Int) × Int × Ls × Ls × Int)):Nat→Int→Int→Option Int
 | 0,_,_=>none
 | m19+1,n17,n18=>(if n18<(([a8.2.2.2.2.2.2.2.1,a8.2.2.2.2.2.2.2.2.1]:List (List (Int × Int × Unit × Ls × Int × Ls × Int × Unit × Unit × Int × Ls × Ls × Int))).length:Int) then(idx ([a8.2.2.2.2.2.2.2.1,a8.2.2.2.2.2.2.2.2.1]:List (List (Int × Int × Unit × Ls × Int × Ls × Int × Unit × Unit × Int × Ls × Ls × Int))) n18).bind fun a21=>(chk (p1+1)).bind fun n22=>(rules_Validate_1_0 a21 n22 n17 ()).bind fun((n23,n24),o25,o26)=>(Y02 (n23,n24)).bind fun b28=>(if b28=true then none else(chk (n18+1)).bind fun n31=>rules_Validate_1_L2 p1 a8 m19 o25 n31) else some n17)
def rules_Validate_1_L1 (p0:List (Int × Int × Unit × Ls × Int × Ls × Int × List (Int × Int × Unit × Ls × Int × Ls × Int × Unit × Unit × Int × Ls × Ls × Int) × List (Int × Int × Unit × Ls × Int × Ls × Int × Unit × Unit × Int × Ls × Ls × Int) × Int × Ls × Ls × Int))(p1:Int):Nat→Int→Int→Option Int
 | 0,_,_=>none
 | m6+1,n4,n5=>(if n5<(p0.length:Int) then(idx p0 n5).bind fun a8=>(if n4=(100:Int) then none else(rules_rule (a8.1,a8.2.1,(),a8.2.2.2.1,a8.2.2.2.2.1,a8.2.2.2.2.2.1,a8.2.2.2.2.2.2.1,a8.2.2.2.2.2.2.2.1,a8.2.2.2.2.2.2.2.2.1,a8.2.2.2.2.2.2.2.2.2.1,a8.2.2.2.2.2.2.2.2.2.2.1,a8.2.2.2.2.2.2.2.2.2.2.2.1,a8.2.2.2.2.2.2.2.2.2.2.2.2) p1).bind fun n10=>(if n10=(0:Int) then(chk (n4+1)).bind fun n13=>(rules_Validate_1_L2 p1 a8 FU n13 0).bind fun n16=>(chk (n5+1)).bind fun n33=>rules_Validate_1_L1 p0 p1 m6 n16 n33 else none)) else some n4)
def rules_Validate_1 (p0:List (Int × Int × Unit × Ls × Int × Ls × Int × List (Int × Int × Unit × Ls × Int × Ls × Int × Unit × Unit × Int × Ls × Ls × Int) × List (Int × Int × Unit × Ls × Int × Ls × Int × Unit × Unit × Int × Ls × Ls × Int) × Int × Ls × Ls × Int))(p1:Int)(p2:Int)(p3:Unit):Option ((Int × Int) × Int × Unit) :=
 (rules_Validate_1_L1 p0 p1 FU p2 0).bind fun n3=>(Y0b).bind fun(n35,n36)=>some ((n35,n36),n3,())
def rules_Validate (p0:List (Int × Int × Unit × Ls × Int × Ls × Int × List (Int × Int × Unit × Ls × Int × Ls × Int × Unit × Unit × Int × Ls × Ls × Int) × List (Int × Int × Unit × Ls × Int × Ls × Int × Unit × Unit × Int × Ls × Ls × Int) × Int × Ls × Ls × Int)):Option (Int × Int) :=
 (rules_Validate_1 p0 1 0 ()).bind fun((n1,n2),o3,o4)=>some (n1,n2)
def rules_Parse (p0:Ls):Option (List (Int × Int × Unit × Ls × Int × Ls × Int × List (Int × Int × Unit × Ls × Int × Ls × Int × Unit × Unit × Int × Ls × Ls × Int) × List (Int × Int × Unit × Ls × Int × Ls × Int × Unit × Unit × Int × Ls × Ls × Int) × Int × Ls × Ls × Int) × (Int × Int)) :=
 (if (4000:Int)<(p0.length:Int) then none else(rules_parser_advance (p0,0,0,0,[],false,0,1,0)).bind fun o2=>(rules_parser_script (o2.1,o2.2.1,o2.2.2.1,o2.2.2.2.1,o2.2.2.2.2.1,o2.2.2.2.2.2.1,o2.2.2.2.2.2.2.1,o2.2.2.2.2.2.2.2.1,o2.2.2.2.2.2.2.2.2)).bind fun(l4,o5)=>((if o5.2.2.2.2.2.1=true then some true else some (!decide (o5.2.2.1=(0:Int))))).bind fun b9=>(if b9=true then none else(rules_Validate l4).bind fun(n13,n14)=>(Y02 (n13,n14)).bind fun b16=>(if b16=true then none else(Y0b).bind fun(n19,n20)=>some (l4,(n19,n20)))))
def Y15 (p0:Ls)(p1:Ls):Option (Ls × Ls × Bool) :=
 (Y0H p0 p1).bind fun n1=>(if (0:Int)≤n1 then(cut p0 0 n1).bind fun s4=>(chk (n1+(p1.length:Int))).bind fun n5=>(cut p0 n5 (p0.length:Int)).bind fun s6=>some (s4,s6,true) else some (p0,[],false))
def Y1f (p0:Ls)(p1:Ls):Option (Ls × Ls × Bool) :=
 (Y15 p0 p1).bind fun(s1,s2,b3)=>some (s1,s2,b3)
def envelope_Split_1 (p0:UInt8):Option Bool :=
 ((Y1g p0).bind fun b4=>(if b4=true then some true else(Y0n [45,95,46,43,61] p0).bind fun n6=>some (decide ((0:Int)≤n6)))).bind fun b3=>some b3
def envelope_Domain_1 (p0:UInt8):Option Bool :=
 ((if 97≤p0.toNat then(if p0.toNat≤122 then some true else(if 48≤p0.toNat then(if p0.toNat≤57 then some true else(if p0=45 then some true else some (decide (p0=46)))) else(if p0=45 then some true else some (decide (p0=46))))) else(if 48≤p0.toNat then(if p0.toNat≤57 then some true else(if p0=45 then some true else some (decide (p0=46)))) else(if p0=45 then some true else some (decide (p0=46)))))).bind fun b3=>some b3
def Y0m (p0:Ls)(p1:Ls):Option Bool :=
 ((if (p1.length:Int)≤(p0.length:Int) then(cut p0 0 (p1.length:Int)).bind fun s5=>some (decide (s5=p1)) else some false)).bind fun b3=>some b3
def Y0X (p0:Ls)(p1:Ls):Option Bool :=
 (Y0m p0 p1).bind fun b1=>some b1
def Y0Y (p0:Ls)(p1:Ls):Option Bool :=
 (Y0l p0 p1).bind fun b1=>some b1
def envelope_Domain (p0:Ls):Option Bool :=
 ((if p0=[] then some false else(if (p0.length:Int)≤(60:Int) then(Y1a p0 envelope_Domain_1).bind fun b6=>(if b6=true then(Y0X p0 [46]).bind fun b8=>(if b8=true then some false else(Y0Y p0 [46]).bind fun b10=>(if b10=true then some false else(Y0O p0 [46,46]).bind fun b12=>some (!b12))) else some false) else some false))).bind fun b3=>some b3
def envelope_Split (p0:Ls):Option (Ls × Ls × Bool) :=
 (Y1f p0 [64]).bind fun(s1,s2,b3)=>((if b3=true then(if s1=[] then some (s1,s2,false) else(if (s1.length:Int)≤(60:Int) then(Y1a s1 envelope_Split_1).bind fun b12=>(if b12=true then(envelope_Domain s2).bind fun b14=>some (s1,s2,b14) else some (s1,s2,false)) else some (s1,s2,false))) else some (s1,s2,false))).bind fun(s7,s8,b9)=>some (s7,s8,b9)
def envelope_Address (p0:Ls):Option Bool :=
 (envelope_Split p0).bind fun(s1,s2,b3)=>some b3
def envelope_Notify (p0:Int):Option Bool :=
 ((if (0:Int)≤p0 then some (decide (p0≤(7:Int))) else some false)).bind fun b3=>some b3
def Y0e (p0:List (Ls × Int))(p1:((Ls × Int)→Option Bool)):Nat→Int→Option (Unit ⊕ Int)
 | 0,_=>none
 | m4+1,n3=>(if n3<(p0.length:Int) then(idx p0 n3).bind fun a6=>(p1 (a6.1,a6.2)).bind fun b7=>(if b7=true then some (.inr n3) else(chk (n3+1)).bind fun n10=>Y0e p0 p1 m4 n10) else some (.inl ()))
def Y0N (p0:List (Ls × Int))(p1:((Ls × Int)→Option Bool)):Option Int :=
 ((Y0e p0 p1 FU 0:Option (Unit ⊕ Int))).bind fun o13=>(match o13 with | .inl _=>some (-1) | .inr r12=>some r12)
def Y0A (p0:List (Ls × Int))(p1:((Ls × Int)→Option Bool)):Option Bool :=
 (Y0N p0 p1).bind fun n1=>some (decide ((0:Int)≤n1))
def envelope_Recipients_1 (p0:(Ls × Int))(p1:(Ls × Int)):Option Bool :=
 some (decide (p0.1=p1.1))
def envelope_Recipients_L1 (p0:List (Ls × Int)):Nat→Int→Option Unit
 | 0,_=>none
 | m4+1,n3=>(if n3<(p0.length:Int) then(idx p0 n3).bind fun a6=>(envelope_Address a6.1).bind fun b7=>(if b7=true then(envelope_Notify a6.2).bind fun b10=>(if b10=true then(cut p0 0 n3).bind fun l13=>(Y0A l13 (fun z0=>envelope_Recipients_1 z0 (a6.1,a6.2))).bind fun b15=>(if b15=true then none else(chk (n3+1)).bind fun n18=>envelope_Recipients_L1 p0 m4 n18) else none) else none) else some ())
def envelope_Recipients (p0:List (Ls × Int)):Option (Int × Int) :=
 (envelope_Recipients_L1 p0 FU 0).bind fun _=>(Y0b).bind fun(n20,n21)=>some (n20,n21)
def envelope_Validate (p0:(Ls × List (Ls × Int) × Ls)):Option (Int × Int) :=
 ((if p0.1=[] then some false else(envelope_Address p0.1).bind fun b5=>some (!b5))).bind fun b3=>(if b3=true then none else((if (p0.2.1.length:Int)<(1:Int) then some true else some (decide ((60:Int)<(p0.2.1.length:Int))))).bind fun b11=>(if b11=true then none else((if p0.2.2=[] then some false else(Y1v p0.2.2).bind fun b19=>some (!b19))).bind fun b17=>(if b17=true then none else(envelope_Recipients p0.2.1).bind fun(n23,n24)=>some (n23,n24))))
def message_Write (p0:(List (Ls × Ls) × Ls)):Option (Ls × (Int × Int)) :=
 (message_Validate (p0.1,p0.2)).bind fun(n1,n2)=>(Y02 (n1,n2)).bind fun b4=>(if b4=true then some ([],(n1,n2)) else(message_write (p0.1,p0.2)).bind fun l7=>(Y0b).bind fun(n9,n10)=>some (l7,(n9,n10)))
def Y1R (p0:Ls):Option Bool :=
 (fold_Fold p0 []).bind fun(l1,(n2,n3))=>(Y02 (n2,n3)).bind fun b5=>some (!b5)
def Y1J (p0:List (Ls × Ls))(p1:Ls):Option (Int × Int) :=
 (Y0J p0).bind fun(n1,n2)=>(Y02 (n1,n2)).bind fun b4=>(if b4=true then some (n1,n2) else(Y1R p1).bind fun b7=>(if b7=true then(Y0b).bind fun(n13,n14)=>some (n13,n14) else(Y03 10 (-3)).bind fun(n10,n11)=>some (n10,n11)))
def Y18 (p0:List (Ls × Ls))(p1:Ls):Nat→List Ls→Int→Option (List Ls)
 | 0,_,_=>none
 | m17+1,l13,n16=>(if n16<(p0.length:Int) then(idx p0 n16).bind fun a20=>(Y0Q a20.1 p1).bind fun b21=>(if b21=true then(app 16 l13 ([a20.2]:List Ls)).bind fun l24=>(chk (n16+1)).bind fun n25=>Y18 p0 p1 m17 l24 n25 else(chk (n16+1)).bind fun n26=>Y18 p0 p1 m17 l13 n26) else some l13)
def Y1Y (p0:List (Ls × Ls))(p1:Ls):Option (List Ls × (Int × Int)) :=
 (Y1J p0 p1).bind fun(n1,n2)=>(Y02 (n1,n2)).bind fun b4=>(if b4=true then some ([],(n1,n2)) else(Y18 p0 p1 FU [] 0).bind fun l10=>(Y0b).bind fun(n28,n29)=>some (l10,(n28,n29)))
def evaluate_run_fields (p0:(Ls × List (Ls × Int) × Ls × List (Ls × Ls) × Ls × Int × Unit × List (Int × Ls × Int) × Unit))(p1:Ls):Option (List Ls × (Ls × Unit × Ls × Unit × Unit × Int × Unit × List (Int × Ls × Int) × Unit)) :=
 (Y1Y p0.2.2.2.1 p1).bind fun(l1,(n2,n3))=>some (l1,(p0.1,(),p0.2.2.1,(),(),p0.2.2.2.2.2.1,(),p0.2.2.2.2.2.2.2.1,()))
def evaluate_run_test (p0:(Ls × List (Ls × Int) × Ls × List (Ls × Ls) × Ls × Int × Unit × List (Int × Ls × Int) × Unit))(p1:(Int × Unit × Ls × Int × Ls × Int)):Option (Bool × (Ls × Unit × Ls × Unit × Unit × Int × Unit × List (Int × Ls × Int) × Unit)) :=
 (if p1.1=(2:Int) then none else((if p1.1=(3:Int) then some (decide (p1.1=(3:Int))) else some (decide (p1.1=(4:Int))))).bind fun b4=>(if b4=true then none else(if p1.1=(5:Int) then none else(if p1.1=(6:Int) then none else(if p1.1=(7:Int) then none else(if p1.1=(8:Int) then none else(if p1.1=(9:Int) then(evaluate_run_fields (p0.1,p0.2.1,p0.2.2.1,p0.2.2.2.1,p0.2.2.2.2.1,p0.2.2.2.2.2.1,(),p0.2.2.2.2.2.2.2.1,()) p1.2.2.1).bind fun(l13,o14)=>some (decide ((0:Int)<(l13.length:Int)),(o14.1,(),o14.2.2.1,(),(),o14.2.2.2.2.2.1,(),o14.2.2.2.2.2.2.2.1,())) else some (true,(p0.1,(),p0.2.2.1,(),(),p0.2.2.2.2.2.1,(),p0.2.2.2.2.2.2.2.1,())))))))))
def evaluate_Run_1 (p0:(Int × Bool × Ls)):Option Unit :=
 some ()
def Y0M (p0:Ls)(p1:Ls):Option (Int × Bool × Ls) :=
 (app 1 p0 p1).bind fun l2=>some ((p1.length:Int),true,l2)
def Y12 (p0:Ls):Option Ls :=
 some p0
def evaluate_run_expand_L1  : Nat→Ls→Ls→Option Ls
 | 0,_,_=>none
 | m14+1,s8,l12=>(Y1f s8 [36,123]).bind fun(s16,s17,b18)=>(Y1f s17 [125]).bind fun(s20,s21,b22)=>((if b18=true then some (!b22) else some true)).bind fun b26=>(if b26=true then(Y0M l12 s8).bind fun(n29,b30,l31)=>some l31 else none)
def evaluate_run_expand (p0:(Ls × List (Ls × Int) × Ls × List (Ls × Ls) × Ls × Int × Unit × List (Int × Ls × Int) × Unit))(p1:Ls):Option (Ls × (Ls × Unit × Ls × Unit × Unit × Int × Unit × List (Int × Ls × Int) × Unit)) :=
 (evaluate_run_expand_L1  FU p1 []).bind fun l6=>(Y12 l6).bind fun s34=>(cut s34 0 (min (s34.length:Int) 4000)).bind fun s36=>some (s36,(p0.1,(),p0.2.2.1,(),(),p0.2.2.2.2.2.1,(),p0.2.2.2.2.2.2.2.1,()))
def rules_Size_n_L1  : Nat→Int→Int→Option Int
 | 0,_,_=>none
 | m6+1,n4,n5=>(if n5<(0:Int) then none else some n4)
def rules_Size_n (p0:Unit):Option Int :=
 (rules_Size_n_L1  FU 0 0).bind fun n3=>some n3
def evaluate_run_execute_0_L1 (p0:(Ls × List (Ls × Int) × Ls × List (Ls × Ls) × Ls × Int × Unit × List (Int × Ls × Int) × Unit))(p1:List (Int × Int × Unit × Ls × Int × Ls × Int × Unit × Unit × Int × Ls × Ls × Int)):Nat→Ls→Ls→Int→List (Int × Ls × Int)→Int→Int→Option ((Ls × Ls × Int × List (Int × Ls × Int)) ⊕ (Bool × (Ls × Unit × Ls × Unit × Unit × Int × Unit × List (Int × Ls × Int) × Unit)))
 | 0,_,_,_,_,_,_=>none
 | m17+1,s9,s10,n11,l13,n15,n16=>(if n16<(p1.length:Int) then(idx p1 n16).bind fun a19=>(if a19.1=(1:Int) then none else(if a19.1=(2:Int) then(evaluate_run_expand (s9,p0.2.1,s10,p0.2.2.2.1,p0.2.2.2.2.1,n11,(),l13,()) a19.2.2.2.2.2.2.2.2.2.2.2.1).bind fun(s22,o23)=>(app 32 o23.2.2.2.2.2.2.2.1 ([(a19.2.2.2.2.2.2.2.2.2.1,s22,a19.2.2.2.2.2.2.2.2.2.2.2.2)]:List (Int × Ls × Int))).bind fun l25=>(evaluate_Run_1 (n15,false,s22)).bind fun _=>(rules_Size_n ()).bind fun n28=>(chk ((1:Int)+n28)).bind fun n30=>(rules_Size_n ()).bind fun n31=>(chk (n30+n31)).bind fun n33=>(chk (n15+n33)).bind fun n34=>(chk (n16+1)).bind fun n35=>evaluate_run_execute_0_L1 p0 p1 m17 o23.1 o23.2.2.1 o23.2.2.2.2.2.1 l25 n34 n35 else(if a19.1=(3:Int) then none else(evaluate_Run_1 (n15,false,[])).bind fun _=>some (.inr (false,(s9,(),s10,(),(),n11,(),l13,())))))) else some (.inl (s9,s10,n11,l13)))
def evaluate_run_execute_0 (p0:(Ls × List (Ls × Int) × Ls × List (Ls × Ls) × Ls × Int × Unit × List (Int × Ls × Int) × Unit))(p1:List (Int × Int × Unit × Ls × Int × Ls × Int × Unit × Unit × Int × Ls × Ls × Int))(p2:Int):Option (Bool × (Ls × Unit × Ls × Unit × Unit × Int × Unit × List (Int × Ls × Int) × Unit)) :=
 ((evaluate_run_execute_0_L1 p0 p1 FU p0.1 p0.2.2.1 p0.2.2.2.2.2.1 p0.2.2.2.2.2.2.2.1 p2 0:Option ((Ls × Ls × Int × List (Int × Ls × Int)) ⊕ (Bool × (Ls × Unit × Ls × Unit × Unit × Int × Unit × List (Int × Ls × Int) × Unit))))).bind fun o40=>(match o40 with | .inl (s3,s4,n5,l7)=>some (true,(s3,(),s4,(),(),n5,(),l7,())) | .inr r39=>some r39)
def rules_Size_0_L1 (p0:List (Int × Int × Unit × Ls × Int × Ls × Int × Unit × Unit × Int × Ls × Ls × Int)):Nat→Int→Int→Option Int
 | 0,_,_=>none
 | m6+1,n4,n5=>(if n5<(p0.length:Int) then(idx p0 n5).bind fun a8=>(rules_Size_n ()).bind fun n9=>(chk ((1:Int)+n9)).bind fun n11=>(rules_Size_n ()).bind fun n12=>(chk (n11+n12)).bind fun n14=>(chk (n4+n14)).bind fun n15=>(chk (n5+1)).bind fun n16=>rules_Size_0_L1 p0 m6 n15 n16 else some n4)
def rules_Size_0 (p0:List (Int × Int × Unit × Ls × Int × Ls × Int × Unit × Unit × Int × Ls × Ls × Int)):Option Int :=
 (rules_Size_0_L1 p0 FU 0 0).bind fun n3=>some n3
def evaluate_run_execute_L1 (p0:(Ls × List (Ls × Int) × Ls × List (Ls × Ls) × Ls × Int × Unit × List (Int × Ls × Int) × Unit))(p1:List (Int × Int × Unit × Ls × Int × Ls × Int × List (Int × Int × Unit × Ls × Int × Ls × Int × Unit × Unit × Int × Ls × Ls × Int) × List (Int × Int × Unit × Ls × Int × Ls × Int × Unit × Unit × Int × Ls × Ls × Int) × Int × Ls × Ls × Int)):Nat→Ls→Ls→Int→List (Int × Ls × Int)→Int→Int→Option ((Ls × Ls × Int × List (Int × Ls × Int)) ⊕ (Bool × (Ls × Unit × Ls × Unit × Unit × Int × Unit × List (Int × Ls × Int) × Unit)))
 | 0,_,_,_,_,_,_=>none
 | m17+1,s9,s10,n11,l13,n15,n16=>(if n16<(p1.length:Int) then(idx p1 n16).bind fun a19=>(if a19.1=(1:Int) then(evaluate_run_test (s9,p0.2.1,s10,p0.2.2.2.1,p0.2.2.2.2.1,n11,(),l13,()) (a19.2.1,(),a19.2.2.2.1,a19.2.2.2.2.1,a19.2.2.2.2.2.1,a19.2.2.2.2.2.2.1)).bind fun(b21,o22)=>(evaluate_Run_1 (n15,b21,[])).bind fun _=>(chk (n15+1)).bind fun n25=>(if b21=true then(evaluate_run_execute_0 (o22.1,p0.2.1,o22.2.2.1,p0.2.2.2.1,p0.2.2.2.2.1,o22.2.2.2.2.2.1,(),o22.2.2.2.2.2.2.2.1,()) a19.2.2.2.2.2.2.2.1 n25).bind fun(b27,o28)=>(if b27=true then(rules_Size_0 a19.2.2.2.2.2.2.2.1).bind fun n31=>(chk ((1:Int)+n31)).bind fun n33=>(rules_Size_0 a19.2.2.2.2.2.2.2.2.1).bind fun n34=>(chk (n33+n34)).bind fun n36=>(chk (n15+n36)).bind fun n37=>(chk (n16+1)).bind fun n38=>evaluate_run_execute_L1 p0 p1 m17 o28.1 o28.2.2.1 o28.2.2.2.2.2.1 o28.2.2.2.2.2.2.2.1 n37 n38 else none) else none) else(if a19.1=(2:Int) then none else(if a19.1=(3:Int) then none else(evaluate_Run_1 (n15,false,[])).bind fun _=>some (.inr (false,(s9,(),s10,(),(),n11,(),l13,())))))) else some (.inl (s9,s10,n11,l13)))
def evaluate_run_execute (p0:(Ls × List (Ls × Int) × Ls × List (Ls × Ls) × Ls × Int × Unit × List (Int × Ls × Int) × Unit))(p1:List (Int × Int × Unit × Ls × Int × Ls × Int × List (Int × Int × Unit × Ls × Int × Ls × Int × Unit × Unit × Int × Ls × Ls × Int) × List (Int × Int × Unit × Ls × Int × Ls × Int × Unit × Unit × Int × Ls × Ls × Int) × Int × Ls × Ls × Int))(p2:Int):Option (Bool × (Ls × Unit × Ls × Unit × Unit × Int × Unit × List (Int × Ls × Int) × Unit)) :=
 ((evaluate_run_execute_L1 p0 p1 FU p0.1 p0.2.2.1 p0.2.2.2.2.2.1 p0.2.2.2.2.2.2.2.1 p2 0:Option ((Ls × Ls × Int × List (Int × Ls × Int)) ⊕ (Bool × (Ls × Unit × Ls × Unit × Unit × Int × Unit × List (Int × Ls × Int) × Unit))))).bind fun o44=>(match o44 with | .inl (s3,s4,n5,l7)=>some (true,(s3,(),s4,(),(),n5,(),l7,())) | .inr r43=>some r43)
def evaluate_Decided_L1 (p0:List (Int × Ls × Int)):Nat→Int→Option (Unit ⊕ Bool)
 | 0,_=>none
 | m4+1,n3=>(if n3<(p0.length:Int) then(idx p0 n3).bind fun a6=>((if a6.1=(6:Int) then some false else some (!decide (a6.1=(7:Int))))).bind fun b9=>(if b9=true then some (.inr true) else(chk (n3+1)).bind fun n13=>evaluate_Decided_L1 p0 m4 n13) else some (.inl ()))
def evaluate_Decided (p0:List (Int × Ls × Int)):Option Bool :=
 ((evaluate_Decided_L1 p0 FU 0:Option (Unit ⊕ Bool))).bind fun o16=>(match o16 with | .inl _=>some false | .inr r15=>some r15)
def evaluate_Noted (p0:List (Int × Int × Unit × Ls × Int × Ls × Int × List (Int × Int × Unit × Ls × Int × Ls × Int × Unit × Unit × Int × Ls × Ls × Int) × List (Int × Int × Unit × Ls × Int × Ls × Int × Unit × Unit × Int × Ls × Ls × Int) × Int × Ls × Ls × Int))(p1:(Ls × List (Ls × Int) × Ls × List (Ls × Ls) × Ls)):Option (List (Int × Ls × Int) × (Int × Int)) :=
 (rules_Validate p0).bind fun(n1,n2)=>(Y02 (n1,n2)).bind fun b4=>(if b4=true then none else(envelope_Validate (p1.1,p1.2.1,p1.2.2.1)).bind fun(n7,n8)=>(Y02 (n7,n8)).bind fun b10=>(if b10=true then none else(message_Write (p1.2.2.2.1,p1.2.2.2.2)).bind fun(l13,(n14,n15))=>(Y02 (n14,n15)).bind fun b17=>(if b17=true then none else(evaluate_run_execute (p1.1,p1.2.1,p1.2.2.1,p1.2.2.2.1,p1.2.2.2.2,(l13.length:Int),(),([]:List (Int × Ls × Int)),()) p0 0).bind fun(b21,o22)=>(evaluate_Decided o22.2.2.2.2.2.2.2.1).bind fun b25=>(if b25=true then(Y0b).bind fun(n28,n29)=>some (o22.2.2.2.2.2.2.2.1,(n28,n29)) else none))))
def evaluate_Run (p0:List (Int × Int × Unit × Ls × Int × Ls × Int × List (Int × Int × Unit × Ls × Int × Ls × Int × Unit × Unit × Int × Ls × Ls × Int) × List (Int × Int × Unit × Ls × Int × Ls × Int × Unit × Unit × Int × Ls × Ls × Int) × Int × Ls × Ls × Int))(p1:(Ls × List (Ls × Int) × Ls × List (Ls × Ls) × Ls)):Option (List (Int × Ls × Int) × (Int × Int)) :=
 (evaluate_Noted p0 (p1.1,p1.2.1,p1.2.2.1,p1.2.2.2.1,p1.2.2.2.2)).bind fun(l1,(n2,n3))=>some (l1,(n2,n3))
def Top_h11Fixed  : Option Bool :=
 (sign_Sign (([([70,114,111,109],[97,64,98,46,99]),([76,105,115,116,45,73,100],[120])]:List (Ls × Ls)),([104,105,13,10]:Ls)) [98,46,99] 3 ([[102,114,111,109]]:List Ls)).bind fun((l1,l2),(n3,n4))=>(rules_Parse [105,102,32,101,120,105,115,116,115,32,34,108,105,115,116,45,105,100,34,32,123,32,102,105,108,101,32,34,108,105,115,116,115,34,59,32,125]).bind fun(l6,(n7,n8))=>(evaluate_Run l6 ([97,64,98,46,99],([([100,64,101,46,102],0)]:List (Ls × Int)),[],l1,l2)).bind fun(l10,(n11,n12))=>((if n3=(0:Int) then(if n7=(0:Int) then(if n11=(0:Int) then(if (l10.length:Int)=(1:Int) then(idx l10 0).bind fun a21=>some (decide (a21.2.1=[108,105,115,116,115])) else some false) else some false) else some false) else some false)).bind fun b16=>some b16
def custody_body (p0:(List (Ls × Ls) × Ls)):Option (Ls × Bool) :=
 (canonical_Body p0.2).bind fun(l1,(n2,n3))=>(sign_Sum 0 l1).bind fun n5=>(sign_Hex n5).bind fun s7=>(Y02 (n2,n3)).bind fun b9=>some (s7,!b9)
def custody_seals_L1 (p0:(List (Ls × Ls) × Ls)):Nat→List Ls→Int→Option (List Ls)
 | 0,_,_=>none
 | m11+1,l7,n10=>(if n10<(p0.1.length:Int) then(idx p0.1 n10).bind fun a14=>(Y0Q a14.1 [77,97,105,108,45,67,117,115,116,111,100,121]).bind fun b15=>(if b15=true then(app 16 l7 ([a14.2]:List Ls)).bind fun l18=>(chk (n10+1)).bind fun n19=>custody_seals_L1 p0 m11 l18 n19 else(chk (n10+1)).bind fun n20=>custody_seals_L1 p0 m11 l7 n20) else some l7)
def custody_seals (p0:(List (Ls × Ls) × Ls)):Option (List Ls) :=
 (custody_seals_L1 p0 FU [] 0).bind fun l4=>some l4
def custody_value (p0:Ls)(p1:Ls)(p2:Ls)(p3:Ls)(p4:Int)(p5:List Ls):Option Ls :=
 (cat [110,61] p0).bind fun s1=>(cat s1 [59,32,121,61]).bind fun s2=>(cat s2 p1).bind fun s3=>(cat s3 [59,32,114,61]).bind fun s4=>(cat s4 p2).bind fun s5=>(cat s5 [59,32,98,61]).bind fun s6=>(cat s6 p3).bind fun s7=>(cat s7 [59,32,115,61]).bind fun s8=>(Y0S p5 [10]).bind fun s9=>(cat s8 s9).bind fun s11=>(toB s11).bind fun l12=>(sign_Sum p4 l12).bind fun n13=>(sign_Hex n13).bind fun s15=>(cat s8 s15).bind fun s17=>some s17
def custody_Seal (p0:(List (Ls × Ls) × Ls))(p1:Ls)(p2:Int)(p3:Ls):Option ((List (Ls × Ls) × Ls) × (Int × Int)) :=
 (message_Validate (p0.1,p0.2)).bind fun(n1,n2)=>(Y02 (n1,n2)).bind fun b4=>(if b4=true then some (([],[]),(n1,n2)) else(custody_body (p0.1,p0.2)).bind fun(s7,b8)=>(Y0z p1).bind fun b10=>(if b10=true then(Y0z p3).bind fun b16=>(if b16=true then(if b8=true then(custody_seals (p0.1,p0.2)).bind fun l26=>(chk ((l26.length:Int)+1)).bind fun n28=>(strconv_Itoa n28).bind fun s29=>(custody_value s29 p1 p3 s7 p2 l26).bind fun s31=>(trace_Front (p0.1,p0.2) [77,97,105,108,45,67,117,115,116,111,100,121] s31).bind fun(l33,l34)=>(message_Validate (l33,l34)).bind fun(n41,n42)=>(Y02 (n41,n42)).bind fun b44=>(if b44=true then(Y03 n41 (-23)).bind fun(n47,n48)=>some (([],[]),(n47,n48)) else(Y0b).bind fun(n50,n51)=>some ((l33,l34),(n50,n51))) else(Y03 17 (-22)).bind fun(n23,n24)=>some (([],[]),(n23,n24))) else(Y03 10 (-21)).bind fun(n19,n20)=>some (([],[]),(n19,n20))) else(Y03 10 (-20)).bind fun(n13,n14)=>some (([],[]),(n13,n14))))
def posthouseref5_KeyOf_L1 (p0:List (Ls × Int))(p1:Ls):Nat→Int→Option (Unit ⊕ (Int × Bool))
 | 0,_=>none
 | m4+1,n3=>(if n3<(p0.length:Int) then(idx p0 n3).bind fun a6=>(if a6.1=p1 then(idx p0 n3).bind fun a8=>some (.inr (a8.2,true)) else(chk (n3+1)).bind fun n9=>posthouseref5_KeyOf_L1 p0 p1 m4 n9) else some (.inl ()))
def posthouseref5_KeyOf (p0:List (Ls × Int))(p1:Ls):Option (Int × Bool) :=
 ((posthouseref5_KeyOf_L1 p0 p1 FU 0:Option (Unit ⊕ (Int × Bool)))).bind fun o12=>(match o12 with | .inl _=>some (0,false) | .inr r11=>some r11)
def sign_Keys_L1 (p0:List (Ls × Int)):Nat→Int→Int→Int→Option ((Int × Int) ⊕ (Int × Int))
 | 0,_,_,_=>none
 | m12+1,n9,n10,n11=>(if n11<(p0.length:Int) then(idx p0 n11).bind fun a14=>(Y0z a14.1).bind fun b15=>(if b15=true then(chk (n11+1)).bind fun n22=>sign_Keys_L1 p0 m12 n9 n10 n22 else(chk ((-30)-n11)).bind fun n18=>(Y03 10 n18).bind fun(n19,n20)=>some (.inr (n19,n20))) else some (.inl (n9,n10)))
def sign_Keys (p0:List (Ls × Int)):Option (Int × Int) :=
 (if (60:Int)<(p0.length:Int) then(Y03 2 (-24)).bind fun(n2,n3)=>some (n2,n3) else((sign_Keys_L1 p0 FU 0 0 0:Option ((Int × Int) ⊕ (Int × Int)))).bind fun o28=>(match o28 with | .inl (n7,n8)=>(Y0b).bind fun(n24,n25)=>some (n24,n25) | .inr r27=>some r27))
def Y0r (p0:Ls)(p1:Ls):Option (Ls × Bool) :=
 (Y0m p0 p1).bind fun b1=>(if b1=true then(cut p0 (p1.length:Int) (p0.length:Int)).bind fun s4=>some (s4,true) else some (p0,false))
def Y0s (p0:Ls)(p1:Ls):Option (Ls × Bool) :=
 (Y0r p0 p1).bind fun(s1,b2)=>some (s1,b2)
def sign_Values_L1 (p1:Ls)(l1:List Ls):Nat→List Ls→Int→Option (List Ls ⊕ (List Ls × Bool))
 | 0,_,_=>none
 | m10+1,l8,n9=>(if n9<(l1.length:Int) then(idx l8 n9).bind fun a12=>(chk (n9+1)).bind fun n13=>(cut p1 n9 n13).bind fun s14=>(cat s14 [61]).bind fun s15=>(Y0s a12 s15).bind fun(s16,b17)=>(if b17=true then(idx l8 n9).bind fun a20=>(put l8 n9 s16).bind fun l21=>(chk (n9+1)).bind fun n22=>sign_Values_L1 p1 l1 m10 l21 n22 else some (.inr ([],false))) else some (.inl l8))
def sign_Values (p0:Ls)(p1:Ls):Option (List Ls × Bool) :=
 (Y0g p0 [59,32]).bind fun l1=>(if (l1.length:Int)=(p1.length:Int) then((sign_Values_L1 p1 l1 FU l1 0:Option (List Ls ⊕ (List Ls × Bool)))).bind fun o26=>(match o26 with | .inl l7=>some (l7,true) | .inr r25=>some r25) else some ([],false))
def sign_IsHex_1 (p0:UInt8):Option Bool :=
 ((if 48≤p0.toNat then(if p0.toNat≤57 then some true else(if 97≤p0.toNat then some (decide (p0.toNat≤102)) else some false)) else(if 97≤p0.toNat then some (decide (p0.toNat≤102)) else some false))).bind fun b3=>some b3
def sign_IsHex (p0:Ls):Option Bool :=
 ((if (p0.length:Int)=(16:Int) then(Y1a p0 sign_IsHex_1).bind fun b5=>some b5 else some false)).bind fun b3=>some b3
def Y07 (p0:List (Ls × Int))(p1:((Ls × Int)→Option Bool)):Nat→Int→Option (Unit ⊕ Int)
 | 0,_=>none
 | m4+1,n3=>(if n3<(p0.length:Int) then(idx p0 n3).bind fun a6=>(p1 (a6.1,a6.2)).bind fun b7=>(if b7=true then some (.inr n3) else(chk (n3+1)).bind fun n10=>Y07 p0 p1 m4 n10) else some (.inl ()))
def Y0V (p0:List (Ls × Int))(p1:((Ls × Int)→Option Bool)):Option Int :=
 ((Y07 p0 p1 FU 0:Option (Unit ⊕ Int))).bind fun o13=>(match o13 with | .inl _=>some (-1) | .inr r12=>some r12)
def sign_Key_1 (p0:(Ls × Int))(p1:Ls):Option Bool :=
 some (decide (p0.1=p1))
def sign_Key (p0:List (Ls × Int))(p1:Ls):Option (Int × Bool) :=
 (Y0V p0 (fun z0=>sign_Key_1 z0 p1)).bind fun n2=>(if n2<(0:Int) then some (0,false) else(idx p0 n2).bind fun a5=>some (a5.2,true))
def custody_Check_1 (p0:Int)(p1:Ls)(p2:List Ls)(p3:List (Ls × Int))(p4:Ls):Option Bool :=
 (sign_Values p1 [110,121,114,98,115]).bind fun(l1,b2)=>((if b2=true then(idx l1 0).bind fun a7=>(chk ((p2.length:Int)-p0)).bind fun n8=>(strconv_Itoa n8).bind fun s9=>(if a7=s9 then(idx l1 1).bind fun a12=>(Y0z a12).bind fun b13=>(if b13=true then(idx l1 2).bind fun a15=>(Y0z a15).bind fun b16=>(if b16=true then(idx l1 3).bind fun a18=>(sign_IsHex a18).bind fun b19=>some (!b19) else some true) else some true) else some true) else some true)).bind fun b6=>(if b6=true then some false else(idx l1 1).bind fun a23=>(sign_Key p3 a23).bind fun(n24,b25)=>((if b25=true then(idx l1 0).bind fun a30=>(idx l1 1).bind fun a31=>(idx l1 2).bind fun a32=>(idx l1 3).bind fun a33=>(chk (p0+1)).bind fun n34=>(cut p2 n34 (p2.length:Int)).bind fun l35=>(custody_value a30 a31 a32 a33 n24 l35).bind fun s36=>(if s36=p1 then(if (0:Int)<p0 then some true else(idx l1 3).bind fun a40=>some (decide (a40=p4))) else some false) else some false)).bind fun b29=>some b29)
def custody_Check_L1 (p1:List (Ls × Int))(l13:List Ls)(s15:Ls):Nat→Bool→Int→Option Bool
 | 0,_,_=>none
 | m26+1,b24,n25=>(if n25<(l13.length:Int) then(idx l13 n25).bind fun a28=>((if b24=true then(custody_Check_1 n25 a28 l13 p1 s15).bind fun b32=>some b32 else some false)).bind fun b31=>(chk (n25+1)).bind fun n35=>custody_Check_L1 p1 l13 s15 m26 b31 n35 else some b24)
def custody_Check (p0:(List (Ls × Ls) × Ls))(p1:List (Ls × Int)):Option (Int × Bool × (Int × Int)) :=
 (message_Validate (p0.1,p0.2)).bind fun(n1,n2)=>(Y02 (n1,n2)).bind fun b4=>(if b4=true then some (0,false,(n1,n2)) else(sign_Keys p1).bind fun(n7,n8)=>(Y02 (n7,n8)).bind fun b10=>(if b10=true then some (0,false,(n7,n8)) else(custody_seals (p0.1,p0.2)).bind fun l13=>(custody_body (p0.1,p0.2)).bind fun(s15,b16)=>(custody_Check_L1 p1 l13 s15 FU b16 0).bind fun b23=>((if b23=true then(Y0b).bind fun(n46,n47)=>some ((l13.length:Int),true,n46,n47) else(Y0b).bind fun(n43,n44)=>some ((l13.length:Int),decide ((l13.length:Int)=(0:Int)),n43,n44))).bind fun(n39,b40,n41,n42)=>some (n39,b40,(n41,n42))))
def sign_verdict (p0:(List (Ls × Ls) × Ls))(p1:Ls)(p2:List (Ls × Int)):Option (Ls × Int) :=
 (sign_Values p1 [100,104,98,115]).bind fun(l1,b2)=>((if b2=true then(idx l1 0).bind fun a7=>(Y0z a7).bind fun b8=>(if b8=true then(idx l1 1).bind fun a10=>(Y0g a10 [58]).bind fun l11=>(sign_named l11).bind fun b15=>(if b15=true then(idx l1 2).bind fun a17=>(sign_IsHex a17).bind fun b18=>(if b18=true then(idx l1 3).bind fun a20=>(sign_IsHex a20).bind fun b21=>some (!b21) else some true) else some true) else some true) else some true)).bind fun b6=>(if b6=true then some ([],4) else(idx l1 0).bind fun a25=>(sign_Key p2 a25).bind fun(n26,b27)=>(if b27=true then(idx l1 0).bind fun a31=>(idx l1 1).bind fun a32=>(Y0g a32 [58]).bind fun l33=>(sign_value (p0.1,p0.2) a31 n26 l33).bind fun(s37,b38)=>(if s37=p1 then(idx l1 0).bind fun a42=>some (a42,1) else(idx l1 0).bind fun a41=>some (a41,2)) else(idx l1 0).bind fun a30=>some (a30,3)))
def sign_Verify_L1 (p0:(List (Ls × Ls) × Ls))(p1:List (Ls × Int)):Nat→List (Ls × Int)→Int→Option (List (Ls × Int))
 | 0,_,_=>none
 | m23+1,l20,n22=>(if n22<(p0.1.length:Int) then(idx p0.1 n22).bind fun a26=>(Y0Q a26.1 [77,97,105,108,45,83,105,103,110,97,116,117,114,101]).bind fun b27=>(if b27=true then(sign_verdict (p0.1,p0.2) a26.2 p1).bind fun(s30,n31)=>(app 24 l20 ([(s30,n31)]:List (Ls × Int))).bind fun l33=>(chk (n22+1)).bind fun n34=>sign_Verify_L1 p0 p1 m23 l33 n34 else(chk (n22+1)).bind fun n35=>sign_Verify_L1 p0 p1 m23 l20 n35) else some l20)
def sign_Verify (p0:(List (Ls × Ls) × Ls))(p1:List (Ls × Int)):Option (List (Ls × Int) × (Int × Int)) :=
 (message_Validate (p0.1,p0.2)).bind fun(n1,n2)=>(Y02 (n1,n2)).bind fun b4=>(if b4=true then some ([],(n1,n2)) else(sign_Keys p1).bind fun(n7,n8)=>(Y02 (n7,n8)).bind fun b10=>(if b10=true then some ([],(n7,n8)) else(sign_Verify_L1 p0 p1 FU [] 0).bind fun l16=>(Y0b).bind fun(n37,n38)=>some (l16,(n37,n38))))
def Top_TopSignaturesPassRelays_L1 (p4:List Ls)(p5:Ls):Nat→List (Ls × Ls)→Ls→List (Ls × Int)→Int→Option ((List (Ls × Ls) × Ls × List (Ls × Int)) ⊕ Bool)
 | 0,_,_,_,_=>none
 | m43+1,l33,l36,l40,n42=>(if n42<(p4.length:Int) then(app 32 ([([82,101,99,101,105,118,101,100],p5)]:List (Ls × Ls)) l33).bind fun l47=>(idx p4 n42).bind fun a49=>(custody_Seal (l47,l36) a49 (IntKind.u64.wrap n42) [112,97,115,115]).bind fun((l50,l51),(n52,n53))=>(if n52=(0:Int) then(idx p4 n42).bind fun a66=>(posthouseref5_KeyOf l40 a66).bind fun(n67,b68)=>(if b68=true then(Top_h11Fixed).bind fun b71=>some (.inr b71) else(idx p4 n42).bind fun a73=>(app 24 l40 ([(a73,(IntKind.u64.wrap n42))]:List (Ls × Int))).bind fun l74=>(chk (n42+1)).bind fun n75=>Top_TopSignaturesPassRelays_L1 p4 p5 m43 l50 l51 l74 n75) else(Top_h11Fixed).bind fun b64=>some (.inr b64)) else some (.inl (l33,l36,l40)))
def Top_TopSignaturesPassRelays (p0:(List (Ls × Ls) × Ls))(p1:Ls)(p2:Int)(p3:List Ls)(p4:List Ls)(p5:Ls):Option Bool :=
 (sign_Sign (p0.1,p0.2) p1 p2 p3).bind fun((l1,l2),(n3,n4))=>((if n3=(0:Int) then(posthouseref5_Has p3 [114,101,99,101,105,118,101,100]).bind fun b10=>(if b10=true then some true else(posthouseref5_Has p3 [109,97,105,108,45,99,117,115,116,111,100,121]).bind fun b12=>(if b12=true then some true else(if (10:Int)<(p4.length:Int) then some true else(posthouseref5_Values (p0.1,p0.2) [109,97,105,108,45,99,117,115,116,111,100,121]).bind fun l15=>some (decide ((0:Int)<(l15.length:Int)))))) else some true)).bind fun b8=>(if b8=true then(Top_h11Fixed).bind fun b19=>some b19 else((Top_TopSignaturesPassRelays_L1 p4 p5 FU l1 l2 [] 0:Option ((List (Ls × Ls) × Ls × List (Ls × Int)) ⊕ Bool))).bind fun o100=>(match o100 with | .inl (l23,l26,l30)=>(custody_Check (l23,l26) l30).bind fun(n78,b79,(n80,n81))=>(sign_Verify (l23,l26) ([(p1,p2)]:List (Ls × Int))).bind fun(l83,(n84,n85))=>((if n80=(0:Int) then(if n84=(0:Int) then(if b79=true then(if n78=(p4.length:Int) then(if (0:Int)<(l83.length:Int) then(idx l83 0).bind fun a94=>(if a94.1=p1∧a94.2=1 then(Top_h11Fixed).bind fun b96=>some b96 else some false) else some false) else some false) else some false) else some false) else some false)).bind fun b89=>some b89 | .inr r99=>some r99))
end Go.Ph.Pf
end
section
namespace Go.Proofs.YtglpkikfplcckaaGreatDoor
open Go Go.RowKit Go.Ph Go.Ph.Pl Go.Ph.Pf
abbrev xenc37 (x:(Ls × Ls)):List Value:=[S x.1,S x.2]
abbrev xenc7002 (x:(Int × Int × Unit × Ls × Int × Ls × Int × Unit × Unit × Int × Ls × Ls × Int)):List Value:=[I x.1,I x.2.1,Value.slice none 0 0,S x.2.2.2.1,I x.2.2.2.2.1,S x.2.2.2.2.2.1,I x.2.2.2.2.2.2.1,Value.slice none 0 0,Value.slice none 0 0,I x.2.2.2.2.2.2.2.2.2.1,S x.2.2.2.2.2.2.2.2.2.2.1,S x.2.2.2.2.2.2.2.2.2.2.2.1,I x.2.2.2.2.2.2.2.2.2.2.2.2]
abbrev xenc68 (x:(Ls × Int)):List Value:=[S x.1,I x.2]
abbrev xenc75 (x:(Int × Ls × Int)):List Value:=[I x.1,S x.2.1,I x.2.2]
abbrev xenc42 (x:(Ls × Int)):List Value:=[S x.1,Value.int .u64 x.2]
abbrev xenc49 (x:(Ls × Int)):List Value:=[S x.1,I x.2]
theorem xty22 : ElemTy Tryz.prog 22 37 (.agg #[.string ⟨#[]⟩, .string ⟨#[]⟩]) 2 32:=q1b Tu22 Kr rfl Dc
theorem xone37 :∀(a:(Ls × Ls)),∀u∈xenc37 a,u.oneCell'=true:=by
 intro a u hu;simp only[xenc37,l0v,l0o,or_false] at hu;rcases hu with rfl|rfl <;> rfl
theorem xty23 : ElemTy Tryz.prog 23 5 (.int .u8 0) 1 1:=q1b Tu23 Kr rfl Dc
theorem xplaces29 :∀{fs:Array Field},Tryz.prog.underlying 29=some (.struct fs)→∀w,(fs.mapM fun f=>do pure (f.offset,←sizeOf f.type):Sem (Array (Nat × Nat))).run Tryz.prog w = .ok #[(0,1),(1,1)] w:=by
 intro fs h w;rw[Tu29] at h;cases h;simp
def FnT113 (M:Mem)(v:Value)(g:(UInt8→Option Bool)):Prop :=∀(a0:UInt8) (r:Bool),g a0=some r→FnV Tryz.prog M v [encB a0] (fun v M=>v=Value.bool r)
theorem FnT113.mono {M M':Mem}{v:Value}{g:(UInt8→Option Bool)}(h:FnT113 M v g)(hl:M.le M'):FnT113 M' v g:=fun a0 r hr=>(h a0 r hr).mono hl
theorem xty27 : ElemTy Tryz.prog 27 9 (.string ⟨#[]⟩) 1 16:=q1b Tu27 Kr rfl Dc
theorem xplaces25 :∀{fs:Array Field},Tryz.prog.underlying 25=some (.struct fs)→∀w,(fs.mapM fun f=>do pure (f.offset,←sizeOf f.type):Sem (Array (Nat × Nat))).run Tryz.prog w = .ok #[(0,1),(1,1)] w:=by
 intro fs h w;rw[Tu25] at h;cases h;simp
def FnT53 (M:Mem)(v:Value)(g:(Ls→Option Bool)):Prop :=∀(a0:Ls) (r:Bool),g a0=some r→FnV Tryz.prog M v [S a0] (fun v M=>v=Value.bool r)
theorem FnT53.mono {M M':Mem}{v:Value}{g:(Ls→Option Bool)}(h:FnT53 M v g)(hl:M.le M'):FnT53 M' v g:=fun a0 r hr=>(h a0 r hr).mono hl
theorem xty120 : ElemTy Tryz.prog 120 4 (.bool false) 1 1:=q1b Tu120 Kr rfl Dc
theorem xplaces37 :∀{fs:Array Field},Tryz.prog.underlying 37=some (.struct fs)→∀w,(fs.mapM fun f=>do pure (f.offset,←sizeOf f.type):Sem (Array (Nat × Nat))).run Tryz.prog w = .ok #[(0,1),(1,1)] w:=by
 intro fs h w;rw[Tu37] at h;cases h;simp
abbrev xenr22 (f:Hd):List Value:=[hv f]
abbrev xrl22 : Rl Hd (List (Ls × Ls)) where
 k:=1
 enc:=xenr22
 rel M f x:=SlS M 2 xenc37 (hv f) x
 len:=fun _=>rfl
 one:=by
  intro f u hu;simp only[l0v,l0o,or_false] at hu;rcases hu with rfl <;> rfl
 up:=by intro M M' hl f x h;exact h.mono hl
theorem xty132 : ElemTy Tryz.prog 132 22 (.slice none 0 0) 1 24:=q1b Tu132 Kr rfl Dc
theorem xplaces103 :∀{fs:Array Field},Tryz.prog.underlying 103=some (.struct fs)→∀w,(fs.mapM fun f=>do pure (f.offset,←sizeOf f.type):Sem (Array (Nat × Nat))).run Tryz.prog w = .ok #[(0,1),(1,1),(2,3),(5,1),(6,1),(7,1),(8,1)] w:=by
 intro fs h w;rw[Tu103] at h;cases h;simp
theorem xplaces101 :∀{fs:Array Field},Tryz.prog.underlying 101=some (.struct fs)→∀w,(fs.mapM fun f=>do pure (f.offset,←sizeOf f.type):Sem (Array (Nat × Nat))).run Tryz.prog w = .ok #[(0,1),(1,1),(2,1)] w:=by
 intro fs h w;rw[Tu101] at h;cases h;simp
abbrev xenr141 (f:(Int × Int × Unit × Ls × Int × Ls × Int × Hd × Hd × Int × Ls × Ls × Int)):List Value:=[I f.1,I f.2.1,Value.slice none 0 0,S f.2.2.2.1,I f.2.2.2.2.1,S f.2.2.2.2.2.1,I f.2.2.2.2.2.2.1,hv f.2.2.2.2.2.2.2.1,hv f.2.2.2.2.2.2.2.2.1,I f.2.2.2.2.2.2.2.2.2.1,S f.2.2.2.2.2.2.2.2.2.2.1,S f.2.2.2.2.2.2.2.2.2.2.2.1,I f.2.2.2.2.2.2.2.2.2.2.2.2]
abbrev xrl141 : Rl (Int × Int × Unit × Ls × Int × Ls × Int × Hd × Hd × Int × Ls × Ls × Int) (Int × Int × Unit × Ls × Int × Ls × Int × List (Int × Int × Unit × Ls × Int × Ls × Int × Unit × Unit × Int × Ls × Ls × Int) × List (Int × Int × Unit × Ls × Int × Ls × Int × Unit × Unit × Int × Ls × Ls × Int) × Int × Ls × Ls × Int) where
 k:=13
 enc:=xenr141
 rel M f x:=f.1=x.1∧f.2.1=x.2.1∧f.2.2.1=x.2.2.1∧f.2.2.2.1=x.2.2.2.1∧f.2.2.2.2.1=x.2.2.2.2.1∧f.2.2.2.2.2.1=x.2.2.2.2.2.1∧f.2.2.2.2.2.2.1=x.2.2.2.2.2.2.1∧SlS M 13 xenc7002 (hv f.2.2.2.2.2.2.2.1) x.2.2.2.2.2.2.2.1∧SlS M 13 xenc7002 (hv f.2.2.2.2.2.2.2.2.1) x.2.2.2.2.2.2.2.2.1∧f.2.2.2.2.2.2.2.2.2.1=x.2.2.2.2.2.2.2.2.2.1∧f.2.2.2.2.2.2.2.2.2.2.1=x.2.2.2.2.2.2.2.2.2.2.1∧f.2.2.2.2.2.2.2.2.2.2.2.1=x.2.2.2.2.2.2.2.2.2.2.2.1∧f.2.2.2.2.2.2.2.2.2.2.2.2=x.2.2.2.2.2.2.2.2.2.2.2.2
 len:=fun _=>rfl
 one:=by
  intro f u hu;simp only[l0v,l0o,or_false] at hu;rcases hu with rfl|rfl|rfl|rfl|rfl|rfl|rfl|rfl|rfl|rfl|rfl|rfl|rfl <;> rfl
 up:=by intro M M' hl f x h;exact ⟨h.1,h.2.1,h.2.2.1,h.2.2.2.1,h.2.2.2.2.1,h.2.2.2.2.2.1,h.2.2.2.2.2.2.1,h.2.2.2.2.2.2.2.1.mono hl,h.2.2.2.2.2.2.2.2.1.mono hl,h.2.2.2.2.2.2.2.2.2.1,h.2.2.2.2.2.2.2.2.2.2.1,h.2.2.2.2.2.2.2.2.2.2.2.1,h.2.2.2.2.2.2.2.2.2.2.2.2⟩
theorem xplaces139 :∀{fs:Array Field},Tryz.prog.underlying 139=some (.struct fs)→∀w,(fs.mapM fun f=>do pure (f.offset,←sizeOf f.type):Sem (Array (Nat × Nat))).run Tryz.prog w = .ok #[(0,1),(1,1),(2,1),(3,1),(4,1),(5,1)] w:=by
 intro fs h w;rw[Tu139] at h;cases h;simp
theorem xplaces7002 :∀{fs:Array Field},Tryz.prog.underlying 141=some (.struct fs)→∀w,(fs.mapM fun f=>do pure (f.offset,←sizeOf f.type):Sem (Array (Nat × Nat))).run Tryz.prog w = .ok #[(0,1),(1,6),(7,1),(8,1),(9,1),(10,1),(11,1),(12,1)] w:=by
 intro fs h w;rw[Tu141] at h;cases h;simp
theorem xty7003 : ElemTy Tryz.prog 61 141 (.agg #[.int .i64 0, .int .i64 0, .slice none 0 0, .string ⟨#[]⟩, .int .i64 0, .string ⟨#[]⟩, .int .i64 0, .slice none 0 0, .slice none 0 0, .int .i64 0, .string ⟨#[]⟩, .string ⟨#[]⟩, .int .i64 0]) 13 184:=q1b Tu61 Kr rfl Dc
theorem xone7002 :∀(a:(Int × Int × Unit × Ls × Int × Ls × Int × Unit × Unit × Int × Ls × Ls × Int)),∀u∈xenc7002 a,u.oneCell'=true:=by
 intro a u hu;simp only[xenc7002,l0v,l0o,or_false] at hu;rcases hu with rfl|rfl|rfl|rfl|rfl|rfl|rfl|rfl|rfl|rfl|rfl|rfl|rfl <;> rfl
theorem xplaces141 :∀{fs:Array Field},Tryz.prog.underlying 141=some (.struct fs)→∀w,(fs.mapM fun f=>do pure (f.offset,←sizeOf f.type):Sem (Array (Nat × Nat))).run Tryz.prog w = .ok #[(0,1),(1,6),(7,1),(8,1),(9,1),(10,1),(11,1),(12,1)] w:=by
 intro fs h w;rw[Tu141] at h;cases h;simp
theorem xty61 : ElemTy Tryz.prog 61 141 (.agg #[.int .i64 0, .int .i64 0, .slice none 0 0, .string ⟨#[]⟩, .int .i64 0, .string ⟨#[]⟩, .int .i64 0, .slice none 0 0, .slice none 0 0, .int .i64 0, .string ⟨#[]⟩, .string ⟨#[]⟩, .int .i64 0]) 13 184:=q1b Tu61 Kr rfl Dc
abbrev xenr7003 (f:Hd):List Value:=[hv f]
abbrev xrl7003 : Rl Hd (List (Int × Int × Unit × Ls × Int × Ls × Int × Unit × Unit × Int × Ls × Ls × Int)) where
 k:=1
 enc:=xenr7003
 rel M f x:=SlS M 13 xenc7002 (hv f) x
 len:=fun _=>rfl
 one:=by
  intro f u hu;simp only[l0v,l0o,or_false] at hu;rcases hu with rfl <;> rfl
 up:=by intro M M' hl f x h;exact h.mono hl
theorem xty7004 : ElemTy Tryz.prog 145 61 (.slice none 0 0) 1 24:=q1b Tu145 Kr rfl Dc
theorem xty7005 : ElemTy Tryz.prog 145 61 (.slice none 0 0) 1 24:=q1b Tu145 Kr rfl Dc
theorem xplaces68 :∀{fs:Array Field},Tryz.prog.underlying 68=some (.struct fs)→∀w,(fs.mapM fun f=>do pure (f.offset,←sizeOf f.type):Sem (Array (Nat × Nat))).run Tryz.prog w = .ok #[(0,1),(1,1)] w:=by
 intro fs h w;rw[Tu68] at h;cases h;simp
theorem xty69 : ElemTy Tryz.prog 69 68 (.agg #[.string ⟨#[]⟩, .int .i64 0]) 2 24:=q1b Tu69 Kr rfl Dc
theorem xplaces71 :∀{fs:Array Field},Tryz.prog.underlying 71=some (.struct fs)→∀w,(fs.mapM fun f=>do pure (f.offset,←sizeOf f.type):Sem (Array (Nat × Nat))).run Tryz.prog w = .ok #[(0,1),(1,1),(2,1)] w:=by
 intro fs h w;rw[Tu71] at h;cases h;simp
theorem xplaces73 :∀{fs:Array Field},Tryz.prog.underlying 73=some (.struct fs)→∀w,(fs.mapM fun f=>do pure (f.offset,←sizeOf f.type):Sem (Array (Nat × Nat))).run Tryz.prog w = .ok #[(0,3),(3,2)] w:=by
 intro fs h w;rw[Tu73] at h;cases h;simp
def FnT195 (M:Mem)(v:Value)(g:((Ls × Int)→Option Bool)):Prop :=∀(a0:(Ls × Int)) (r:Bool),g a0=some r→FnV Tryz.prog M v [Value.agg #[S a0.1,I a0.2]] (fun v M=>v=Value.bool r)
theorem FnT195.mono {M M':Mem}{v:Value}{g:((Ls × Int)→Option Bool)}(h:FnT195 M v g)(hl:M.le M'):FnT195 M' v g:=fun a0 r hr=>(h a0 r hr).mono hl
theorem xplaces151 :∀{fs:Array Field},Tryz.prog.underlying 151=some (.struct fs)→∀w,(fs.mapM fun f=>do pure (f.offset,←sizeOf f.type):Sem (Array (Nat × Nat))).run Tryz.prog w = .ok #[(0,5),(5,1),(6,1),(7,1),(8,1)] w:=by
 intro fs h w;rw[Tu151] at h;cases h;simp
theorem xplaces108 :∀{fs:Array Field},Tryz.prog.underlying 108=some (.struct fs)→∀w,(fs.mapM fun f=>do pure (f.offset,←sizeOf f.type):Sem (Array (Nat × Nat))).run Tryz.prog w = .ok #[(0,1),(1,1),(2,1)] w:=by
 intro fs h w;rw[Tu108] at h;cases h;simp
theorem xplaces75 :∀{fs:Array Field},Tryz.prog.underlying 75=some (.struct fs)→∀w,(fs.mapM fun f=>do pure (f.offset,←sizeOf f.type):Sem (Array (Nat × Nat))).run Tryz.prog w = .ok #[(0,1),(1,1),(2,1)] w:=by
 intro fs h w;rw[Tu75] at h;cases h;simp
theorem xty64 : ElemTy Tryz.prog 64 75 (.agg #[.int .i64 0, .string ⟨#[]⟩, .int .i64 0]) 3 32:=q1b Tu64 Kr rfl Dc
theorem xone75 :∀(a:(Int × Ls × Int)),∀u∈xenc75 a,u.oneCell'=true:=by
 intro a u hu;simp only[xenc75,l0v,l0o,or_false] at hu;rcases hu with rfl|rfl|rfl <;> rfl
theorem xplaces42 :∀{fs:Array Field},Tryz.prog.underlying 42=some (.struct fs)→∀w,(fs.mapM fun f=>do pure (f.offset,←sizeOf f.type):Sem (Array (Nat × Nat))).run Tryz.prog w = .ok #[(0,1),(1,1)] w:=by
 intro fs h w;rw[Tu42] at h;cases h;simp
theorem xty35 : ElemTy Tryz.prog 35 42 (.agg #[.string ⟨#[]⟩, .int .u64 0]) 2 24:=q1b Tu35 Kr rfl Dc
theorem xone42 :∀(a:(Ls × Int)),∀u∈xenc42 a,u.oneCell'=true:=by
 intro a u hu;simp only[xenc42,l0v,l0o,or_false] at hu;rcases hu with rfl|rfl <;> rfl
def FnT115 (M:Mem)(v:Value)(g:((Ls × Int)→Option Bool)):Prop :=∀(a0:(Ls × Int)) (r:Bool),g a0=some r→FnV Tryz.prog M v [Value.agg #[S a0.1,Value.int .u64 a0.2]] (fun v M=>v=Value.bool r)
theorem FnT115.mono {M M':Mem}{v:Value}{g:((Ls × Int)→Option Bool)}(h:FnT115 M v g)(hl:M.le M'):FnT115 M' v g:=fun a0 r hr=>(h a0 r hr).mono hl
theorem xplaces49 :∀{fs:Array Field},Tryz.prog.underlying 49=some (.struct fs)→∀w,(fs.mapM fun f=>do pure (f.offset,←sizeOf f.type):Sem (Array (Nat × Nat))).run Tryz.prog w = .ok #[(0,1),(1,1)] w:=by
 intro fs h w;rw[Tu49] at h;cases h;simp
theorem xty45 : ElemTy Tryz.prog 45 49 (.agg #[.string ⟨#[]⟩, .int .i64 0]) 2 24:=q1b Tu45 Kr rfl Dc
theorem xone49 :∀(a:(Ls × Int)),∀u∈xenc49 a,u.oneCell'=true:=by
 intro a u hu;simp only[xenc49,l0v,l0o,or_false] at hu;rcases hu with rfl|rfl <;> rfl
theorem xeq49 (a0 b0:Ls)(a1 b1:Int)(w:World):(Op.equalIn 10000 49 (.agg #[S a0, .int .i64 a1]) (.agg #[S b0, .int .i64 b1])).run Tryz.prog w = .ok (decide (a0=b0∧a1=b1)) w:=by
 rw[run_equalIn_struct w 9999 49 _ _ (by rw[Program.fieldsOf,Tu49]) Kr];rw[Program.fieldsOf,Tu49];by_cases h0:a0=b0
 rotate_left
 · simp [Op.eqFields,part,h0,Ta3,Ta9,run_equalIn_int _ _ _ _ _ _ _ Tu3,run_equalIn_string _ _ _ _ _ Tu9]
 by_cases h1:a1=b1
 rotate_left
 · simp [Op.eqFields,part,h0,h1,Ta3,Ta9,run_equalIn_int _ _ _ _ _ _ _ Tu3,run_equalIn_string _ _ _ _ _ Tu9]
 simp [Op.eqFields,part,h0,h1,Ta3,Ta9,run_equalIn_int _ _ _ _ _ _ _ Tu3,run_equalIn_string _ _ _ _ _ Tu9]
theorem bytesOf_nats (l:Ls):Lib.bytesOf (l.map fun u=>(u.toNat:Int))=l:=by
 unfold Lib.bytesOf;rw[l1x]
 conv=>rhs;rw [←List.map_id l]
 apply l1q;intro u _;simp
theorem indexByte_ixB (l:Ls)(c:UInt8):Lib.indexByte l c=ixB l c:=by
 unfold ixB;induction l with
 | nil=>simp [Lib.indexByte]
 | cons b l ih =>
   simp only[Lib.indexByte,List.idxOf_cons,l02];by_cases h:b=c
   · subst h;simp
   have h':(b == c)=false:=by simpa using h
   rw[h',ih];simp only[l0j,if_false,cond_false];by_cases hl:l.idxOf c<l.length
   · have h1:l.idxOf c+1<l.length+1:=by omega
     have h2 :¬(((l.idxOf c:Int) == -1)=true):=by simp only[beq_iff_eq];omega
     simp only[hl,h1,if_true,h2,if_false,l0j];omega
   have h1 :¬(l.idxOf c+1<l.length+1):=by omega
   simp only[hl,h1,if_false];rfl
theorem join_jn (sep:Ls):∀l:List Ls,Lib.join l sep=jn sep l
 | []=>rfl
 | [x]=>Lib.join_one x sep
 | x::y::r=>by
   have h:=join_jn sep (y::r);rw[Lib.join_cons] at h ⊢;rw[jn,←h];simp [Lib.joinTail]
theorem Y0W {p0:Ls}{p1:UInt8}{r:Int}(h:Y0n p0 p1=some r):Ct Tryz.prog 73 [S p0,encB p1] (fun M=>True) (fun v M=>v=I r):=by
 cases h;refine⟨enters Tf73 Kr G,fun w M ha hp=>?_⟩;exact(Tryz.strings_IndexByte ⟨p0.toArray⟩ (p1.toNat:Int) w).mono fun e w' ⟨he,hw⟩=>⟨_,M,he,by subst hw;exact q1k ha,by rw[←indexByte_ixB];simp⟩
theorem Y1K {p0:List Ls}{p1:Ls}{vp0:Value}{r:Ls}(h:Y0S p0 p1=some r):Ct Tryz.prog 43 [vp0,S p1] (fun M=>Sl M encS vp0 p0) (fun v M=>v=S r):=by
 unfold Y0S at h;split at h
 case isFalse=>cases h
 rename_i hb;cases h;refine⟨enters Tryz.func43 Kr G,fun w M ha hp=>?_⟩;obtain⟨A,cp,rfl,hc,hn⟩:=Sl.cells hp ha;rcases l1y p0.length with h0|h0
 · obtain rfl:=l05 h0;exact(Tryz.strings_Join_none A cp ⟨p1.toArray⟩ w).mono fun e w' ⟨he,hw⟩=>⟨_,M,he,by subst hw;exact q1k ha,rfl⟩
 cases A with
 | none=>obtain⟨rfl,_⟩:=hn rfl;simp at h0
 | some ad =>
   obtain⟨A',c',he',h1,⟨h2,h3⟩,h4⟩:=hp;cases he';obtain⟨b,o,cs,t0,fz,e1,e2,e3⟩:=h4 (fun h=>by rw[h] at h0;simp at h0);cases e1;have hmap:(p0.map (fun l=>(⟨l.toArray⟩:ByteArray))).map (·.data.toList)=p0:=by
    rw[l1x]
    conv=>rhs;rw [←List.map_id p0]
    exact l1q (fun l _=>G)
   have hcall:=Tryz.strings_Join b o cp (p0.map (fun l=>(⟨l.toArray⟩:ByteArray))) ⟨p1.toArray⟩ w (fun j x hx=>by
    rw[List.getElem?_map] at hx;obtain⟨y,hy,rfl⟩:=Option.map_eq_some_iff.1 hx;have:=hc ⟨b,o,none⟩ rfl j (encS y) (by rw[List.getElem?_map,hy];rfl);simpa [Addr.add_lit] using this) (ha.lt e2) (by simpa using hb.1) (by simpa using h1) (by rw[hmap,join_jn];simpa using hb.2)
   rw[hmap,join_jn] at hcall;simp only[l0d] at hcall;exact hcall.mono fun e w' ⟨he,hw⟩=>⟨_,M,he,⟨BelowX.of hw _,Mem.le.refl M,fun b' o' hb'=>by rw[hw.block b' (ha.lt hb')];exact ha b' o' hb',fun b' hb'=>rfl⟩,by simp⟩
theorem strconv_Itoa_ct {p0 : Int}{r : Ls}(h : strconv_Itoa p0 = some r): Ct Tryz.prog 26 [I p0] (fun M => GlF (fun w => Lib.TabIs Tryz.prog w "internal/strconv.uint64pow10" .u64 Lib.pow10Tab) M) (fun v M => v = S r) := by
 unfold strconv_Itoa at h;split at h
 case isFalse=>cases h
 rename_i hb;cases h;refine⟨enters Tf26 Kr G,fun w M ha hp=>?_⟩;exact(Tryz.strconv_Itoa p0 hb.1 hb.2 w (hp w ha)).mono fun e w' ⟨he,k,os,hw⟩=>⟨_,M,he,by subst hw;exact q1q ha (below_grow w k os),by rw[itoaP_eq hb]⟩
theorem Y0d {p0:Ls}{p1:Int}{r:Ls}(h:Y0T p0 p1=some r):Ct Tryz.prog 92 [S p0,I p1] (fun M=>True) (fun v M=>v=S r):=by
 unfold Y0T at h;split at h
 case isFalse=>cases h
 rename_i hb;cases h;refine⟨enters Tryz.func92 Kr G,fun w M ha hp=>?_⟩;obtain⟨c,rfl⟩:=l0M hb.1;exact(Tryz.strings_Repeat ⟨p0.toArray⟩ c w Om (by simpa [ByteArray.size] using hb.2.2)).mono fun e w' ⟨he,hw⟩=>⟨_,M,he,q1q ha hw,by simp⟩
theorem Y0B {p0:Ls}{p1:Ls}{r:List Ls}(h:Y0g p0 p1=some r):CtO Tryz.prog 55 [S p0,S p1] (fun M=>GlF (fun w =>∃m,w.cell? ⟨1,0,none⟩=some (.int .i64 m)) M) (fun v M its =>∃x0,v=x0∧its=[RowI 9 encS x0 r]):=by
 unfold Y0g at h;split at h
 case isFalse=>cases h
 rename_i hb;cases h;refine⟨enters Tryz.func55 Kr G,fun w M ha hp=>?_⟩;obtain⟨m,hm⟩:=hp w ha;have h1:=split_len p0 p1 hb.2;have h2:Lib.countB ⟨p0.toArray⟩ ⟨p1.toArray⟩≤p0.length:=by simpa [ByteArray.size] using Lib.countB_le ⟨p1.toArray⟩ (by simpa [ByteArray.size] using hb.2) _ ⟨p0.toArray⟩ (l09 _)
 have hx:=split_of p0 p1;refine(Tryz.strings_Split ⟨p0.toArray⟩ ⟨p1.toArray⟩ m w (by simpa [ByteArray.size] using hb.1) hm (by simpa [ByteArray.size] using hb.2)).mono fun e w' ⟨he,hw⟩=>?_
 have hl:(Lib.splitB ⟨p1.toArray⟩ 0 (Lib.countB ⟨p0.toArray⟩ ⟨p1.toArray⟩) ⟨p0.toArray⟩).map Value.string=(Lib.split p0 p1).map encS:=by
  rw[←hx,l1x];exact l1q fun x _=>by cases x;simp [encS]
 subst hw;rw[h1.symm] at he;exact⟨_,M,_,he,St.allocRow ha (by rw[l0d]) (l09 _) (by simp only[maxLen];omega) (by rw[l0P,hl,l0d]) (by rw[List.toList_toArray,hl,l0E (by rw[l0d];exact l09 _)]),_,G,G⟩
theorem Y1S {p0:Ls}{p1:Ls}{r:Bool}(h:Y0O p0 p1=some r):Ct Tryz.prog 189 [S p0,S p1] (fun M=>GlF (fun w =>∃m,w.cell? ⟨1,0,none⟩=some (.int .i64 m)) M) (fun v M=>v=Value.bool r):=by
 unfold Y0O at h;split at h
 case isFalse=>cases h
 rename_i hb;cases h;refine⟨enters Tryz.func189 Kr G,fun w M ha hp=>?_⟩;obtain⟨m,hm⟩:=hp w ha;exact(Tryz.strings_Contains ⟨p0.toArray⟩ ⟨p1.toArray⟩ m w (by simpa [ByteArray.size] using hb) hm).mono fun e w' ⟨he,hw⟩=>⟨_,M,he,by subst hw;exact q1k ha,rfl⟩
theorem Y1O {p0:Ls}{p1:Ls}{r:Int}(h:Y0H p0 p1=some r):Ct Tryz.prog 154 [S p0,S p1] (fun M=>GlF (fun w =>∃m,w.cell? ⟨1,0,none⟩=some (.int .i64 m)) M) (fun v M=>v=I r):=by
 unfold Y0H at h;split at h
 case isFalse=>cases h
 rename_i hb;cases h;refine⟨enters Tf154 Kr G,fun w M ha hp=>?_⟩;obtain⟨m,hm⟩:=hp w ha;exact(Tryz.stringslite_Index ⟨p0.toArray⟩ ⟨p1.toArray⟩ m w (by simpa [ByteArray.size] using hb) hm).mono fun e w' ⟨he,hw⟩=>⟨_,M,he,by subst hw;exact q1k ha,rfl⟩
theorem copyCheck_ct {b:Nat}{p v:Value}{M0:Mem}(hb:BPM M0 b p):CtX Tryz.prog 93 [ptr b 0] [.blk b (.cells #[p,v] 124)] (fun _=>True) (fun r _ its=>r = .tuple #[]∧its=[.blk b (.cells #[ptr b 0,v] 124)]):=by
 refine q1a Tf93 (enters Tf93 Kr G) G G G ?_;intro w M H _;obtain⟨j,hj,hjs⟩:=Option.map_eq_some_iff.1 (show(Tryz.prog.info? 124).map (·.size)=some 2 by kernel_rfl);have hl:liesAt Tryz.prog Tryz.prog.depth 124 (2 / Tryz.prog.cellsOf 124) 0 124 1=true:=by kernel_rfl
 have hbk:=H.blk (List.Mem.head _);refine WC.seq (WC.region ?_);refine MV G G (FN G G Tu124 G Ts122 G G (ST (XL H Ta122) G ?_));rcases hb with rfl|rfl
 · refine q0I (Ex.ptrNil Tu122 G) (q00 G) G G ?_;refine WR.nil (WQ.then (WC.condT G (WC.region ?_)));refine MV G G (MV G G (ST (Ex.toUnsafe Tu122 Tu181 hj (by rw[hjs];decide) (T:=124) (cells:=2) (a:=⟨b,0,none⟩) (by simp [World.shape?,hbk]) (by show(0:Nat)<2;decide) G) G ?_));refine ST (Ex.noEscape Tryz.func125 Kr Kr Kr Kr G) G (ST (Ex.fromUnsafe Tu181 Tu122 hj (T:=124) (cells:=2) (a:=⟨b,0,none⟩) (by simp [World.shape?,hbk]) hl G) G ?_);refine FN G G Tu124 G Ts122 G G (q0V [_,_] H G G ⟨G,G⟩ Ku Kf Ts122 (by first|decide|(simp;done)|(simp;omega)) (q00 G) ?_);intro w H;refine NL ?_;exact WQ.endX0 G H Kp ⟨G,G⟩
 refine q0I (Ex.ptrNil Tu122 G) (q00 G) G G ?_;refine WR.nil (WQ.then (WC.condF G (WC.seq (WC.region ?_))));refine MV G G (FN G G Tu124 G Ts122 G G (ST (XL H Ta122) G ?_));refine MV G G (ST (Ex.ptrNeqSame Tu122 hj G G) G ?_);refine WR.nil (WQ.then (WC.condF G (WC.skip ?_)));exact WQ.endX0 G H Kp ⟨G,G⟩
theorem Y1P {p1:Int}{r:List (Ls × Ls)}(h:Y16 p1=some r):CtO Tryz.prog 71 [Value.slice none 0 0,I p1] (fun M=>True) (fun v M its =>∃x0,v=x0∧its=[RowS 37 2 xenc37 x0 r]):=by
 unfold Y16 at h;split at h
 case isFalse=>cases h
 rename_i hb;cases h;refine CtO.of Tryz.func71 (enters Tryz.func71 Kr G) G G G ?_;intro w0 M0 H _;have k1:decide (p1<0)=false:=by rw[decide_eq_false_iff_not];omega
 have k2:decide (0<p1)=true:=by rw[decide_eq_true_iff];omega
 have k3:chk ((0:Nat)-(0:Nat):Int)=some 0:=by decide
 have k4:chk (p1-0)=some p1:=by unfold chk;rw [if_pos Om];congr 1;omega
 refine SQ (RG (AS G G (NL (TN (SQ (SQ (RG (MV G G (ST (q0v G G) G (NL (TN (WC.condF (by rw[k1];rfl) ?_))))))))))));refine SK (TN (SQ (SQ (RG (MV G G (MV G G (ST (Ex.capSlice Tu22 G) G (MV G G (ST (q0L Tu22 G) G (ST (q0W G G k3) G (ST (q0W G G k4) G (AS G G (NL (TN (SQ (RG (MV G G (ST (q0A G G) G (NL (TN (WC.condT (by rw[k2];rfl) ?_)))))))))))))))))))));refine RG (MV G G (MV G G (ST (Ex.capSlice Tu22 G) G (ST (Ex.sliceRow (kk:=2) (i:=0) (j:=0) Tu22 Ts37 G (l09 _) (l09 _) (l09 _) (.inr ⟨G,G⟩) (.inl ⟨_,G,G⟩)) G (MV G G (WR.appZeros xty22 G xenc37 G Tu3 hb H G G (q00 G) G ?_))))));intro b nn cp w hcp H;refine MV G G (ST (q0L Tu22 G) G (ST (Ex.slice0 Tu22 Ts37 G G hcp) G (AS G G (NL (TN (SQ (RG (MV G G (AS G G (NL (TN (RT ?_))))))))))));exact WQ.ret1O G G H (List.Sublist.refl _) ⟨_,G,G⟩
theorem Y0c {p0:Ls}{vp0:Value}{r:Ls}(h:Y17 p0=some r):Ct Tryz.prog 47 [vp0] (fun M=>Sl M encB vp0 p0) (fun v M=>Sl M encB v r):=by
 unfold Y17 at h;refine Ct.of Tryz.func47 (enters Tryz.func47 Kr G) G G G ?_;intro w0 M0 H hp0;refine SQ (RG (AS G G (NL (TN (SQ (SQ ?_))))));rcases Sl.nilOr hp0 with ⟨rfl,rfl⟩|⟨a,c,rfl⟩
 · refine WC.region ?_;refine MV G G (ST (Ex.eqlNilS Tu23 G) G (NL (TN (CT G (SQ (RG (AS G G (NL (TN (RT ?_))))))))));obtain⟨_,rfl⟩:=app_some h;exact q0h G G H.ext (q0Z _ _)
 refine WC.region ?_;refine MV G G (ST (Ex.eqlNilS Tu23 G) G (NL (TN (CF G (SK (TN (SQ (RG (WR.litE xty23 (fun x=>[encB x]) H (q00 G) G ?_)))))))));intro v5 w H;have hfm :∀l:Ls,l.flatMap (fun x=>[encB x])=l.map encB:=fun l=>by induction l with|nil=>rfl|cons a l ih=>simp [ih]
 replace H:St w0 M0 _ [RowI 5 encB v5 []] w:=H;refine MV G G (q1g (l:=[]) xty23 G (fun _=>G) H G (fun _=>by repeat first|exact .head|apply Upd.tail) G hp0 h (q00 G) G ?_);intro v7 w H;refine AS G G (NL (TN (RT ?_)));obtain⟨M,hle,hf,H⟩:=H.freezeRow (v:=v7) (enc:=encB) (t:=5) Kv;exact q0h G G H.ext hf
theorem Y24 {p0:Ls}{p1:Ls}{vp0:Value}{vp1:Value}{r:Int}(h:Y1E p0 p1=some r):Ct Tryz.prog 158 [vp0,vp1] (fun M=>GlF (fun w =>∃m,w.cell? ⟨1,0,none⟩=some (.int .i64 m)) M∧Sl M encB vp0 p0∧Sl M encB vp1 p1) (fun v M=>v=I r):=by
 unfold Y1E at h;split at h
 case isFalse=>cases h
 rename_i hb;cases h;refine⟨enters Tryz.func158 Kr G,fun w M ha hp=>?_⟩;obtain⟨hm,hp0,hp1⟩:=hp;obtain⟨m,hm⟩:=hm w ha;have hcap :∃A c,vp0 = .slice A p0.length c∧p0.length≤c:=by obtain⟨A,c,hv,h1,_⟩:=hp0;exact ⟨A,c,hv,h1⟩
 obtain⟨A0,cq,hv0,hcq⟩:=hcap;obtain⟨A1,c1,e1,hc1,hn1⟩:=Sl.cells hp0 ha;obtain⟨A2,c2,rfl,hc2,hn2⟩:=Sl.cells hp1 ha;rw[hv0] at e1;cases e1;subst hv0;have hR :∀l:Ls,∀x∈l.map (fun u=>(u.toNat:Int)),0≤x∧x<256:=fun l x hx=>by
  obtain⟨u,_,rfl⟩:=List.mem_map.1 hx;exact⟨l1v _,by have:=u.toNat_lt;omega⟩
 cases A2 with
 | none=>have:=(hn2 rfl).1;rw [this] at hb;simp at hb
 | some a2 =>
   cases A0 with
   | none =>
     obtain⟨rfl,rfl⟩:=hn1 rfl;have hi:Lib.index [] p1 = -1:=by
      unfold Lib.index;rw[if_neg];cases p1 with
      | nil=>simp at hb
      | cons a l=>simp
     exact(Tryz.bytes_Index_longer none (some a2) 0 0 p1.length c2 w Om Om Om).mono fun e w' ⟨he,hw⟩=>⟨_,M,he,by subst hw;exact q1k ha,by rw[hi]⟩
   | some a1 =>
     refine(Tryz.bytes_Index_at a1 a2 p0.length cq p1.length c2 (p0.map fun u=>(u.toNat:Int)) (p1.map fun u=>(u.toNat:Int)) m w Sm Sm (hR _) (hR _) (fun j hj=>?_) (fun j hj=>?_) hcq hb.1 Om hm).mono fun e w' ⟨he,q,hw⟩=>⟨_,M,he,by subst hw;exact Ext.ofDrawn ha q,by rw[bytesOf_nats,bytesOf_nats]⟩
     · have:=hc1 a1 rfl j (encB p0[j]) (by simp [hj]);rw[this];simp [hj]
     have:=hc2 a2 rfl j (encB p1[j]) (by simp [hj]);rw[this];simp [hj]
theorem Y1Z {s sep:Value}(h1:s.cells = #[s])(h2:sep.cells = #[sep]){k:Int}:CtX Tryz.prog 120 [s,sep,I k] [] (fun _=>True) (fun v M its =>∃b1 b2 b3,v = .func (.func 156) #[] #[ptr b1 0,ptr b2 0,ptr b3 0]∧its=[.blk b1 (.cells #[sep] 23), .blk b2 (.cells #[s] 23), .blk b3 (.cells #[I k] 3)]):=by
 refine q1a Tryz.func120 (enters Tryz.func120 Kr G) G G G ?_;intro w0 M0 H _;refine SQ (RG (q0M [s] H G h1 (q00 G) G ?_));intro b2 w H;refine q0M [sep] H G h2 (q00 G) G ?_;intro b1 w H;refine q0M [_] H G G (q00 G) G ?_;intro b3 w H;refine AS G G (NL (TN (SQ (RG (ST (q1l G) G (AS G G (NL (TN (RT ?_)))))))));exact q0S (its:=[.blk b1 (.cells #[sep] 23), .blk b2 (.cells #[s] 23), .blk b3 (.cells #[I k] 3)]) G G H Kp ⟨_,_,_,G,G⟩
theorem Y20 {s sep:Value}(h1:s.cells = #[s])(h2:sep.cells = #[sep]):CtX Tryz.prog 90 [s,sep] [] (fun _=>True) (fun v M its =>∃b1 b2 b3,v = .func (.func 156) #[] #[ptr b1 0,ptr b2 0,ptr b3 0]∧its=[.blk b1 (.cells #[sep] 23), .blk b2 (.cells #[s] 23), .blk b3 (.cells #[I 0] 3)]):=by
 refine q1a Tryz.func90 (enters Tryz.func90 Kr G) G G G ?_;intro w0 M0 H _;refine SQ (RG (AS G G (NL (TN (SQ (RG (MV G G (MV G G (q0C (A:=[]) (B:=[]) H (Y1Z h1 h2) (q0E _) G trivial (q00 G) G ?_)))))))));intro v7 M w its H hle hR;obtain⟨b1,b2,b3,rfl,rfl⟩:=hR;simp only[l03,l04] at H;refine AS G G (NL (TN (RT ?_)));exact q0S (its:=[.blk b1 (.cells #[sep] 23), .blk b2 (.cells #[s] 23), .blk b3 (.cells #[I 0] 3)]) G G H Kp ⟨_,_,_,G,G⟩
theorem Y05 {p0:Int}{p1:Int}{r:(Int × Int)}(h:Y03 p0 p1=some r):Ct Tryz.prog 15 [I p0,I p1] (fun M=>True) (fun v M=>v=Value.agg #[I r.1,I r.2]):=by
 refine Ct.of Tryz.func15 (enters Tryz.func15 Kr G) G G G ?_;intro w0 M0 H hp;unfold Y03 at h;refine SQ (RG (q0d [_,_] H Tz29 G (q00 G) G ?_));intro bk4 w H;refine NL (TN (SQ (RG (MV G G (MV G G (ST (q0z [I p0,I p1] Tu29 Tz29 (xplaces29 Tu29) G G) G (q04 [_,_] H G G G Ku Ts29 G Kf Kf (q00 G) ?_)))))));intro w H;refine NL (TN (RT ?_));obtain rfl:=oI h;exact q0h G ⟨_,G,H.loadAgg Km Ta29 Ts29 Kf⟩ H.ext G
theorem Y0y {p0:Ls}{p1:(UInt8→Option Bool)}{vp1:Value}{r:Bool}(h:Y1a p0 p1=some r):Ct Tryz.prog 57 [S p0,vp1] (fun M=>FnT113 M vp1 p1) (fun v M=>v=Value.bool r):=by
 refine Ct.of Tryz.func57 (enters Tryz.func57 Kr G) G G G ?_;intro w0 M0 H hp;have hp1:=hp;unfold Y1a at h;refine SQ (RG (AS G G (NL (TN (SQ (SQ (RG (MV G G (ST (q0u Tu9 G) G (MV G G (NL (TN ?_))))))))))));obtain⟨o1,e2,h⟩:=bnd h;refine q0e (fun e w =>∃  (M:Mem),e=[]∧St w0 M0 M [] w∧some (.inl ())=some o1) [] ?_ ?_ (trivial)
 ·
  refine BL (q0y (fun m e w =>∃(n3:Int) (M:Mem),e=[(0,S p0),(1,vp1),(7,I (p0.length:Int)),(8,I n3)]∧St w0 M0 M [] w∧FnT113 M vp1 p1∧Y0Z p0 p1 m n3=some o1) FU [(0,_),(1,_),(7,_),(8,_)] ⟨rfl,rfl,rfl,rfl,trivial⟩ ⟨_,_,rfl,H,hp1,e2⟩ ?_);rintro m4 e w ⟨n3,M,rfl,H,hp1,e2⟩;rcases m4 with _|m4
  · rw[Y0Z] at e2;cases e2
  rw[Y0Z] at e2;refine SQ (RG (ST (q0v G G) G (NL (TN (SQ ?_)))));refine CB (p:=n3<(p0.length:Int)) G (fun hk5=>?_) fun hk5=>?_
  ·
   rw[if_pos hk5] at e2;refine SK (TN (SQ (BL (SQ (RG (MV G G (AS G G (NL (TN (SQ ?_))))))))));obtain⟨c6,hxc6,e2⟩:=bnd e2;obtain⟨b7,hx8,e2⟩:=bnd e2;refine RG (MV G G (MV G G (MV G G (ST (q0J Tu9 G G hxc6) G (WR.callF H (hp1 _ _ hx8) G G (q00 G) G ?_)))));intro v15 M w H hle hR;replace hp1:=hp1.mono hle;obtain rfl:=hR;refine ST (q0o G) G (NL (TN ?_));refine q0b G (fun hk9=>?_) (fun hk9=>?_)
   ·
    replace hk9:b7=false:=by simpa using hk9
    subst hk9;rw[if_neg l00] at e2;refine SQ (RG (AS G G (NL (TN (RT ?_)))));obtain rfl:=oI e2;try dsimp only at h
    obtain rfl:=oI h;exact q0h G G H.ext G
   replace hk9:b7=true:=by simpa using hk9
   subst hk9;rw[if_pos rfl] at e2;refine SK (IB (TN ?_));obtain⟨n10,hxn10,e2⟩:=bnd e2;refine RG (ST (q0l G G hxn10) G (MV G G (NL ?_)));exact AG m4 ⟨_,_,G,H,hp1,e2⟩ (l07 _)
  rw[if_neg hk5] at e2;refine q0x (q07 (q07 (q0k ?_)));exact MN ⟨_,G,H,e2⟩
 rintro e w ⟨M,rfl,H,q11⟩;obtain rfl:=oI q11;try dsimp only at h
 refine TN (SQ (RG (AS G G (NL (TN (RT ?_))))));obtain rfl:=oI h;exact q0h G G H.ext G
theorem fold_name_1_ct {p0:UInt8}{r:Bool}(h:fold_name_1 p0=some r):Ct Tryz.prog 117 [encB p0] (fun M=>True) (fun v M=>v=Value.bool r):=by
 refine Ct.of Tryz.func117 (enters Tryz.func117 Kr G) G G G ?_;intro w0 M0 H hp;unfold fold_name_1 at h;refine SQ (RG (AS G G (NL (TN (SQ ?_)))));obtain⟨o1,e2,h⟩:=bnd h;refine q0e (fun e w =>∃(b3:Bool) (M:Mem),e=[(2,Value.bool b3)]∧St w0 M0 M [] w∧some b3=some o1) [] ?_ ?_ (trivial)
 ·
  by_cases hk4:33≤p0.toNat
  ·
   rw[if_pos hk4] at e2;refine RG (MV G G (DT hk4 (q0B (i:=p0.toNat) (j:=33) G G) G ?_));by_cases hk5:p0.toNat≤126
   ·
    rw[if_pos hk5] at e2;refine MV G G (SG (q01 G) G G G (DU hk5 (q0G (i:=p0.toNat) (j:=126) G G) G G G (PT G G G (MV G G (SG (q01 G) G G G (SG (Ex.neqB (c:=p0) (d:=58) G G) G G G (PT G G G (AS G G (NL ?_)))))))));exact MN ⟨_,_,G,H,e2⟩
   rw[if_neg hk5] at e2;refine MV G G (SG (q01 G) G G G (DG hk5 (q0G (i:=p0.toNat) (j:=126) G G) G G G (PT G G G (MV G G (GF G G G (GF G G G (PF G G G (AS G G (NL ?_)))))))));exact MN ⟨_,_,G,H,e2⟩
  rw[if_neg hk4] at e2;refine RG (MV G G (DF hk4 (q0B (i:=p0.toNat) (j:=33) G G) G (MV G G (GF G G G (GF G G G (PF G G G (MV G G (GF G G G (GF G G G (PF G G G (AS G G (NL ?_))))))))))));exact MN ⟨_,_,G,H,e2⟩
 rintro e w ⟨b3,M,rfl,H,q6⟩;obtain rfl:=oI q6;refine TN (RT ?_);obtain rfl:=oI h;exact q0h G G H.ext G
theorem fold_name_ct {p0:Ls}{r:Bool}(h:fold_name p0=some r):Ct Tryz.prog 87 [S p0] (fun M=>True) (fun v M=>v=Value.bool r):=by
 refine Ct.of Tryz.func87 (enters Tryz.func87 Kr G) G G G ?_;intro w0 M0 H hp;unfold fold_name at h;refine SQ (RG (AS G G (NL (TN (SQ ?_)))));obtain⟨o1,e2,h⟩:=bnd h;refine q0e (fun e w =>∃(b3:Bool) (M:Mem),e=[(2,Value.bool b3)]∧St w0 M0 M [] w∧some b3=some o1) [] ?_ ?_ (trivial)
 ·
  by_cases hk4:p0=[]
  ·
   rw[if_pos hk4] at e2;refine RG (MV G G (q09 (v' := .bool false) (q0n G G) (congrArg Value.bool (by rw[decide_eq_true hk4];rfl)) (q00 G) G G ?_));refine MV G G (q05 3 G G (PF G G G (MV G G (GF G G G (GF G G G (PF G G G (AS G G (NL ?_))))))));exact MN ⟨_,_,G,H,e2⟩
  rw[if_neg hk4] at e2;refine RG (MV G G (q09 (v' := .bool true) (q0n G G) (congrArg Value.bool (by rw[decide_eq_false hk4];rfl)) (q00 G) G G ?_));by_cases hk5:(p0.length:Int)≤(60:Int)
  ·
   rw[if_pos hk5] at e2;obtain⟨b6,hx7,e2⟩:=bnd e2;refine MV G G (SG (q01 G) G G G (SG (q0u Tu9 G) G G G (DU hk5 (q0X G G) G G G (PT G G G (MV G G (SG (q01 G) G G G (q03 H (Y0y hx7) G ((fun _ _ h=>FnV.of (fold_name_1_ct h) (fun _ _=>trivial))) (q06 G G G) G ?_)))))));intro v12 M w H hle hR;obtain rfl:=hR;refine PT G G G (AS G G (NL ?_));exact MN ⟨_,_,G,H,e2⟩
  rw[if_neg hk5] at e2;refine MV G G (SG (q01 G) G G G (SG (q0u Tu9 G) G G G (DG hk5 (q0X G G) G G G (PT G G G (MV G G (GF G G G (GF G G G (PF G G G (AS G G (NL ?_))))))))));exact MN ⟨_,_,G,H,e2⟩
 rintro e w ⟨b3,M,rfl,H,q8⟩;obtain rfl:=oI q8;refine TN (RT ?_);obtain rfl:=oI h;exact q0h G G H.ext G
theorem Y21 {p0:Int}{r:Bool}(h:Y0U p0=some r):Ct Tryz.prog 204 [Value.int .i32 p0] (fun M=>True) (fun v M=>v=Value.bool r):=by
 refine Ct.of Tf204 (enters Tf204 Kr G) G G G ?_;intro w0 M0 H hp;unfold Y0U at h;refine SQ (RG (AS G G (NL (TN (SQ (BL (SQ ?_)))))));obtain⟨o1,e2,h⟩:=bnd h;refine q0e (fun e w =>∃(b3:Bool) (M:Mem),e=[(0,Value.int .i32 p0),(3,Value.bool b3)]∧St w0 M0 M [] w∧some b3=some o1) [] ?_ ?_ (trivial)
 ·
  by_cases hk4:(0:Int)≤p0
  ·
   rw[if_pos hk4] at e2;refine RG (MV G G (DT hk4 (q0X G G) G (MV G G (SG (q01 G) G G G (SG (q0v G G) G G G (PT G G G (AS G G (NL ?_))))))));exact MN ⟨_,_,G,H,e2⟩
  rw[if_neg hk4] at e2;refine RG (MV G G (DF hk4 (q0X G G) G (MV G G (GF G G G (GF G G G (PF G G G (AS G G (NL ?_))))))));exact MN ⟨_,_,G,H,e2⟩
 rintro e w ⟨b3,M,rfl,H,q5⟩;obtain rfl:=oI q5;refine TN ?_;refine q0b G (fun hk6=>?_) (fun hk6=>?_)
 ·
  subst hk6;rw[if_pos rfl] at h;refine SQ (RG (AS G G (NL (TN (RT ?_)))));obtain rfl:=oI h;exact q0h G G H.ext G
 subst hk6;rw[if_neg l00] at h;refine SQ ?_;obtain⟨o7,e8,h⟩:=bnd h;refine q0e (fun e w =>∃(b9:Bool) (M:Mem),e=[(10,Value.bool b9)]∧St w0 M0 M [] w∧some b9=some o7) [] ?_ ?_ (trivial)
 ·
  by_cases hk10:(57343:Int)<p0
  ·
   rw[if_pos hk10] at e8;refine RG (MV G G (DT hk10 (q0v G G) G (MV G G (SG (q01 G) G G G (SG (q0X G G) G G G (PT G G G (AS G G (NL ?_))))))));exact MN ⟨_,_,G,H,e8⟩
  rw[if_neg hk10] at e8;refine RG (MV G G (DF hk10 (q0v G G) G (MV G G (GF G G G (GF G G G (PF G G G (AS G G (NL ?_))))))));exact MN ⟨_,_,G,H,e8⟩
 rintro e w ⟨b9,M,rfl,H,q11⟩;obtain rfl:=oI q11;refine TN ?_;refine q0b G (fun hk12=>?_) (fun hk12=>?_)
 ·
  subst hk12;rw[if_pos rfl] at h;refine SQ (RG (AS G G (NL (TN (RT ?_)))));obtain rfl:=oI h;exact q0h G G H.ext G
 subst hk12;rw[if_neg l00] at h;refine SK (IB (TN (SQ (RG (AS G G (NL (TN (RT ?_))))))));obtain rfl:=oI h;exact q0h G G H.ext G
theorem Y1r {p0:Ls}{p1:Int}{r:Int}(h:Y0I p0 p1=some r):Ct Tryz.prog 194 [S p0,Value.int .i32 p1] (fun M=>True) (fun v M=>v=I r):=by
 refine Ct.of Tf194 (enters Tf194 Kr G) G G G ?_;intro w0 M0 H hp;unfold Y0I at h;refine SQ (RG (AS G G (NL (TN (BL (SQ ?_))))));obtain⟨o1,e2,h⟩:=bnd h;refine q0e (fun e w =>∃(b3:Bool) (M:Mem),e=[(0,S p0),(1,Value.int .i32 p1),(160,Value.bool b3)]∧St w0 M0 M [] w∧some b3=some o1) [] ?_ ?_ (trivial)
 ·
  by_cases hk4:(0:Int)≤p1
  ·
   rw[if_pos hk4] at e2;refine RG (MV G G (DT hk4 (q0X G G) G (MV G G (SG (q01 G) G G G (SG (q0v G G) G G G (PT G G G (AS G G (NL ?_))))))));exact MN ⟨_,_,G,H,e2⟩
  rw[if_neg hk4] at e2;refine RG (MV G G (DF hk4 (q0X G G) G (MV G G (GF G G G (GF G G G (PF G G G (AS G G (NL ?_))))))));exact MN ⟨_,_,G,H,e2⟩
 rintro e w ⟨b3,M,rfl,H,q5⟩;obtain rfl:=oI q5;refine TN ?_;refine q0b G (fun hk6=>?_) (fun hk6=>?_)
 ·
  subst hk6;rw[if_pos rfl] at h;refine SQ ?_;obtain⟨n7,hx8,h⟩:=bnd h;refine RG (MV G G (MV G G (ST (Ex.convU8C Tu21 Tu5 G) G (q03 H (Y0W hx8) G trivial (q00 G) G ?_))));intro v170 M w H hle hR;obtain rfl:=hR;refine AS G G (NL (TN (RT ?_)));obtain rfl:=oI h;exact q0h G G H.ext G
 subst hk6;rw[if_neg l00] at h;refine SQ (RG (MV G G (ST (q0j G G) G (AS G G (NL (TN ?_))))));refine CB (p:=p1=(65533:Int)) G (fun hk9=>?_) fun hk9=>?_
 ·
  rw[if_pos hk9] at h;refine SQ (SQ (RG (MV G G (WR.rangeStr H Tu9 G (q00 G) G ?_))));intro bk175 w H;refine NL (TN ?_);obtain⟨o10,e11,h⟩:=bnd h;refine q0e (fun e w =>∃  (M:Mem),e=[]∧St w0 M0 M [] w∧some (.inl ())=some o10) [] ?_ ?_ (trivial)
  ·
   refine BL (q0y (fun m e w =>∃(ps12:Nat) (M:Mem),e=[(175,ptr bk175 0)]∧St w0 M0 M [.blk bk175 (.stringIter ⟨((p0):Ls).toArray⟩ ps12)] w∧Y0C p0 m ps12=some o10) FU [(175,_)] ⟨rfl,trivial⟩ ⟨_,_,rfl,H,e11⟩ ?_);rintro m13 e w ⟨ps12,M,rfl,H,e11⟩;rcases m13 with _|m13
   · rw[Y0C] at e11;cases e11
   rw[Y0C] at e11;refine SQ ?_;by_cases hk14:ps12<p0.length
   ·
    rw[if_pos hk14] at e11;refine RG (WR.nextT H hk14 G Ku (q00 G) G ?_);intro w H;refine ST (q0c G G) G (NL (TN (SQ (CT G (SK (TN (BL (SQ (RG (ST (q0c G G) G (ST (q0c G G) G (AS G G (AS G G (NL (TN (SQ (RG (MV G G (ST (q0j G G) G (NL (TN ?_)))))))))))))))))))));refine CB (p:=((Utf.dr (p0.drop ps12)).1:Int)=(65533:Int)) G (fun hk15=>?_) fun hk15=>?_
    ·
     rw[if_pos hk15] at e11;refine SQ (RG (MV G G (AS G G (NL (TN (RT ?_))))));obtain rfl:=oI e11;try dsimp only at h
     obtain rfl:=oI h;exact q0h G G H.ext G
    rw[if_neg hk15] at e11;refine SK (IB ?_);exact AG m13 ⟨_,_,G,H,e11⟩ (l07 _)
   rw[if_neg hk14] at e11;refine RG (WR.nextF H (Nat.le_of_not_lt hk14) G Km (q00 G) G ?_);refine ST (q0c G G) G (NL (TN (SQ (CF G (q0x (q07 (q07 (q0k ?_))))))));exact MN ⟨_,G,(H.pick (L':=[]) Kp),e11⟩
  rintro e w ⟨M,rfl,H,q16⟩;obtain rfl:=oI q16;try dsimp only at h
  refine TN (SQ (RG (AS G G (NL (TN (RT ?_))))));obtain rfl:=oI h;exact q0h G G H.ext G
 rw[if_neg hk9] at h;refine SQ ?_;obtain⟨b19,hx20,h⟩:=bnd h;refine RG (MV G G (q03 H (Y21 hx20) G trivial (q00 G) G ?_));intro v185 M w H hle hR;obtain rfl:=hR;refine ST (q0o G) G (AS G G (NL (TN ?_)));refine q0b G (fun hk21=>?_) (fun hk21=>?_)
 ·
  replace hk21:b19=false:=by simpa using hk21
  subst hk21;rw[if_neg l00] at h;refine SQ (RG (AS G G (NL (TN (RT ?_)))));obtain rfl:=oI h;exact q0h G G H.ext G
 replace hk21:b19=true:=by simpa using hk21
 subst hk21;rw[if_pos rfl] at h;refine WC.scope (SQ (RG (MV G G (ST (Ex.runeStr Tu21 Tu9 G) G (AS G G (NL (TN (SQ ?_))))))));obtain⟨n22,hxn22,h⟩:=bnd h;refine RG (MV G G (ST (q0u Tu9 G) G (ST (q0W G G hxn22) G (AS G G (NL (TN (SQ (RG (MV G G (AS G G (NL (TN (SQ (RG (AS G G (NL (TN (SQ ?_))))))))))))))))));obtain⟨o23,e24,h⟩:=bnd h;refine q0e (fun e w =>∃  (M:Mem),e=[]∧St w0 M0 M [] w∧some (.inl ())=some o23) [] ?_ ?_ (trivial)
 ·
  refine BL (q0y (fun m e w =>∃(n25:Int) (M:Mem),e=[(0,S p0),(7,S (Chs.utf8 p1)),(8,I n22),(9,I n25)]∧St w0 M0 M [] w∧Y0E p0 p1 n22 m n25=some o23) FU [(0,_),(7,_),(8,_),(9,_)] ⟨rfl,rfl,rfl,rfl,trivial⟩ ⟨_,_,rfl,H,e24⟩ ?_);rintro m26 e w ⟨n25,M,rfl,H,e24⟩;rcases m26 with _|m26
  · rw[Y0E] at e24;cases e24
  rw[Y0E] at e24;refine SQ (SQ (RG (MV G G (MV G G (ST (q0u Tu9 G) G (ST (q0v G G) G (NL (TN ?_))))))));refine CB (p:=n25<(p0.length:Int)) G (fun hk27=>?_) fun hk27=>?_
  ·
   rw[if_pos hk27] at e24;refine SK (TN (BL (WC.scope (SQ (SQ ?_)))));obtain⟨c28,hxc28,e24⟩:=bnd e24;obtain⟨c29,hxc29,e24⟩:=bnd e24;refine q0H (m:=7) G G H ?_;intro w H;refine TK 0 G (fun _=>q01 G) G (TK 1 G (fun _=>q01 G) G (TK 2 G (fun _=>q0J Tu9 G G hxc28) G (TK 3 G (fun _=>q01 G) G (q0a (fuel:=0) [4,5,6] G Kr (MV G G (ST (q0J Tu9 G G hxc29) G (ST (Ex.neqB (c:=c28) (d:=c29) G G) G (NA (q08 Kr (TN ?_))))))))));obtain⟨o30,e31,e24⟩:=bnd e24;refine q0e (fun e w =>∃(n32:Int) (M:Mem),e=[(0,S p0),(7,S (Chs.utf8 p1)),(8,I n22),(9,I n32)]∧St w0 M0 M [] w∧some (.inl n32)=some o30) [] ?_ ?_ (trivial)
   ·
    refine q0b G (fun hk33=>?_) (fun hk33=>?_)
    ·
     replace hk33 :¬(c28=c29):=of_not_decide hk33;rw[if_neg hk33] at e31;refine SQ ?_;obtain⟨n34,hxn34,e31⟩:=bnd e31;obtain⟨s35,hxs35,e31⟩:=bnd e31;obtain⟨c36,hxc36,e31⟩:=bnd e31;obtain⟨n37,hx38,e31⟩:=bnd e31;refine q0H (m:=9) G G H ?_;intro w H;refine TK 0 G (fun _=>q01 G) G (TK 1 G (fun _=>q01 G) G (TK 2 G (fun _=>q0l G G hxn34) G (TK 3 G (fun _=>Ex.sliceL Tu9 G G hxs35) G (TK 4 G (fun _=>q01 G) G (q0a (fuel:=0) [5,6,7,8] G Kr (MV G G (ST (q0J Tu9 G G hxc36) G (q03 H (Y0W hx38) G trivial (q00 G) G ?_))))))));intro v41 M w H hle hR;obtain rfl:=hR;refine AS G G (NA (q08 Kr (TN (SQ (SQ (RG (MV G G (ST (q0v G G) G (NL (TN ?_))))))))));refine CB (p:=n37<(0:Int)) G (fun hk39=>?_) fun hk39=>?_
     ·
      rw[if_pos hk39] at e31;refine SQ (RG (AS G G (NL (TN (RT ?_)))));obtain rfl:=oI e31;try dsimp only at e24
      obtain rfl:=oI e24;try dsimp only at h
      obtain rfl:=oI h;exact q0h G G H.ext G
     rw[if_neg hk39] at e31;refine SK (TN ?_);obtain⟨n40,hxn40,e31⟩:=bnd e31;obtain⟨n41,hxn41,e31⟩:=bnd e31;refine RG (MV G G (MV G G (ST (q0l G G hxn40) G (ST (q0l G G hxn41) G (AS G G (NL ?_))))));exact MN ⟨_,_,G,H,e31⟩
    replace hk33:c28=c29:=of_not_decide' hk33;rw[if_pos hk33] at e31;refine SK ?_;exact MN ⟨_,_,G,H,e31⟩
   rintro e w ⟨n32,M,rfl,H,q42⟩;obtain rfl:=oI q42;try dsimp only at e24
   refine TN (SQ (SQ (RG (AS G G (NL (TN ?_))))));obtain⟨o43,e44,e24⟩:=bnd e24;refine q0e (fun e w =>∃  (M:Mem),e=[(8,I n22),(9,I n32)]∧St w0 M0 M [] w∧some ()=some o43) [] ?_ ?_ (trivial)
   ·
    refine BL (q0y (fun m e w =>∃(n45:Int) (M:Mem),e=[(0,S p0),(7,S (Chs.utf8 p1)),(8,I n22),(9,I n32),(12,I n45)]∧St w0 M0 M [] w∧Y0D p0 p1 n22 n32 m n45=some o43) FU [(0,_),(7,_),(8,_),(9,_),(12,_)] ⟨rfl,rfl,rfl,rfl,rfl,trivial⟩ ⟨_,_,rfl,H,e44⟩ ?_);rintro m46 e w ⟨n45,M,rfl,H,e44⟩;rcases m46 with _|m46
    · rw[Y0D] at e44;cases e44
    rw[Y0D] at e44;refine SQ (SQ (RG (MV G G (MV G G (ST (q0u Tu9 G) G (ST (q0v G G) G (NL (TN ?_))))))));refine CB (p:=n45<((Chs.utf8 p1).length:Int)) G (fun hk47=>?_) fun hk47=>?_
    ·
     rw[if_pos hk47] at e44;refine SK (TN (SQ (BL (SQ ?_))));obtain⟨n48,hxn48,e44⟩:=bnd e44;obtain⟨c49,hxc49,e44⟩:=bnd e44;obtain⟨n50,hxn50,e44⟩:=bnd e44;obtain⟨c51,hxc51,e44⟩:=bnd e44;refine q0H (m:=11) G G H ?_;intro w H;refine TK 0 G (fun _=>q01 G) G (TK 1 G (fun _=>q01 G) G (TK 2 G (fun _=>q01 G) G (TK 3 G (fun _=>q0W G G hxn48) G (TK 4 G (fun _=>q0J Tu9 G G hxc49) G (TK 5 G (fun _=>q01 G) G (TK 6 G (fun _=>q01 G) G ?_))))));refine q0a (fuel:=0) [7,8,9,10] G Kr (MV G G (ST (q0W G G hxn50) G (ST (q0J Tu9 G G hxc51) G (ST (Ex.neqB (c:=c49) (d:=c51) G G) G (NA (q08 Kr (TN ?_)))))));refine q0b G (fun hk52=>?_) (fun hk52=>?_)
     ·
      replace hk52 :¬(c49=c51):=of_not_decide hk52;rw[if_neg hk52] at e44;cases e44
     replace hk52:c49=c51:=of_not_decide' hk52;rw[if_pos hk52] at e44;refine SK (IB (TN ?_));obtain⟨n53,hxn53,e44⟩:=bnd e44;refine RG (MV G G (ST (q0l G G hxn53) G (AS G G (NL ?_))));exact AG m46 ⟨_,_,G,H,e44⟩ (l07 _)
    rw[if_neg hk47] at e44;refine q0x (q07 (q07 (q0k ?_)));exact MN ⟨_,G,H,e44⟩
   rintro e w ⟨M,rfl,H,q54⟩;obtain rfl:=oI q54;try dsimp only at e24
   refine TN (SQ (SQ ?_));obtain⟨n55,hxn55,e24⟩:=bnd e24;refine RG (MV G G (MV G G (ST (q0W G G hxn55) G (AS G G (NL (TN (RT ?_)))))));obtain rfl:=oI e24;try dsimp only at h
   obtain rfl:=oI h;exact q0h G G H.ext G
  rw[if_neg hk27] at e24;refine q0x (q07 (q07 (q0k ?_)));exact MN ⟨_,G,H,e24⟩
 rintro e w ⟨M,rfl,H,q58⟩;obtain rfl:=oI q58;try dsimp only at h
 refine TN (SQ (SQ (RG (AS G G (NL (TN (RT ?_)))))));obtain rfl:=oI h;exact q0h G G H.ext G
theorem Y1t {p0:Int}{r:Bool}(h:Y0f p0=some r):Ct Tryz.prog 195 [I p0] (fun M=>True) (fun v M=>v=Value.bool r):=by
 refine Ct.of Tf195 (enters Tf195 Kr G) G G G ?_;intro w0 M0 H hp;unfold Y0f at h;refine SQ (RG (AS G G (NL (TN (SQ (RG (MV G G (ST (q0A G G) G (AS G G (NL (TN (RT ?_))))))))))));obtain rfl:=oI h;exact q0h G G H.ext G
theorem Y1F {p0:Ls}{r:(List Bool × Bool)}(h:Y0w p0=some r):Ct Tryz.prog 196 [S p0] (fun M=>True) (fun v M=>v=Value.tuple #[Value.agg (List.map encBo r.1).toArray,Value.bool r.2]):=by
 refine Ct.of Tf196 (enters Tf196 Kr G) G G G ?_;intro w0 M0 H hp;unfold Y0w at h;refine SQ (RG (q0d (List.map encBo (List.replicate 256 false:List Bool)) H Tryz.zeroValue242 Kr (q00 G) G ?_));intro bk2 w H;refine AS G G (NL (TN (SQ (SQ (RG (AS G G (NL (TN ?_))))))));obtain⟨o1,e2,h⟩:=bnd h;refine q0e (fun e w =>∃(l3:List Bool) (M:Mem),e=[(2,ptr bk2 0)]∧St w0 M0 M [.blk bk2 (.cells (List.map encBo l3).toArray 242)] w∧some (.inl l3)=some o1) [] ?_ ?_ (trivial)
 ·
  refine BL (q0y (fun m e w =>∃(l4:List Bool) (n5:Int) (M:Mem),e=[(0,S p0),(2,ptr bk2 0),(4,I n5)]∧St w0 M0 M [.blk bk2 (.cells (List.map encBo l4).toArray 242)] w∧Y0u p0 m l4 n5=some o1) FU [(0,_),(2,_),(4,_)] ⟨rfl,rfl,rfl,trivial⟩ ⟨_,_,_,rfl,H,e2⟩ ?_);rintro m6 e w ⟨l4,n5,M,rfl,H,e2⟩;rcases m6 with _|m6
  · rw[Y0u] at e2;cases e2
  rw[Y0u] at e2;refine SQ (SQ (RG (MV G G (MV G G (ST (q0u Tu9 G) G (ST (q0v G G) G (NL (TN ?_))))))));refine CB (p:=n5<(p0.length:Int)) G (fun hk7=>?_) fun hk7=>?_
  ·
   rw[if_pos hk7] at e2;refine SK (TN (SQ (BL (SQ ?_))));obtain⟨c8,hxc8,e2⟩:=bnd e2;refine RG (MV G G (MV G G (ST (q0J Tu9 G G hxc8) G (AS G G (NL (TN (SQ (SQ (RG (MV G G (ST (q0B (i:=c8.toNat) (j:=128) G G) G (NL (TN ?_)))))))))))));refine CB (p:=128≤c8.toNat) G (fun hk9=>?_) fun hk9=>?_
   ·
    rw[if_pos hk9] at e2;refine SQ ?_;obtain⟨l10,hxl10,e2⟩:=bnd e2;obtain⟨l11,hxl11,e2⟩:=bnd e2;obtain⟨l12,hxl12,e2⟩:=bnd e2;refine RG (ST (Ex.loadAggA H G Km Ta242 Ts242 hxl10) G ?_);refine WR.storeA (l2:=l10) H G G (fun _=>G) (fun _=>by repeat first|exact .head|apply Upd.tail) hxl11 hxl12 Ts242 (q00 G) ?_;intro w H;refine AS G G (NL (TN (RT ?_)));obtain⟨l13,hxl13,e2⟩:=bnd e2;obtain rfl:=oI e2;try dsimp only at h
    obtain rfl:=oI h;exact q0D G ⟨_,G,H.loadAggA Km Ta242 Ts242 hxl13⟩ G H.ext G
   rw[if_neg hk9] at e2;refine SK (TN ?_);obtain⟨a14,hxa14,e2⟩:=bnd e2;obtain⟨l15,hxl15,e2⟩:=bnd e2;refine RG (MV G G (ST (Ex.idxArrC (l:=l4) Tu242 Ts4 G G hxa14) G (WR.storeArr (a:=true) H G G ⟨G,G⟩ (fun _=>by repeat first|exact .head|apply Upd.tail) hxl15 Ts4 (q00 G) ?_)));intro w H;refine NL (IB (TN ?_));obtain⟨n16,hxn16,e2⟩:=bnd e2;refine RG (MV G G (ST (q0l G G hxn16) G (AS G G (NL ?_))));exact AG m6 ⟨_,_,_,G,H,e2⟩ (l07 _)
  rw[if_neg hk7] at e2;refine q0x (q07 (q07 (q0k ?_)));exact MN ⟨_,_,G,H,e2⟩
 rintro e w ⟨l3,M,rfl,H,q17⟩;obtain rfl:=oI q17;try dsimp only at h
 refine TN (SQ ?_);obtain⟨l18,hxl18,h⟩:=bnd h;obtain⟨l19,hxl19,h⟩:=bnd h;obtain⟨l20,hxl20,h⟩:=bnd h;refine RG (ST (Ex.loadAggA H G Km Ta242 Ts242 hxl18) G ?_);refine WR.storeA (l2:=l18) H G G (fun _=>G) (fun _=>by repeat first|exact .head|apply Upd.tail) hxl19 hxl20 Ts242 (q00 G) ?_;intro w H;refine AS G G (NL (TN (RT ?_)));obtain⟨l21,hxl21,h⟩:=bnd h;obtain rfl:=oI h;exact q0D G ⟨_,G,H.loadAggA Km Ta242 Ts242 hxl21⟩ G H.ext G
theorem Y1u {p0:List Bool}{p1:UInt8}{bp0:Nat}{r:Bool}(h:Y0q p0 p1=some r):Ct Tryz.prog 197 [ptr bp0 0,encB p1] (fun M=>PtM M bp0 (.cells (List.map encBo p0).toArray 242)) (fun v M=>v=Value.bool r):=by
 refine Ct.of Tf197 (enters Tf197 Kr G) G G G ?_;intro w0 M0 H hp;have hp0:=hp;unfold Y0q at h;refine SQ (RG (AS G G (NL (TN (SQ ?_)))));obtain⟨a1,hxa1,h⟩:=bnd h;refine RG (MV G G (MV G G (ST (q0w G) G (ST (Ex.idxArrC (l:=p0) Tu242 Ts4 G G hxa1) G (ST (Ex.loadArrM H G hp0 hxa1 Ta4) G (AS G G (NL (TN (RT ?_)))))))));obtain rfl:=oI h;exact q0h G G H.ext G
theorem Y1T {p0:Ls}{p1:Ls}{r:Int}(h:Y0P p0 p1=some r):Ct Tryz.prog 179 [S p0,S p1] (fun M=>True) (fun v M=>v=I r):=by
 refine Ct.of Tryz.func179 (enters Tryz.func179 Kr G) G G G ?_;intro w0 M0 H hp;unfold Y0P at h;refine SQ (RG (AS G G (NL (TN (SQ (SQ (RG (MV G G (ST (q0O G G) G (NL (TN ?_)))))))))));refine CB (p:=p1=[]) G (fun hk1=>?_) fun hk1=>?_
 ·
  rw[if_pos hk1] at h;refine SQ (RG (AS G G (NL (TN (RT ?_)))));obtain rfl:=oI h;exact q0h G G H.ext G
 rw[if_neg hk1] at h;refine SK (TN (SQ (SQ (RG (MV G G (ST (q0u Tu9 G) G (ST (q0j G G) G (NL (TN ?_)))))))));refine CB (p:=(p1.length:Int)=(1:Int)) G (fun hk2=>?_) fun hk2=>?_
 ·
  rw[if_pos hk2] at h;refine SQ ?_;obtain⟨c3,hxc3,h⟩:=bnd h;refine RG (MV G G (ST (q0J Tu9 G G hxc3) G (ST (Ex.conv Tu5 Tu21 G) G (AS G G (NL (TN (SQ (SQ (RG (MV G G (ST (q1c G G) G (NL (TN ?_)))))))))))));obtain⟨o4,e5,h⟩:=bnd h;refine q0e (fun e w =>∃(n6:Int) (M:Mem),e=[(0,S p0),(5,Value.int .i32 n6)]∧St w0 M0 M [] w∧some n6=some o4) [] ?_ ?_ (trivial)
  ·
   refine CB (p:=(128:Int)≤(IntKind.i32.wrap (c3.toNat:Int))) G (fun hk7=>?_) fun hk7=>?_
   ·
    rw[if_pos hk7] at e5;refine RG (AS G G (NL ?_));exact MN ⟨_,_,G,H,e5⟩
   rw[if_neg hk7] at e5;refine SK ?_;exact MN ⟨_,_,G,H,e5⟩
  rintro e w ⟨n6,M,rfl,H,q8⟩;obtain rfl:=oI q8;refine TN (SQ ?_);obtain⟨n9,hx10,h⟩:=bnd h;refine RG (MV G G (MV G G (q03 H (Y1r hx10) G trivial (q00 G) G ?_)));intro v23 M w H hle hR;obtain rfl:=hR;refine AS G G (NL (TN (RT ?_)));obtain rfl:=oI h;exact q0h G G H.ext G
 rw[if_neg hk2] at h;refine SK (TN (SQ (SQ ?_)));obtain⟨b11,hx12,h⟩:=bnd h;refine RG (MV G G (ST (q0u Tu9 G) G (q03 H (Y1t hx12) G trivial (q00 G) G ?_)));intro v26 M w H hle hR;obtain rfl:=hR;refine NL (TN ?_);obtain⟨o13,e14,h⟩:=bnd h;refine q0e (fun e w =>∃  (M:Mem),e=[(0,S p0),(1,S p1)]∧St w0 M0 M [] w∧some (.inl ())=some o13) [] ?_ ?_ (trivial)
 ·
  refine q0b G (fun hk15=>?_) (fun hk15=>?_)
  ·
   subst hk15;rw[if_pos rfl] at e14;refine SQ ?_;obtain⟨⟨n16,b17⟩,hx18,e14⟩:=bnd e14;try dsimp only at e14
   obtain⟨l19,hxl19,e14⟩:=bnd e14;obtain⟨l20,hxl20,e14⟩:=bnd e14;refine RG (MV G G (q03 H (Y1F hx18) G trivial (q00 G) G ?_));intro v29 M w H hle hR;try dsimp only at hR
   obtain rfl:=hR;refine MV G G (ST (q0c G G) G (ST (q0c G G) G (q0d (List.map encBo (List.replicate 256 false:List Bool)) H Tryz.zeroValue242 Kr (q00 G) G ?_)));intro bk6 w H;refine WR.storeA (l2:=n16) H G G (fun _=>G) (fun _=>by repeat first|exact .head|apply Upd.tail) hxl19 hxl20 Ts242 (q00 G) ?_;intro w H;refine AS G G (NL (TN (SQ (RG (MV G G (NL (TN ?_)))))));refine q0b G (fun hk21=>?_) (fun hk21=>?_)
   ·
    subst hk21;rw[if_pos rfl] at e14;refine SQ (SQ (RG (AS G G (NL (TN ?_)))));obtain⟨o22,e23,e14⟩:=bnd e14;refine q0e (fun e w =>∃  (M:Mem),e=[]∧St w0 M0 M [] w∧some (.inl ())=some o22) [] ?_ ?_ (trivial)
    ·
     refine BL ?_;obtain⟨M,hle,hb24,H⟩:=H.freezeVar (b:=bk6) Kv;refine q0y (fun m e w =>∃(n25:Int) (M:Mem),e=[(0,S p0),(6,ptr bk6 0),(8,I n25)]∧St w0 M0 M [] w∧PtM M bk6 (.cells (List.map encBo n16).toArray 242)∧Y0i p0 n16 m n25=some o22) FU [(0,_),(6,_),(8,_)] ⟨rfl,rfl,rfl,trivial⟩ ⟨_,_,rfl,H,hb24,e23⟩ ?_;rintro m26 e w ⟨n25,M,rfl,H,hb24,e23⟩;rcases m26 with _|m26
     · rw[Y0i] at e23;cases e23
     rw[Y0i] at e23;refine SQ (SQ (RG (MV G G (MV G G (ST (q0u Tu9 G) G (ST (q0v G G) G (NL (TN ?_))))))));refine CB (p:=n25<(p0.length:Int)) G (fun hk27=>?_) fun hk27=>?_
     ·
      rw[if_pos hk27] at e23;refine SK (TN (SQ (BL (SQ ?_))));obtain⟨c28,hxc28,e23⟩:=bnd e23;obtain⟨b29,hx30,e23⟩:=bnd e23;refine RG (MV G G (MV G G (ST (q0J Tu9 G G hxc28) G (q03 H (Y1u hx30) G (hb24) (q00 G) G ?_))));intro v42 M w H hle hR;replace hb24:=hb24.mono hle;obtain rfl:=hR;refine NL (TN ?_);refine q0b G (fun hk31=>?_) (fun hk31=>?_)
      ·
       subst hk31;rw[if_pos rfl] at e23;refine SQ (RG (MV G G (AS G G (NL (TN (RT ?_))))));obtain rfl:=oI e23;try dsimp only at e14
       obtain rfl:=oI e14;try dsimp only at h
       obtain rfl:=oI h;exact q0h G G H.ext G
      subst hk31;rw[if_neg l00] at e23;refine SK (IB (TN ?_));obtain⟨n32,hxn32,e23⟩:=bnd e23;refine RG (MV G G (ST (q0l G G hxn32) G (AS G G (NL ?_))));exact AG m26 ⟨_,_,G,H,hb24,e23⟩ (l07 _)
     rw[if_neg hk27] at e23;refine q0x (q07 (q07 (q0k ?_)));exact MN ⟨_,G,H,e23⟩
    rintro e w ⟨M,rfl,H,q33⟩;obtain rfl:=oI q33;try dsimp only at e14
    refine TN (SQ (RG (AS G G (NL (TN (RT ?_))))));obtain rfl:=oI e14;try dsimp only at h
    obtain rfl:=oI h;exact q0h G G H.ext G
   subst hk21;rw[if_neg l00] at e14;refine SK ?_;exact MN ⟨_,G,(H.pick (L':=[]) Kp),e14⟩
  subst hk15;rw[if_neg l00] at e14;refine SK ?_;exact MN ⟨_,G,H,e14⟩
 rintro e w ⟨M,rfl,H,q36⟩;obtain rfl:=oI q36;try dsimp only at h
 refine TN (SQ (SQ (RG (MV G G (WR.rangeStr H Tu9 G (q00 G) G ?_)))));intro bk45 w H;refine NL (TN ?_);obtain⟨o37,e38,h⟩:=bnd h;refine q0e (fun e w =>∃  (M:Mem),e=[]∧St w0 M0 M [] w∧some (.inl ())=some o37) [] ?_ ?_ (trivial)
 ·
  refine BL (q0y (fun m e w =>∃(ps39:Nat) (M:Mem),e=[(1,S p1),(45,ptr bk45 0)]∧St w0 M0 M [.blk bk45 (.stringIter ⟨((p0):Ls).toArray⟩ ps39)] w∧Y0j p0 p1 m ps39=some o37) FU [(1,_),(45,_)] ⟨rfl,rfl,trivial⟩ ⟨_,_,rfl,H,e38⟩ ?_);rintro m40 e w ⟨ps39,M,rfl,H,e38⟩;rcases m40 with _|m40
  · rw[Y0j] at e38;cases e38
  rw[Y0j] at e38;refine SQ ?_;by_cases hk41:ps39<p0.length
  ·
   rw[if_pos hk41] at e38;refine RG (WR.nextT H hk41 G Ku (q00 G) G ?_);intro w H;refine ST (q0c G G) G (NL (TN (SQ (CT G (SK (TN (BL (SQ (RG (ST (q0c G G) G (ST (q0c G G) G (AS G G (AS G G (NL (TN (SQ ?_))))))))))))))));obtain⟨n42,hx43,e38⟩:=bnd e38;refine RG (MV G G (MV G G (q03 H (Y1r hx43) G trivial (q00 G) G ?_)));intro v52 M w H hle hR;obtain rfl:=hR;refine ST (q1c G G) G (NL (TN ?_));refine CB (p:=(0:Int)≤n42) G (fun hk44=>?_) fun hk44=>?_
   ·
    rw[if_pos hk44] at e38;refine SQ (RG (MV G G (AS G G (NL (TN (RT ?_))))));obtain rfl:=oI e38;try dsimp only at h
    obtain rfl:=oI h;exact q0h G G H.ext G
   rw[if_neg hk44] at e38;refine SK (IB ?_);exact AG m40 ⟨_,_,G,H,e38⟩ (l07 _)
  rw[if_neg hk41] at e38;refine RG (WR.nextF H (Nat.le_of_not_lt hk41) G Km (q00 G) G ?_);refine ST (q0c G G) G (NL (TN (SQ (CF G (q0x (q07 (q07 (q0k ?_))))))));exact MN ⟨_,G,(H.pick (L':=[]) Kp),e38⟩
 rintro e w ⟨M,rfl,H,q45⟩;obtain rfl:=oI q45;try dsimp only at h
 refine TN (SQ (RG (AS G G (NL (TN (RT ?_))))));obtain rfl:=oI h;exact q0h G G H.ext G
theorem Y1H {p0:Ls}{p1:Ls}{r:Bool}(h:Y0x p0 p1=some r):Ct Tryz.prog 155 [S p0,S p1] (fun M=>True) (fun v M=>v=Value.bool r):=by
 refine Ct.of Tryz.func155 (enters Tryz.func155 Kr G) G G G ?_;intro w0 M0 H hp;unfold Y0x at h;refine SQ (RG (AS G G (NL (TN (SQ ?_)))));obtain⟨n1,hx2,h⟩:=bnd h;refine RG (MV G G (MV G G (q03 H (Y1T hx2) G trivial (q00 G) G ?_)));intro v7 M w H hle hR;obtain rfl:=hR;refine ST (q1c G G) G (AS G G (NL (TN (RT ?_))));obtain rfl:=oI h;exact q0h G G H.ext G
theorem fold_ends_ct {p0:Ls}{r:Bool}(h:fold_ends p0=some r):Ct Tryz.prog 118 [S p0] (fun M=>True) (fun v M=>v=Value.bool r):=by
 refine Ct.of Tryz.func118 (enters Tryz.func118 Kr G) G G G ?_;intro w0 M0 H hp;unfold fold_ends at h;refine SQ (RG (AS G G (NL (TN (SQ ?_)))));obtain⟨b1,hx2,h⟩:=bnd h;refine RG (MV G G (q03 H (Y1H hx2) G trivial (q00 G) G ?_));intro v4 M w H hle hR;obtain rfl:=hR;refine AS G G (NL (TN (RT ?_)));obtain rfl:=oI h;exact q0h G G H.ext G
theorem Y11 {p0:UInt8}{r:Bool}(h:Y10 p0=some r):Ct Tryz.prog 119 [encB p0] (fun M=>True) (fun v M=>v=Value.bool r):=by
 refine Ct.of Tryz.func119 (enters Tryz.func119 Kr G) G G G ?_;intro w0 M0 H hp;unfold Y10 at h;refine SQ (RG (AS G G (NL (TN (SQ ?_)))));obtain⟨o1,e2,h⟩:=bnd h;refine q0e (fun e w =>∃(b3:Bool) (M:Mem),e=[(2,Value.bool b3)]∧St w0 M0 M [] w∧some b3=some o1) [] ?_ ?_ (trivial)
 ·
  by_cases hk4:p0=32
  ·
   rw[if_pos hk4] at e2;refine RG (MV G G (DT hk4 (q0R (c:=p0) (d:=32) G G) G (MV G G (GT G G G (GT G G G (PT G G G (AS G G (NL ?_))))))));exact MN ⟨_,_,G,H,e2⟩
  rw[if_neg hk4] at e2;refine RG (MV G G (DF hk4 (q0R (c:=p0) (d:=32) G G) G (MV G G (SG (q01 G) G G G (SG (q0R (c:=p0) (d:=9) G G) G G G (PF G G G (AS G G (NL ?_))))))));exact MN ⟨_,_,G,H,e2⟩
 rintro e w ⟨b3,M,rfl,H,q5⟩;obtain rfl:=oI q5;refine TN (RT ?_);obtain rfl:=oI h;exact q0h G G H.ext G
theorem fold_value_ct {p0:Ls}{r:Bool}(h:fold_value p0=some r):Ct Tryz.prog 88 [S p0] (fun M=>True) (fun v M=>v=Value.bool r):=by
 refine Ct.of Tryz.func88 (enters Tryz.func88 Kr G) G G G ?_;intro w0 M0 H hp;unfold fold_value at h;refine SQ (RG (AS G G (NL (TN (SQ ?_)))));obtain⟨o1,e2,h⟩:=bnd h;refine q0e (fun e w =>∃(b3:Bool) (M:Mem),e=[(2,Value.bool b3)]∧St w0 M0 M [] w∧some b3=some o1) [] ?_ ?_ (trivial)
 ·
  obtain⟨b4,hx5,e2⟩:=bnd e2;refine RG (MV G G (q03 H (fold_ends_ct hx5) G trivial (q00 G) G ?_));intro v4 M w H hle hR;obtain rfl:=hR;refine ST (q0o G) G (MV G G ?_);rcases b4 with _|_
  ·
   rw[if_neg l00] at e2;by_cases hk6:p0=[]
   ·
    rw[if_pos hk6] at e2;refine SG (q01 G) G G G (DU hk6 (q0O G G) G G G (SG (q01 G) G G G (q05 13 G G (SG (q0q G G) G G G (PT G G G (AS G G (NL ?_)))))));exact MN ⟨_,_,G,H,e2⟩
   rw[if_neg hk6] at e2;obtain⟨c7,hxc7,e2⟩:=bnd e2;obtain⟨b8,hx9,e2⟩:=bnd e2;refine SG (q01 G) G G G (DG hk6 (q0O G G) G G G ?_);rcases b8 with _|_
   ·
    rw[if_neg l00] at e2;obtain⟨n10,hxn10,e2⟩:=bnd e2;obtain⟨c11,hxc11,e2⟩:=bnd e2;obtain⟨b12,hx13,e2⟩:=bnd e2;refine SG (q01 G) G G G (SG (q01 G) G G G (SG (q0J Tu9 G G hxc7) G G G (q03 H (Y11 hx9) G trivial (q06 G G G) G ?_)));intro v12 M w H hle hR;obtain rfl:=hR;refine SG (q0o G) G G G (SG (q01 G) G G G (SG (q01 G) G G G (SG (q01 G) G G G (SG (q0u Tu9 G) G G G (SG (q0W G G hxn10) G G G (SG (q0J Tu9 G G hxc11) G G G (q03 H (Y11 hx13) G trivial (q06 G G G) G ?_)))))));intro v20 M w H hle hR;obtain rfl:=hR;refine SG (q0o G) G G G (SG (q0q G G) G G G (SG (q0m G G) G G G (PT G G G (AS G G (NL ?_)))));exact MN ⟨_,_,G,H,e2⟩
   rw[if_pos rfl] at e2;refine SG (q01 G) G G G (SG (q01 G) G G G (SG (q0J Tu9 G G hxc7) G G G (q03 H (Y11 hx9) G trivial (q06 G G G) G ?_)));intro v12 M w H hle hR;obtain rfl:=hR;refine SG (q0o G) G G G (SG (q01 G) G G G (q05 7 G G (SG (q0m G G) G G G (SG (q0m G G) G G G (PT G G G (AS G G (NL ?_)))))));exact MN ⟨_,_,G,H,e2⟩
  rw[if_pos rfl] at e2;refine q05 17 G G (PF G G G (AS G G (NL ?_)));exact MN ⟨_,_,G,H,e2⟩
 rintro e w ⟨b3,M,rfl,H,q14⟩;obtain rfl:=oI q14;refine TN (RT ?_);obtain rfl:=oI h;exact q0h G G H.ext G
theorem fold_point_ct {p0:Ls}{p1:Int}{r:Int}(h:fold_point p0 p1=some r):Ct Tryz.prog 89 [S p0,I p1] (fun M=>True) (fun v M=>v=I r):=by
 refine Ct.of Tryz.func89 (enters Tryz.func89 Kr G) G G G ?_;intro w0 M0 H hp;unfold fold_point at h;refine SQ (RG (AS G G (NL (TN (SQ (RG (AS G G (NL (TN (SQ (SQ (RG (MV G G (ST (Ex.max2 G G) G (AS G G (NL (TN ?_)))))))))))))))));obtain⟨o1,e2,h⟩:=bnd h;refine q0e (fun e w =>∃(n3:Int) (M:Mem),e=[(5,I n3)]∧St w0 M0 M [] w∧some n3=some o1) [] ?_ ?_ (trivial)
 ·
  refine BL (q0y (fun m e w =>∃(n4:Int) (n5:Int) (M:Mem),e=[(0,S p0),(5,I n4),(6,I n5)]∧St w0 M0 M [] w∧fold_point_L1 p0 m n4 n5=some o1) FU [(0,_),(5,_),(6,_)] ⟨rfl,rfl,rfl,trivial⟩ ⟨_,_,_,rfl,H,e2⟩ ?_);rintro m6 e w ⟨n4,n5,M,rfl,H,e2⟩;rcases m6 with _|m6
  · rw[fold_point_L1] at e2;cases e2
  rw[fold_point_L1] at e2;refine SQ (SQ (RG (MV G G (MV G G (ST (q0u Tu9 G) G (ST (q0v G G) G (NL (TN ?_))))))));refine CB (p:=n5<(p0.length:Int)) G (fun hk7=>?_) fun hk7=>?_
  ·
   rw[if_pos hk7] at e2;refine SK (TN (SQ (BL (SQ (SQ ?_)))));obtain⟨o8,e9,e2⟩:=bnd e2;refine q0e (fun e w =>∃(b10:Bool) (M:Mem),e=[(0,S p0),(5,I n4),(6,I n5),(26,Value.bool b10)]∧St w0 M0 M [] w∧some b10=some o8) [] ?_ ?_ (trivial)
   ·
    obtain⟨c11,hxc11,e9⟩:=bnd e9;obtain⟨b12,hx13,e9⟩:=bnd e9;refine RG (MV G G (MV G G (ST (q0J Tu9 G G hxc11) G (q03 H (Y11 hx13) G trivial (q00 G) G ?_))));intro v18 M w H hle hR;obtain rfl:=hR;refine ST (q0o G) G (MV G G ?_);rcases b12 with _|_
    ·
     rw[if_neg l00] at e9;refine q05 5 G G (PT G G G (NL ?_));exact MN ⟨_,_,G,H,e9⟩
    rw[if_pos rfl] at e9;obtain⟨n14,hxn14,e9⟩:=bnd e9;obtain⟨c15,hxc15,e9⟩:=bnd e9;obtain⟨b16,hx17,e9⟩:=bnd e9;refine SG (q01 G) G G G (SG (q01 G) G G G (SG (q0W G G hxn14) G G G (SG (q0J Tu9 G G hxc15) G G G (q03 H (Y11 hx17) G trivial (q06 G G G) G ?_))));intro v25 M w H hle hR;obtain rfl:=hR;refine PF G G G (NL ?_);exact MN ⟨_,_,G,H,e9⟩
   rintro e w ⟨b10,M,rfl,H,q18⟩;obtain rfl:=oI q18;refine TN ?_;refine q0b G (fun hk19=>?_) (fun hk19=>?_)
   ·
    subst hk19;rw[if_pos rfl] at e2;refine q0x (q07 (q0k (TN ?_)));obtain⟨n20,hxn20,e2⟩:=bnd e2;refine RG (MV G G (ST (q0l G G hxn20) G (AS G G (NL ?_))));exact AG m6 ⟨_,_,_,G,H,e2⟩ (l07 _)
   subst hk19;rw[if_neg l00] at e2;refine SK (TN (SQ (SQ ?_)));obtain⟨o21,e22,e2⟩:=bnd e2;refine q0e (fun e w =>∃(b23:Bool) (M:Mem),e=[(0,S p0),(5,I n4),(6,I n5),(32,Value.bool b23)]∧St w0 M0 M [] w∧some b23=some o21) [] ?_ ?_ (trivial)
   ·
    by_cases hk24:(0:Int)<n4
    ·
     rw[if_pos hk24] at e22;refine RG (MV G G (DT hk24 (q0A G G) G (MV G G (SG (q01 G) G G G (SG (q0A G G) G G G (PT G G G (NL ?_)))))));exact MN ⟨_,_,G,H,e22⟩
    rw[if_neg hk24] at e22;refine RG (MV G G (DF hk24 (q0A G G) G (MV G G (GF G G G (GF G G G (PF G G G (NL ?_)))))));exact MN ⟨_,_,G,H,e22⟩
   rintro e w ⟨b23,M,rfl,H,q25⟩;obtain rfl:=oI q25;refine TN ?_;refine q0b G (fun hk26=>?_) (fun hk26=>?_)
   ·
    subst hk26;rw[if_pos rfl] at e2;refine q0x (q07 (WQ.exitOut G (q07 (q07 (q0k ?_)))));exact MN ⟨_,_,G,H,e2⟩
   subst hk26;rw[if_neg l00] at e2;refine SK (TN (RG (MV G G (AS G G (NL (IB (TN ?_)))))));obtain⟨n27,hxn27,e2⟩:=bnd e2;refine RG (MV G G (ST (q0l G G hxn27) G (AS G G (NL ?_))));exact AG m6 ⟨_,_,_,G,H,e2⟩ (l07 _)
  rw[if_neg hk7] at e2;refine q0x (q07 (q07 (q0k ?_)));exact MN ⟨_,_,G,H,e2⟩
 rintro e w ⟨n3,M,rfl,H,q28⟩;obtain rfl:=oI q28;refine TN (SQ (RG (MV G G (AS G G (NL (TN (RT ?_)))))));obtain rfl:=oI h;exact q0h G G H.ext G
theorem Y00  {r:(Int × Int)} (h:Y0b=some r):Ct Tryz.prog 19 [] (fun M=>True) (fun v M=>v=Value.agg #[I r.1,I r.2]):=by
 refine Ct.of Tryz.func19 (enters Tryz.func19 Kr G) G G G ?_;intro w0 M0 H hp;unfold Y0b at h;refine SQ (RG (q0d [_,_] H Tz29 G (q00 G) G ?_));intro bk0 w H;refine NL (TN (SQ (RG (ST (q0z [I 0,I 0] Tu29 Tz29 (xplaces29 Tu29) G G) G (q04 [_,_] H G G G Ku Ts29 G Kf Kf (q00 G) ?_)))));intro w H;refine NL (TN (RT ?_));obtain rfl:=oI h;exact q0h G ⟨_,G,H.loadAgg Km Ta29 Ts29 Kf⟩ H.ext G
theorem fold_Fold_ct {p0:Ls}{p1:Ls}{r:(List Ls × (Int × Int))}(h:fold_Fold p0 p1=some r):Ct Tryz.prog 61 [S p0,S p1] (fun M=>True) (fun v M =>∃x0,v=Value.tuple #[x0,Value.agg #[I r.2.1,I r.2.2]]∧Sl M encS x0 r.1):=by
 refine Ct.of Tryz.func61 (enters Tryz.func61 Kr G) G G G ?_;intro w0 M0 H hp;unfold fold_Fold at h;refine SQ (RG (AS G G (q0d [_,_] H Tz29 G (q00 G) G ?_)));intro bk5 w H;refine NL (TN (SQ (BL (SQ ?_))));obtain⟨b1,hx2,h⟩:=bnd h;refine RG (MV G G (q03 H (fold_name_ct hx2) G trivial (q00 G) G ?_));intro v14 M w H hle hR;obtain rfl:=hR;refine ST (q0o G) G (AS G G (NL (TN ?_)));refine q0b G (fun hk3=>?_) (fun hk3=>?_)
 ·
  replace hk3:b1=false:=by simpa using hk3
  subst hk3;rw[if_neg l00] at h;refine SQ ?_;obtain⟨⟨n4,n5⟩,hx6,h⟩:=bnd h;try dsimp only at h
  refine RG (q03 H (Y05 hx6) G trivial (q00 G) G ?_);intro v16 M w H hle hR;try dsimp only at hR
  obtain rfl:=hR;refine AS G G (q04 [_,_] H G G G Ku Ts29 G Kf Kf (q00 G) ?_);intro w H;refine NL (TN (RT ?_));obtain rfl:=oI h;exact q0D G G ⟨_,G,H.loadAgg Km Ta29 Ts29 Kf⟩ H.ext (⟨_,G,q0Z _ _⟩)
 replace hk3:b1=true:=by simpa using hk3
 subst hk3;rw[if_pos rfl] at h;refine SQ (RG (MV G G (ST (q0u Tu9 G) G (ST (q0A G G) G (AS G G (NL (TN ?_)))))));refine CB (p:=(4000:Int)<(p1.length:Int)) G (fun hk7=>?_) fun hk7=>?_
 ·
  rw[if_pos hk7] at h;refine SQ ?_;obtain⟨⟨n8,n9⟩,hx10,h⟩:=bnd h;try dsimp only at h
  refine RG (q03 H (Y05 hx10) G trivial (q00 G) G ?_);intro v21 M w H hle hR;try dsimp only at hR
  obtain rfl:=hR;refine AS G G (q04 [_,_] H G G G Ku Ts29 G Kf Kf (q00 G) ?_);intro w H;refine NL (TN (RT ?_));obtain rfl:=oI h;exact q0D G G ⟨_,G,H.loadAgg Km Ta29 Ts29 Kf⟩ H.ext (⟨_,G,q0Z _ _⟩)
 rw[if_neg hk7] at h;refine SQ ?_;obtain⟨b11,hx12,h⟩:=bnd h;refine RG (MV G G (q03 H (fold_value_ct hx12) G trivial (q00 G) G ?_));intro v24 M w H hle hR;obtain rfl:=hR;refine ST (q0o G) G (AS G G (NL (TN ?_)));refine q0b G (fun hk13=>?_) (fun hk13=>?_)
 ·
  replace hk13:b11=false:=by simpa using hk13
  subst hk13;rw[if_neg l00] at h;refine SQ ?_;obtain⟨⟨n14,n15⟩,hx16,h⟩:=bnd h;try dsimp only at h
  refine RG (q03 H (Y05 hx16) G trivial (q00 G) G ?_);intro v26 M w H hle hR;try dsimp only at hR
  obtain rfl:=hR;refine AS G G (q04 [_,_] H G G G Ku Ts29 G Kf Kf (q00 G) ?_);intro w H;refine NL (TN (RT ?_));obtain rfl:=oI h;exact q0D G G ⟨_,G,H.loadAgg Km Ta29 Ts29 Kf⟩ H.ext (⟨_,G,q0Z _ _⟩)
 replace hk13:b11=true:=by simpa using hk13
 subst hk13;rw[if_pos rfl] at h;refine SK (IB (TN (SQ ?_)));obtain⟨s17,hxs17,h⟩:=bnd h;obtain⟨s18,hxs18,h⟩:=bnd h;obtain⟨n19,hxn19,h⟩:=bnd h;refine RG (MV G G (ST (q0r G G hxs17) G (MV G G (ST (q0r G G hxs18) G (MV G G (ST (q0u Tu9 G) G (ST (q0l G G hxn19) G (AS G G (AS G G (NL (TN (SQ (RG (AS G G (NL (TN (SQ ?_)))))))))))))))));obtain⟨o20,e21,h⟩:=bnd h;refine q0e (fun e w =>∃(s22:Ls) (l24:List Ls) (v25:Value) (M:Mem),e=[(5,ptr bk5 0),(6,S s22),(8,v25)]∧St w0 M0 M [.blk bk5 (.cells #[I 0,I 0] 29),RowI 9 encS v25 l24] w∧some (s22,l24)=some o20) [] ?_ ?_ (trivial)
 ·
  refine BL ?_;replace H:=H.newRow 9 encS;refine q0y (fun m e w =>∃(s26:Ls) (n27:Int) (l29:List Ls) (v30:Value) (M:Mem),e=[(5,ptr bk5 0),(6,S s26),(7,I n27),(8,v30)]∧St w0 M0 M [.blk bk5 (.cells #[I 0,I 0] 29),RowI 9 encS v30 l29] w∧fold_Fold_L1  m s26 n27 l29=some o20) FU [(5,_),(6,_),(7,_),(8,_)] ⟨rfl,rfl,rfl,rfl,trivial⟩ ⟨_,_,_,_,_,rfl,(H.pick (L':=[.blk bk5 (.cells #[I 0,I 0] 29),RowI 9 encS (Value.slice none 0 0) []]) Kp),e21⟩ ?_;rintro m31 e w ⟨s26,n27,l29,v30,M,rfl,H,e21⟩;rcases m31 with _|m31
  · rw[fold_Fold_L1] at e21;cases e21
  rw[fold_Fold_L1] at e21;refine SQ (SQ (RG (MV G G (ST (q0u Tu9 G) G (ST (q0A G G) G (NL (TN ?_)))))));refine CB (p:=(78:Int)<(s26.length:Int)) G (fun hk33=>?_) fun hk33=>?_
  ·
   rw[if_pos hk33] at e21;refine SK (TN (BL (SQ ?_)));obtain⟨n34,hx35,e21⟩:=bnd e21;refine RG (MV G G (MV G G (q03 H (fold_point_ct hx35) G trivial (q00 G) G ?_)));intro v39 M w H hle hR;obtain rfl:=hR;refine AS G G (NL (TN (SQ (SQ (RG (MV G G (ST (q0j G G) G (NL (TN ?_)))))))));refine CB (p:=n34=(0:Int)) G (fun hk36=>?_) fun hk36=>?_
   ·
    rw[if_pos hk36] at e21;refine q0x (q07 (WQ.exitOut G (q07 (q0k ?_))));exact MN ⟨_,_,_,_,G,H,e21⟩
   rw[if_neg hk36] at e21;refine SK (TN (SQ ?_));obtain⟨s37,hxs37,e21⟩:=bnd e21;obtain⟨l38,hxl38,e21⟩:=bnd e21;refine RG (MV G G (MV G G (MV G G (ST (Ex.sliceH Tu9 G G hxs37) G (WR.lit (enc:=encS) xty27 ([s37]:List Ls) H G Kf (fun _=>G) G G (q00 G) G ?_)))));intro v46 M w H hle hs46;refine q1g (l:=l29) xty27 G (fun _=>G) H G (fun _=>by repeat first|exact .head|apply Upd.tail) G (hs46) hxl38 (q00 G) G ?_;intro v47 w H;refine AS G G (NL (TN ?_));obtain⟨s39,hxs39,e21⟩:=bnd e21;refine RG (MV G G (MV G G (ST (Ex.sliceL Tu9 G G hxs39) G (AS G G (AS G G (NL (IB ?_)))))));exact AG m31 ⟨_,_,_,_,_,G,H,e21⟩ (l07 _)
  rw[if_neg hk33] at e21;refine q0x (q07 (q07 (q0k ?_)));exact MN ⟨_,_,_,_,G,H,e21⟩
 rintro e w ⟨s22,l24,v25,M,rfl,H,q40⟩;obtain rfl:=oI q40;try dsimp only at h
 refine TN (SQ ?_);obtain⟨l41,hxl41,h⟩:=bnd h;refine RG (MV G G (MV G G (WR.lit (enc:=encS) xty27 ([s22]:List Ls) H G Kf (fun _=>G) G G (q00 G) G ?_)));intro v53 M w H hle hs53;refine q1g (l:=l24) xty27 G (fun _=>G) H G (fun _=>by repeat first|exact .head|apply Upd.tail) G (hs53) hxl41 (q00 G) G ?_;intro v54 w H;refine AS G G (NL (TN (SQ (SQ (RG (MV G G (ST (q1i (l:=l41) Tu27 H Km G) G ?_)))))));refine MV G G (NL (TN ?_));obtain⟨o42,e43,h⟩:=bnd h;refine q0e (fun e w =>∃(n44:Int) (n45:Int) (M:Mem),e=[(5,ptr bk5 0),(8,v54)]∧St w0 M0 M [.blk bk5 (.cells #[I n44,I n45] 29),RowI 9 encS v54 l41] w∧some (.inl (n44,n45))=some o42) [] ?_ ?_ (trivial)
 ·
  refine BL (q0y (fun m e w =>∃(n46:Int) (n47:Int) (n48:Int) (M:Mem),e=[(5,ptr bk5 0),(8,v54),(55,v54),(56,I (l41.length:Int)),(57,I n48)]∧St w0 M0 M [.blk bk5 (.cells #[I n46,I n47] 29),RowI 9 encS v54 l41] w∧fold_Fold_L2 l41 m n46 n47 n48=some o42) FU [(5,_),(8,_),(55,_),(56,_),(57,_)] ⟨rfl,rfl,rfl,rfl,rfl,trivial⟩ ⟨_,_,_,_,rfl,H,e43⟩ ?_);rintro m49 e w ⟨n46,n47,n48,M,rfl,H,e43⟩;rcases m49 with _|m49
  · rw[fold_Fold_L2] at e43;cases e43
  rw[fold_Fold_L2] at e43;refine SQ (RG (ST (q0v G G) G (NL (TN (SQ ?_)))));refine CB (p:=n48<(l41.length:Int)) G (fun hk50=>?_) fun hk50=>?_
  ·
   rw[if_pos hk50] at e43;refine SK (TN (SQ (BL (SQ ?_))));obtain⟨a51,hxa51,e43⟩:=bnd e43;refine RG (MV G G (q1p (l:=l41) H Tu27 Ts9 Km G G hxa51 (q00 G) G ?_));intro g60 hg60;refine ST (Ex.loadRowC H G hg60 Km hxa51 Ta9) G ?_;refine AS G G (AS G G (NL (TN (SQ (RG (MV G G (ST (q0u Tu9 G) G (ST (q0A G G) G (NL (TN ?_))))))))));refine CB (p:=(998:Int)<(a51.length:Int)) G (fun hk52=>?_) fun hk52=>?_
   ·
    rw[if_pos hk52] at e43;refine SQ ?_;obtain⟨⟨n53,n54⟩,hx55,e43⟩:=bnd e43;try dsimp only at e43
    refine RG (MV G G (q03 H (Y05 hx55) G trivial (q00 G) G ?_));intro v66 M w H hle hR;try dsimp only at hR
    obtain rfl:=hR;refine AS G G (q04 [_,_] H G G G Ku Ts29 G Kf Kf (q00 G) ?_);intro w H;refine NL (TN (RT ?_));obtain rfl:=oI e43;try dsimp only at h
    obtain rfl:=oI h;exact q0D G G ⟨_,G,H.loadAgg Km Ta29 Ts29 Kf⟩ H.ext (⟨_,G,q0Z _ _⟩)
   rw[if_neg hk52] at e43;refine SK (IB (TN ?_));obtain⟨n56,hxn56,e43⟩:=bnd e43;refine RG (ST (q0l G G hxn56) G (MV G G (NL ?_)));exact AG m49 ⟨_,_,_,_,G,H,e43⟩ (l07 _)
  rw[if_neg hk50] at e43;refine q0x (q07 (q07 (q0k ?_)));exact MN ⟨_,_,_,G,H,e43⟩
 rintro e w ⟨n44,n45,M,rfl,H,q57⟩;obtain rfl:=oI q57;try dsimp only at h
 refine TN (SQ ?_);obtain⟨⟨n58,n59⟩,hx60,h⟩:=bnd h;try dsimp only at h
 refine RG (MV G G (q03 H (Y00 hx60) G trivial (q00 G) G ?_));intro v69 M w H hle hR;try dsimp only at hR
 obtain rfl:=hR;refine AS G G (q04 [_,_] H G G G Ku Ts29 G Kf Kf (q00 G) ?_);intro w H;refine NL (TN (RT ?_));obtain⟨M,hle,hs61,H⟩:=H.freezeRow (v:=v54) (enc:=encS) (t:=9) Kv;obtain rfl:=oI h;exact q0D G G ⟨_,G,H.loadAgg Km Ta29 Ts29 Kf⟩ H.ext (⟨_,G,hs61⟩)
theorem Y01 {p0:(Int × Int)}{r:Bool}(h:Y02 p0=some r):Ct Tryz.prog 13 [Value.agg #[I p0.1,I p0.2]] (fun M=>True) (fun v M=>v=Value.bool r):=by
 refine Ct.of Tryz.func13 (enters Tryz.func13 Kr G) G G G ?_;intro w0 M0 H hp;unfold Y02 at h;refine SQ (RG (q0M [_,_] H G G (q00 G) G ?_));intro bk1 w H;refine AS G G (NL (TN (SQ (RG (ST (q02 Tu29 G Ts3 Dc G) G (ST (XL H Ta3) G ?_))))));refine ST (q0s G G) G (AS G G (NL (TN (RT ?_))));obtain rfl:=oI h;exact q0h G G H.ext G
theorem Y1k {p0:List (Ls × Ls)}{vp0:Value}{r:(Int × Int)}(h:Y0J p0=some r):Ct Tryz.prog 34 [vp0] (fun M=>SlS M 2 xenc37 vp0 p0) (fun v M=>v=Value.agg #[I r.1,I r.2]):=by
 refine Ct.of Tryz.func34 (enters Tryz.func34 Kr G) G G G ?_;intro w0 M0 H hp;have hp0:=hp;unfold Y0J at h;refine SQ (RG (q0d [_,_] H Tz29 G (q00 G) G ?_));intro bk2 w H;refine NL (TN (SQ (SQ (RG (MV G G (ST (q0K Tu22 hp0 G) G (ST (q0A G G) G (NL (TN ?_)))))))));refine CB (p:=(60:Int)<(p0.length:Int)) G (fun hk1=>?_) fun hk1=>?_
 ·
  rw[if_pos hk1] at h;refine SQ ?_;obtain⟨⟨n2,n3⟩,hx4,h⟩:=bnd h;try dsimp only at h
  refine RG (q03 H (Y05 hx4) G trivial (q00 G) G ?_);intro v10 M w H hle hR;try dsimp only at hR
  obtain rfl:=hR;refine q04 [_,_] H G G G Ku Ts29 G Kf Kf (q00 G) ?_;intro w H;refine NL (TN (RT ?_));obtain rfl:=oI h;exact q0h G ⟨_,G,H.loadAgg Km Ta29 Ts29 Kf⟩ H.ext G
 rw[if_neg hk1] at h;refine SK (TN (SQ (SQ (RG (MV G G (ST (q0K Tu22 hp0 G) G (MV G G (NL (TN ?_)))))))));obtain⟨o5,e6,h⟩:=bnd h;refine q0e (fun e w =>∃(n7:Int) (n8:Int) (M:Mem),e=[(2,ptr bk2 0)]∧St w0 M0 M [.blk bk2 (.cells #[I n7,I n8] 29)] w∧some (.inl (n7,n8))=some o5) [] ?_ ?_ (trivial)
 ·
  refine BL (q0y (fun m e w =>∃(n9:Int) (n10:Int) (n11:Int) (M:Mem),e=[(2,ptr bk2 0),(11,vp0),(12,I (p0.length:Int)),(13,I n11)]∧St w0 M0 M [.blk bk2 (.cells #[I n9,I n10] 29)] w∧SlS M 2 xenc37 vp0 p0∧Y0h p0 m n9 n10 n11=some o5) FU [(2,_),(11,_),(12,_),(13,_)] ⟨rfl,rfl,rfl,rfl,trivial⟩ ⟨_,_,_,_,rfl,H,hp0,e6⟩ ?_);rintro m12 e w ⟨n9,n10,n11,M,rfl,H,hp0,e6⟩;rcases m12 with _|m12
  · rw[Y0h] at e6;cases e6
  rw[Y0h] at e6;refine SQ (RG (ST (q0v G G) G (NL (TN (SQ ?_)))));refine CB (p:=n11<(p0.length:Int)) G (fun hk13=>?_) fun hk13=>?_
  ·
   rw[if_pos hk13] at e6;refine SK (TN (SQ (BL (SQ ?_))));obtain⟨a14,hxa14,e6⟩:=bnd e6;obtain⟨bk16,o16,ha16,hc16⟩:=hp0.atC hxa14;refine RG (MV G G (ST (q0p ha16 Tu22 Ts37 G G) G (ST (q0T H G hc16 Ta37 Ts37 Kf) G ?_)));refine q0d [_,_] H Tz37 G (q00 G) G ?_;intro bk4 w H;refine AS G G (q04 [_,_] H G G G Ku Ts37 G Kf Kf (q00 G) ?_);intro w H;refine NL (TN (SQ ?_));obtain⟨⟨l15,⟨n16,n17⟩⟩,hx18,e6⟩:=bnd e6;try dsimp only at e6
   refine RG (ST (q02 Tu37 G Ts9 Dc G) G (ST (XL H Ta9) G ?_));refine ST (q02 Tu37 G Ts9 Dc G) G (ST (XL H Ta9) G ?_);refine q03 H (fold_Fold_ct hx18) G trivial (q00 G) G ?_;intro v23 M w H hle hR;replace hp0:=hp0.mono hle;try dsimp only at hR
   obtain⟨x23_0,rfl,f23_0⟩:=hR;refine MV G G (ST (q0c G G) G (ST (q0c G G) G (q0d [_,_] H Tz29 G (q00 G) G ?_)));intro bk6 w H;refine AS G G (q04 [_,_] H G G G Ku Ts29 G Kf Kf (q00 G) ?_);intro w H;refine NL (TN (SQ ?_));obtain⟨b19,hx20,e6⟩:=bnd e6;refine RG (ST (q0f H G Km Ta29 Ts29 Kf) G ?_);refine q03 H (Y01 hx20) G trivial (q00 G) G ?_;intro v27 M w H hle hR;replace hp0:=hp0.mono hle;obtain rfl:=hR;refine NL (TN ?_);refine q0b G (fun hk21=>?_) (fun hk21=>?_)
   ·
    subst hk21;rw[if_pos rfl] at e6;refine SQ ?_;obtain⟨⟨n22,n23⟩,hx24,e6⟩:=bnd e6;try dsimp only at e6
    refine RG (ST (q02 Tu29 G Ts3 Dc G) G (ST (XL H Ta3) G ?_));refine MV G G (q03 H (Y05 hx24) G trivial (q00 G) G ?_);intro v31 M w H hle hR;try dsimp only at hR
    obtain rfl:=hR;refine q04 [_,_] H G G G Ku Ts29 G Kf Kf (q00 G) ?_;intro w H;refine NL (TN (RT ?_));obtain rfl:=oI e6;try dsimp only at h
    obtain rfl:=oI h;exact q0h G ⟨_,G,H.loadAgg Km Ta29 Ts29 Kf⟩ H.ext G
   subst hk21;rw[if_neg l00] at e6;refine SK (IB (TN ?_));obtain⟨n25,hxn25,e6⟩:=bnd e6;refine RG (ST (q0l G G hxn25) G (MV G G (NL ?_)));exact AG m12 ⟨_,_,_,_,G,(H.pick (L':=[.blk bk2 (.cells #[I n9,I n10] 29)]) Kp),hp0,e6⟩ (l07 _)
  rw[if_neg hk13] at e6;refine q0x (q07 (q07 (q0k ?_)));exact MN ⟨_,_,_,G,H,e6⟩
 rintro e w ⟨n7,n8,M,rfl,H,q26⟩;obtain rfl:=oI q26;try dsimp only at h
 refine TN (SQ ?_);obtain⟨⟨n27,n28⟩,hx29,h⟩:=bnd h;try dsimp only at h
 refine RG (q03 H (Y00 hx29) G trivial (q00 G) G ?_);intro v33 M w H hle hR;try dsimp only at hR
 obtain rfl:=hR;refine q04 [_,_] H G G G Ku Ts29 G Kf Kf (q00 G) ?_;intro w H;refine NL (TN (RT ?_));obtain rfl:=oI h;exact q0h G ⟨_,G,H.loadAgg Km Ta29 Ts29 Kf⟩ H.ext G
theorem message_write_ct {p0:(List (Ls × Ls) × Ls)}{vp0_0:Value}{vp0_1:Value}{r:Ls}(h:message_write p0=some r):Ct Tryz.prog 35 [Value.agg #[vp0_0,vp0_1]] (fun M=>SlS M 2 xenc37 vp0_0 p0.1∧Sl M encB vp0_1 p0.2) (fun v M=>Sl M encB v r):=by
 refine Ct.of Tryz.func35 (enters Tryz.func35 Kr G) G G G ?_;intro w0 M0 H hp;obtain⟨hp0_0,hp0_1⟩:=hp;unfold message_write at h;refine SQ (RG (q0M [_,_] H G G (q00 G) G ?_));intro bk1 w H;refine AS G G (NL (TN (SQ (RG (AS G G (NL (TN (SQ (SQ (RG (ST (q02 Tu25 G Ts22 Dc G) G (ST (XL H Ta22) G ?_))))))))))));refine ST (q0K Tu22 hp0_0 G) G (MV G G (NL (TN ?_)));obtain⟨o1,e2,h⟩:=bnd h;refine q0e (fun e w =>∃(l4:Ls) (v5:Value) (M:Mem),e=[(1,ptr bk1 0),(3,v5)]∧St w0 M0 M [.blk bk1 (.cells #[vp0_0,vp0_1] 25),RowI 5 encB v5 l4] w∧SlS M 2 xenc37 vp0_0 p0.1∧Sl M encB vp0_1 p0.2∧some l4=some o1) [] ?_ ?_ (trivial)
 ·
  refine BL ?_;replace H:=H.newRow 5 encB;refine q0y (fun m e w =>∃(l7:Ls) (v8:Value) (n9:Int) (M:Mem),e=[(1,ptr bk1 0),(3,v8),(11,vp0_0),(12,I (p0.1.length:Int)),(13,I n9)]∧St w0 M0 M [.blk bk1 (.cells #[vp0_0,vp0_1] 25),RowI 5 encB v8 l7] w∧SlS M 2 xenc37 vp0_0 p0.1∧Sl M encB vp0_1 p0.2∧message_write_L1 p0 m l7 n9=some o1) FU [(1,_),(3,_),(11,_),(12,_),(13,_)] ⟨rfl,rfl,rfl,rfl,rfl,trivial⟩ ⟨_,_,_,_,rfl,(H.pick (L':=[.blk bk1 (.cells #[vp0_0,vp0_1] 25),RowI 5 encB (Value.slice none 0 0) []]) Kp),hp0_0,hp0_1,e2⟩ ?_;rintro m10 e w ⟨l7,v8,n9,M,rfl,H,hp0_0,hp0_1,e2⟩;rcases m10 with _|m10
  · rw[message_write_L1] at e2;cases e2
  rw[message_write_L1] at e2;refine SQ (RG (ST (q0v G G) G (NL (TN (SQ ?_)))));refine CB (p:=n9<(p0.1.length:Int)) G (fun hk12=>?_) fun hk12=>?_
  ·
   rw[if_pos hk12] at e2;refine SK (TN (SQ (BL (SQ ?_))));obtain⟨a13,hxa13,e2⟩:=bnd e2;obtain⟨bk15,o15,ha15,hc15⟩:=hp0_0.atC hxa13;refine RG (ST (q0p ha15 Tu22 Ts37 G G) G (ST (q0T H G hc15 Ta37 Ts37 Kf) G ?_));refine q0d [_,_] H Tz37 G (q00 G) G ?_;intro bk5 w H;refine q04 [_,_] H G G G Ku Ts37 G Kf Kf (q00 G) ?_;intro w H;refine NL (TN (SQ ?_));obtain⟨⟨l14,⟨n15,n16⟩⟩,hx17,e2⟩:=bnd e2;try dsimp only at e2
   refine RG (ST (q02 Tu37 G Ts9 Dc G) G (ST (XL H Ta9) G ?_));refine ST (q02 Tu37 G Ts9 Dc G) G (ST (XL H Ta9) G ?_);refine q03 H (fold_Fold_ct hx17) G trivial (q00 G) G ?_;intro v22 M w H hle hR;replace hp0_0:=hp0_0.mono hle;replace hp0_1:=hp0_1.mono hle;try dsimp only at hR
   obtain⟨x22_0,rfl,f22_0⟩:=hR;refine MV G G (ST (q0c G G) G (ST (q0c G G) G (q0d [_,_] H Tz29 G (q00 G) G ?_)));intro bk7 w H;refine AS G G (q04 [_,_] H G G G Ku Ts29 G Kf Kf (q00 G) ?_);intro w H;refine NL (TN (SQ (RG (MV G G (ST (q0i Tu27 f22_0 G) G (MV G G (NL (TN ?_))))))));obtain⟨o18,e19,e2⟩:=bnd e2;refine q0e (fun e w =>∃(l21:Ls) (v23:Value) (M:Mem),e=[(1,ptr bk1 0),(3,v23),(11,vp0_0),(12,I (p0.1.length:Int)),(13,I n9)]∧St w0 M0 M [.blk bk1 (.cells #[vp0_0,vp0_1] 25),RowI 5 encB v23 l21] w∧SlS M 2 xenc37 vp0_0 p0.1∧Sl M encB vp0_1 p0.2∧some l21=some o18) [] ?_ ?_ (trivial)
   ·
    refine BL ?_;refine q0y (fun m e w =>∃(l25:Ls) (v27:Value) (n28:Int) (M:Mem),e=[(1,ptr bk1 0),(3,v27),(11,vp0_0),(12,I (p0.1.length:Int)),(13,I n9),(25,x22_0),(26,I (l14.length:Int)),(27,I n28)]∧St w0 M0 M [.blk bk1 (.cells #[vp0_0,vp0_1] 25),RowI 5 encB v27 l25] w∧SlS M 2 xenc37 vp0_0 p0.1∧Sl M encB vp0_1 p0.2∧Sl M encS x22_0 l14∧message_write_L2 l14 m l25 n28=some o18) FU [(1,_),(3,_),(11,_),(12,_),(13,_),(25,_),(26,_),(27,_)] ⟨rfl,rfl,rfl,rfl,rfl,rfl,rfl,rfl,trivial⟩ ⟨_,_,_,_,rfl,(H.pick (L':=[.blk bk1 (.cells #[vp0_0,vp0_1] 25),RowI 5 encB v8 l7]) Kp),hp0_0,hp0_1,f22_0,e19⟩ ?_;rintro m29 e w ⟨l25,v27,n28,M,rfl,H,hp0_0,hp0_1,f22_0,e19⟩;rcases m29 with _|m29
    · rw[message_write_L2] at e19;cases e19
    rw[message_write_L2] at e19;refine SQ (RG (ST (q0v G G) G (NL (TN (SQ ?_)))));refine CB (p:=n28<(l14.length:Int)) G (fun hk30=>?_) fun hk30=>?_
    ·
     rw[if_pos hk30] at e19;refine SK (TN (SQ (BL (SQ ?_))));obtain⟨a31,hxa31,e19⟩:=bnd e19;obtain⟨bk29,o29,ha29,hc29⟩:=f22_0.atC hxa31;refine RG (ST (q0p ha29 Tu27 Ts9 G G) G (ST (q0g H G hc29 Ta9) G (AS G G (NL (TN ?_)))));obtain⟨l32,hxl32,e19⟩:=bnd e19;obtain⟨l33,hxl33,e19⟩:=bnd e19;refine RG (MV G G (MV G G (q0P (l:=l25) xty23 Tu9 H G (fun _=>by repeat first|exact .head|apply Upd.tail) G hxl32 (q00 G) G ?_)));intro v33 w H;refine WR.lit (enc:=encB) xty23 ([13,10]:Ls) H G Kf (fun _=>G) G G (q00 G) G ?_;intro v34 M w H hle hs34;replace hp0_0:=hp0_0.mono hle;replace f22_0:=f22_0.mono hle;replace hp0_1:=hp0_1.mono hle;refine q1g (l:=l32) xty23 G (fun _=>G) H G (fun _=>by repeat first|exact .head|apply Upd.tail) G (hs34) hxl33 (q00 G) G ?_;intro v35 w H;refine AS G G (NL (IB (TN ?_)));obtain⟨n34,hxn34,e19⟩:=bnd e19;refine RG (ST (q0l G G hxn34) G (MV G G (NL ?_)));exact AG m29 ⟨_,_,_,_,G,H,hp0_0,hp0_1,f22_0,e19⟩ (l07 _)
    rw[if_neg hk30] at e19;refine q0x (q07 (q07 (q0k ?_)));exact MN ⟨_,_,_,G,H,hp0_0,hp0_1,e19⟩
   rintro e w ⟨l21,v23,M,rfl,H,hp0_0,hp0_1,q35⟩;obtain rfl:=oI q35;refine IB (TN ?_);obtain⟨n36,hxn36,e2⟩:=bnd e2;refine RG (ST (q0l G G hxn36) G (MV G G (NL ?_)));exact AG m10 ⟨_,_,_,_,G,H,hp0_0,hp0_1,e2⟩ (l07 _)
  rw[if_neg hk12] at e2;refine q0x (q07 (q07 (q0k ?_)));exact MN ⟨_,_,_,G,H,hp0_0,hp0_1,e2⟩
 rintro e w ⟨l4,v5,M,rfl,H,hp0_0,hp0_1,q37⟩;obtain rfl:=oI q37;refine TN (SQ ?_);obtain⟨l38,hxl38,h⟩:=bnd h;obtain⟨l39,hxl39,h⟩:=bnd h;refine q1f (fun e w =>∃(v41:Value) (M:Mem),e=[(2,v41)]∧St w0 M0 M [RowI 5 encB v41 l39] w) ?_ ?_
 ·
  refine q0H (m:=7) G G H ?_;intro w H;refine TK 0 G (fun _=>q01 G) G (TK 3 G (fun _=>q02 Tu25 G Ts23 Dc G) G ?_);refine q0t (i:=1) (j:=4) Kr G G ?_ ?_
  ·
   refine WR.lit (enc:=encB) xty23 ([13,10]:Ls) H G Kf (fun _=>G) G G (q00 G) G ?_;intro v39 M w H hle hs39;replace hp0_1:=hp0_1.mono hle;refine NA ?_;refine q0t (i:=2) (j:=4) Kr G G ?_ ?_
   ·
    refine q1g (l:=l4) xty23 G (fun _=>G) H G (fun _=>by repeat first|exact .head|apply Upd.tail) G (hs39) hxl38 (q00 G) G ?_;intro v40 w H;refine NA (q0a (fuel:=0) [4,5,6] G Kr (ST (XL H Ta23) G ?_));refine q1g (l:=l38) xty23 G (fun _=>G) H G (fun _=>by repeat first|exact .head|apply Upd.tail) G (hp0_1) hxl39 (q00 G) G ?_;intro v43 w H;refine AS G G (NA (q08 Kr ?_));exact MP ⟨_,_,G,(H.pick (L':=[RowI 5 encB v43 l39]) Kp)⟩
   refine ST (XL H Ta23) G ?_;refine NA (q0a (fuel:=0) [2,5,6] G Kr (q1g (l:=l4) xty23 G (fun _=>G) H G (fun _=>by repeat first|exact .head|apply Upd.tail) G (hs39) hxl38 (q00 G) G ?_));intro v40 w H;refine q1g (l:=l38) xty23 G (fun _=>G) H G (fun _=>by repeat first|exact .head|apply Upd.tail) G (hp0_1) hxl39 (q00 G) G ?_;intro v43 w H;refine AS G G (NA (q08 Kr ?_));exact MP ⟨_,_,G,(H.pick (L':=[RowI 5 encB v43 l39]) Kp)⟩
  refine ST (XL H Ta23) G ?_;refine NA (q0a (fuel:=0) [1,2,5,6] G Kr (WR.lit (enc:=encB) xty23 ([13,10]:Ls) H G Kf (fun _=>G) G G (q00 G) G ?_));intro v39 M w H hle hs39;replace hp0_1:=hp0_1.mono hle;refine q1g (l:=l4) xty23 G (fun _=>G) H G (fun _=>by repeat first|exact .head|apply Upd.tail) G (hs39) hxl38 (q00 G) G ?_;intro v40 w H;refine q1g (l:=l38) xty23 G (fun _=>G) H G (fun _=>by repeat first|exact .head|apply Upd.tail) G (hp0_1) hxl39 (q00 G) G ?_;intro v43 w H;refine AS G G (NA (q08 Kr ?_));exact MP ⟨_,_,G,(H.pick (L':=[RowI 5 encB v43 l39]) Kp)⟩
 rintro e w ⟨v41,M,rfl,H⟩;refine TN (RT ?_);obtain⟨M,hle,hs42,H⟩:=H.freezeRow (v:=v41) (enc:=encB) (t:=5) Kv;obtain rfl:=oI h;exact q0h G G H.ext hs42
theorem Y27 {p0:Ls}{vp0:Value}{r:Int}(h:Y1N p0=some r):Ct Tryz.prog 62 [vp0] (fun M=>Sl M encB vp0 p0) (fun v M=>v=I r):=by
 refine Ct.of Tryz.func62 (enters Tryz.func62 Kr G) G G G ?_;intro w0 M0 H hp;have hp0:=hp;unfold Y1N at h;refine SQ (RG (AS G G (NL (TN (SQ (RG (AS G G (NL (TN (SQ (SQ (RG (AS G G (NL (TN ?_)))))))))))))));obtain⟨o1,e2,h⟩:=bnd h;refine q0e (fun e w =>∃  (M:Mem),e=[]∧St w0 M0 M [] w∧some (.inl ())=some o1) [] ?_ ?_ (trivial)
 ·
  refine BL (q0y (fun m e w =>∃(n3:Int) (n4:Int) (M:Mem),e=[(0,vp0),(3,I n3),(4,I n4)]∧St w0 M0 M [] w∧Sl M encB vp0 p0∧Y0F p0 m n3 n4=some o1) FU [(0,_),(3,_),(4,_)] ⟨rfl,rfl,rfl,trivial⟩ ⟨_,_,_,rfl,H,hp0,e2⟩ ?_);rintro m5 e w ⟨n3,n4,M,rfl,H,hp0,e2⟩;rcases m5 with _|m5
  · rw[Y0F] at e2;cases e2
  rw[Y0F] at e2;refine SQ (SQ (RG (MV G G (MV G G (ST (q0i Tu23 hp0 G) G (ST (q0v G G) G (NL (TN ?_))))))));refine CB (p:=n4<(p0.length:Int)) G (fun hk6=>?_) fun hk6=>?_
  ·
   rw[if_pos hk6] at e2;refine SK (TN (SQ (BL (SQ ?_))));obtain⟨c7,hxc7,e2⟩:=bnd e2;obtain⟨bk14,o14,ha14,hc14⟩:=hp0.atC hxc7;refine RG (MV G G (MV G G (ST (q0p ha14 Tu23 Ts5 G G) G (ST (q0g H G hc14 Ta5) G (AS G G (NL (TN (SQ (SQ ?_)))))))));obtain⟨o8,e9,e2⟩:=bnd e2;refine q0e (fun e w =>∃(b10:Bool) (M:Mem),e=[(0,vp0),(3,I n3),(4,I n4),(5,encB c7),(32,Value.bool b10)]∧St w0 M0 M [] w∧Sl M encB vp0 p0∧some b10=some o8) [] ?_ ?_ (trivial)
   ·
    by_cases hk11:c7=13
    ·
     rw[if_pos hk11] at e9;obtain⟨n12,hxn12,e9⟩:=bnd e9;refine RG (MV G G (DT hk11 (q0R (c:=c7) (d:=13) G G) G ?_));by_cases hk13:n12<(p0.length:Int)
     ·
      rw[if_pos hk13] at e9;obtain⟨n14,hxn14,e9⟩:=bnd e9;obtain⟨c15,hxc15,e9⟩:=bnd e9;obtain⟨bk29,o29,ha29,hc29⟩:=hp0.atC hxc15;refine MV G G (SG (q01 G) G G G (SG (q0l G G hxn12) G G G (SG (q01 G) G G G (SG (q0i Tu23 hp0 G) G G G (DU hk13 (q0v G G) G G G (PT G G G (MV G G (SG (q01 G) G G G (SG (q01 G) G G G (SG (q0l G G hxn14) G G G (SG (q0p ha29 Tu23 Ts5 G G) G G G (SG (q0g H G hc29 Ta5) G G G (SG (q0R (c:=c15) (d:=10) G G) G G G (PT G G G (NL ?_)))))))))))))));exact MN ⟨_,_,G,H,hp0,e9⟩
     rw[if_neg hk13] at e9;refine MV G G (SG (q01 G) G G G (SG (q0l G G hxn12) G G G (SG (q01 G) G G G (SG (q0i Tu23 hp0 G) G G G (DG hk13 (q0v G G) G G G (PT G G G (MV G G (q05 6 G G (PF G G G (NL ?_))))))))));exact MN ⟨_,_,G,H,hp0,e9⟩
    rw[if_neg hk11] at e9;refine RG (MV G G (DF hk11 (q0R (c:=c7) (d:=13) G G) G (MV G G (q05 5 G G (PF G G G (MV G G (q05 6 G G (PF G G G (NL ?_)))))))));exact MN ⟨_,_,G,H,hp0,e9⟩
   rintro e w ⟨b10,M,rfl,H,hp0,q16⟩;obtain rfl:=oI q16;refine TN ?_;refine q0b G (fun hk17=>?_) (fun hk17=>?_)
   ·
    subst hk17;rw[if_pos rfl] at e2;refine SQ (RG (AS G G (NL (TN (SQ ?_)))));obtain⟨n18,hxn18,e2⟩:=bnd e2;refine RG (MV G G (ST (q0l G G hxn18) G (AS G G (NL (TN (q0x (q07 (q0k (TN ?_)))))))));obtain⟨n19,hxn19,e2⟩:=bnd e2;refine RG (MV G G (ST (q0l G G hxn19) G (AS G G (NL ?_))));exact AG m5 ⟨_,_,_,G,H,hp0,e2⟩ (l07 _)
   subst hk17;rw[if_neg l00] at e2;refine SK (TN (SQ (SQ ?_)));obtain⟨o20,e21,e2⟩:=bnd e2;refine q0e (fun e w =>∃(b22:Bool) (M:Mem),e=[(0,vp0),(3,I n3),(4,I n4),(40,Value.bool b22)]∧St w0 M0 M [] w∧Sl M encB vp0 p0∧some b22=some o20) [] ?_ ?_ (trivial)
   ·
    by_cases hk23:c7=13
    ·
     rw[if_pos hk23] at e21;refine RG (MV G G (DT hk23 (q0R (c:=c7) (d:=13) G G) G (MV G G (GT G G G (GT G G G (PT G G G (NL ?_)))))));exact MN ⟨_,_,G,H,hp0,e21⟩
    rw[if_neg hk23] at e21;refine RG (MV G G (DF hk23 (q0R (c:=c7) (d:=13) G G) G (MV G G (SG (q01 G) G G G (SG (q0R (c:=c7) (d:=10) G G) G G G (PF G G G (NL ?_)))))));exact MN ⟨_,_,G,H,hp0,e21⟩
   rintro e w ⟨b22,M,rfl,H,hp0,q24⟩;obtain rfl:=oI q24;refine TN ?_;refine q0b G (fun hk25=>?_) (fun hk25=>?_)
   ·
    subst hk25;rw[if_pos rfl] at e2;refine SQ (RG (AS G G (NL (TN (RT ?_)))));obtain rfl:=oI e2;try dsimp only at h
    obtain rfl:=oI h;exact q0h G G H.ext G
   subst hk25;rw[if_neg l00] at e2;refine SK (TN (SQ ?_));obtain⟨n26,hxn26,e2⟩:=bnd e2;refine RG (MV G G (ST (q0l G G hxn26) G (AS G G (NL (TN (SQ (RG (MV G G (ST (q0A G G) G (NL (TN ?_)))))))))));refine CB (p:=(998:Int)<n26) G (fun hk27=>?_) fun hk27=>?_
   ·
    rw[if_pos hk27] at e2;refine SQ (RG (AS G G (NL (TN (RT ?_)))));obtain rfl:=oI e2;try dsimp only at h
    obtain rfl:=oI h;exact q0h G G H.ext G
   rw[if_neg hk27] at e2;refine SK (IB (TN ?_));obtain⟨n28,hxn28,e2⟩:=bnd e2;refine RG (MV G G (ST (q0l G G hxn28) G (AS G G (NL ?_))));exact AG m5 ⟨_,_,_,G,H,hp0,e2⟩ (l07 _)
  rw[if_neg hk6] at e2;refine q0x (q07 (q07 (q0k ?_)));exact MN ⟨_,G,H,e2⟩
 rintro e w ⟨M,rfl,H,q29⟩;obtain rfl:=oI q29;try dsimp only at h
 refine TN (SQ (RG (AS G G (NL (TN (RT ?_))))));obtain rfl:=oI h;exact q0h G G H.ext G
theorem message_body_ct {p0:Ls}{vp0:Value}{r:(Int × Int)}(h:message_body p0=some r):Ct Tryz.prog 36 [vp0] (fun M=>Sl M encB vp0 p0) (fun v M=>v=Value.agg #[I r.1,I r.2]):=by
 refine Ct.of Tryz.func36 (enters Tryz.func36 Kr G) G G G ?_;intro w0 M0 H hp;have hp0:=hp;unfold message_body at h;refine SQ (RG (q0d [_,_] H Tz29 G (q00 G) G ?_));intro bk2 w H;refine NL (TN (SQ (SQ ?_)));obtain⟨n1,hx2,h⟩:=bnd h;refine RG (MV G G (q03 H (Y27 hx2) G (hp0) (q00 G) G ?_));intro v4 M w H hle hR;obtain rfl:=hR;refine NL (TN (BL (SQ (RG (ST (q0j G G) G (AS G G (NL (TN ?_))))))));refine CB (p:=n1=(11:Int)) G (fun hk3=>?_) fun hk3=>?_
 ·
  rw[if_pos hk3] at h;refine SQ ?_;obtain⟨⟨n4,n5⟩,hx6,h⟩:=bnd h;try dsimp only at h
  refine RG (q03 H (Y05 hx6) G trivial (q00 G) G ?_);intro v7 M w H hle hR;try dsimp only at hR
  obtain rfl:=hR;refine q04 [_,_] H G G G Ku Ts29 G Kf Kf (q00 G) ?_;intro w H;refine NL (TN (RT ?_));obtain rfl:=oI h;exact q0h G ⟨_,G,H.loadAgg Km Ta29 Ts29 Kf⟩ H.ext G
 rw[if_neg hk3] at h;refine SQ (RG (ST (q0j G G) G (AS G G (NL (TN ?_)))));refine CB (p:=n1=(1:Int)) G (fun hk7=>?_) fun hk7=>?_
 ·
  rw[if_pos hk7] at h;refine SQ ?_;obtain⟨⟨n8,n9⟩,hx10,h⟩:=bnd h;try dsimp only at h
  refine RG (q03 H (Y05 hx10) G trivial (q00 G) G ?_);intro v10 M w H hle hR;try dsimp only at hR
  obtain rfl:=hR;refine q04 [_,_] H G G G Ku Ts29 G Kf Kf (q00 G) ?_;intro w H;refine NL (TN (RT ?_));obtain rfl:=oI h;exact q0h G ⟨_,G,H.loadAgg Km Ta29 Ts29 Kf⟩ H.ext G
 rw[if_neg hk7] at h;refine SK (IB (TN (SQ ?_)));obtain⟨⟨n11,n12⟩,hx13,h⟩:=bnd h;try dsimp only at h
 refine RG (q03 H (Y00 hx13) G trivial (q00 G) G ?_);intro v11 M w H hle hR;try dsimp only at hR
 obtain rfl:=hR;refine q04 [_,_] H G G G Ku Ts29 G Kf Kf (q00 G) ?_;intro w H;refine NL (TN (RT ?_));obtain rfl:=oI h;exact q0h G ⟨_,G,H.loadAgg Km Ta29 Ts29 Kf⟩ H.ext G
theorem message_Validate_ct {p0:(List (Ls × Ls) × Ls)}{vp0_0:Value}{vp0_1:Value}{r:(Int × Int)}(h:message_Validate p0=some r):Ct Tryz.prog 12 [Value.agg #[vp0_0,vp0_1]] (fun M=>SlS M 2 xenc37 vp0_0 p0.1∧Sl M encB vp0_1 p0.2) (fun v M=>v=Value.agg #[I r.1,I r.2]):=by
 refine Ct.of Tryz.func12 (enters Tryz.func12 Kr G) G G G ?_;intro w0 M0 H hp;obtain⟨hp0_0,hp0_1⟩:=hp;unfold message_Validate at h;refine SQ (RG (q0M [_,_] H G G (q00 G) G ?_));intro bk1 w H;refine q0d [_,_] H Tz29 G (q00 G) G ?_;intro bk2 w H;refine NL (TN (SQ (SQ ?_)));obtain⟨⟨n1,n2⟩,hx3,h⟩:=bnd h;try dsimp only at h
 refine RG (ST (q02 Tu25 G Ts22 Dc G) G (ST (XL H Ta22) G ?_));refine q03 H (Y1k hx3) G (hp0_0) (q00 G) G ?_;intro v6 M w H hle hR;replace hp0_0:=hp0_0.mono hle;replace hp0_1:=hp0_1.mono hle;try dsimp only at hR
 obtain rfl:=hR;refine q0d [_,_] H Tz29 G (q00 G) G ?_;intro bk3 w H;refine q04 [_,_] H G G G Ku Ts29 G Kf Kf (q00 G) ?_;intro w H;refine NL (TN (SQ ?_));obtain⟨b4,hx5,h⟩:=bnd h;refine RG (ST (q0f H G Km Ta29 Ts29 Kf) G ?_);refine q03 H (Y01 hx5) G trivial (q00 G) G ?_;intro v8 M w H hle hR;replace hp0_0:=hp0_0.mono hle;replace hp0_1:=hp0_1.mono hle;obtain rfl:=hR;refine NL (TN ?_);refine q0b G (fun hk6=>?_) (fun hk6=>?_)
 ·
  subst hk6;rw[if_pos rfl] at h;refine SQ (RG (ST (q0f H G Km Ta29 Ts29 Kf) G ?_));refine q04 [_,_] H G G G Ku Ts29 G Kf Kf (q00 G) ?_;intro w H;refine NL (TN (RT ?_));obtain rfl:=oI h;exact q0h G ⟨_,G,H.loadAgg Km Ta29 Ts29 Kf⟩ H.ext G
 subst hk6;rw[if_neg l00] at h;refine SK (TN (SQ (SQ ?_)));obtain⟨l7,hx8,h⟩:=bnd h;refine RG (ST (q0f H G Km Ta25 Ts25 Kf) G ?_);refine q03 H (message_write_ct hx8) G ⟨hp0_0,hp0_1⟩ (q00 G) G ?_;intro v11 M w H hle hR;replace hp0_1:=hp0_1.mono hle;have f11_0:=hR;refine ST (q0i Tu23 f11_0 G) G (ST (q0A G G) G (NL (TN ?_)));refine CB (p:=(12000:Int)<(l7.length:Int)) G (fun hk9=>?_) fun hk9=>?_
 ·
  rw[if_pos hk9] at h;refine SQ ?_;obtain⟨⟨n10,n11⟩,hx12,h⟩:=bnd h;try dsimp only at h
  refine RG (q03 H (Y05 hx12) G trivial (q00 G) G ?_);intro v14 M w H hle hR;try dsimp only at hR
  obtain rfl:=hR;refine q04 [_,_] H G G G Ku Ts29 G Kf Kf (q00 G) ?_;intro w H;refine NL (TN (RT ?_));obtain rfl:=oI h;exact q0h G ⟨_,G,H.loadAgg Km Ta29 Ts29 Kf⟩ H.ext G
 rw[if_neg hk9] at h;refine SK (TN (SQ ?_));obtain⟨⟨n13,n14⟩,hx15,h⟩:=bnd h;try dsimp only at h
 refine RG (ST (q02 Tu25 G Ts23 Dc G) G (ST (XL H Ta23) G ?_));refine q03 H (message_body_ct hx15) G (hp0_1) (q00 G) G ?_;intro v17 M w H hle hR;try dsimp only at hR
 obtain rfl:=hR;refine q04 [_,_] H G G G Ku Ts29 G Kf Kf (q00 G) ?_;intro w H;refine NL (TN (RT ?_));obtain rfl:=oI h;exact q0h G ⟨_,G,H.loadAgg Km Ta29 Ts29 Kf⟩ H.ext G
end Go.Proofs.YtglpkikfplcckaaGreatDoor
end
