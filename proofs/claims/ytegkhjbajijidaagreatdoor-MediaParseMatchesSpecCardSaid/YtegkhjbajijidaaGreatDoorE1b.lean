/-
  Shelf, Cls, Card, Open, Opf, Opm, Seq, Qt, Its, Cx, Bld, Own, GrRef, Rcl, Low, Val, Vst, Cl, Rpl, Tbl, Tv, Once, Msd, Mse, Srt, Slt, Msx, Lp: own texts of this repository (wip/tpl, wip/plans), merged and shaken by wip/tools/pack.py.
-/
import Derived.Shelf.Strings.Builder1
import Derived.Shelf.Strings.Builder2
import Derived.Shelf.Strings.Trim
import Derived.Shelf.Small.Utf8
import Derived.Shelf.Small.Bits
import Derived.Shelf.Small.Strs
import Derived.Shelf.Small.Wraps
import Derived.Shelf.Strings.BuilderF
import Derived.Shelf.Strings.BuilderK
import Derived.Shelf.Utf8.RuneCount
import Derived.Shelf.Strings.Builder2Cap
import Derived.Shelf.Strconv.Atoi
import Derived.Shelf.Strconv.Itoa0
import Derived.Shelf.Strconv.Itoa1
import Derived.Shelf.LaysM
import Derived.Shelf.Strconv.Itoa2
import Derived.Shelf.Strconv.Itoa3
import Derived.Shelf.Strconv.AtoiErrFast
import Derived.Shelf.Strconv.ParseIntEmpty
import Derived.Shelf.Strconv.AtoiFail
import Derived.Shelf.Strconv.Clone
import Derived.Shelf.Strconv.SyntaxError
import Derived.Shelf.LaysC
import Derived.Shelf.Strconv.ToError
import Derived.Shelf.Strconv.AtoiErr
import Derived.Shelf.Strconv.ErrVar
import Derived.Shelf.Strconv.Lower
import Derived.Shelf.Strconv.ParseUint10
import Derived.Shelf.Strconv.ParseUint10Empty
import Derived.Shelf.Strconv.ParseUint10Any
import Derived.Shelf.Strconv.ParseInt10
import Derived.Shelf.Strconv.AtoiLong
import Derived.Shelf.Strconv.AtoiInnerAll
import Derived.Shelf.Strconv.RangeError
import Derived.Shelf.Strconv.ToErrorRange
import Derived.Shelf.Strconv.AtoiAll
import Derived.Shelf.Strconv.ErrVarAll
import Derived.Shelf.Strconv.ParseUintEmpty
import Derived.Shelf.Strconv.ParseUint10b64
import Derived.Shelf.Strconv.ParseUint10b32
import Derived.Shelf.Strconv.ParseUint10b16
import Derived.Shelf.Strconv.ParseUint10b8
import Derived.Shelf.Strconv.ParseUint10At
import Derived.Shelf.Strconv.ParseInt10At64
import Derived.Shelf.Strconv.ParseInt10At32
import Derived.Shelf.Strconv.ParseInt10At16
import Derived.Shelf.Strconv.ParseInt10At8
import Derived.Shelf.Strconv.ParseInt10All
import Derived.Shelf.Strings.Search1
import Derived.Shelf.Strings.Search2
import Derived.Shelf.Strings.Search3
import Derived.Shelf.Strings.Cut
import Derived.Shelf.Strings.Count
import Derived.Shelf.Strings.Shaped
import Derived.Shelf.Strings.Prefix
import Derived.Shelf.Strings.Split
import Derived.Shelf.Unicode.Decode
import Derived.Shelf.Strings.Runes
import Derived.Shelf.Strings.RuneCount
import Derived.Shelf.Strings.AsciiSet
import Derived.Shelf.Unicode.DecodeSlow
import Derived.Shelf.Unicode.DecodeAny
import Derived.Shelf.Strings.MapAny
import Derived.Shelf.Strings.BuilderCap
import Derived.Test.YtegkhjbajijidaaGreatDoorProg
import Derived.Test.YtegkhjbajijidaaGreatDoorRows
import Derived.KernelRfl
import Derived.Deep.DeepHandedRow
import Derived.Lib.LaidU8
import Derived.Deep.Slices
import Derived.ChangeMaps5
import Derived.ChangeSame
import Derived.Lib.UnsafeStr
import Derived.Lib.Builder
import Derived.Laws.Externs
import Derived.Lib.Split
import Derived.Lib.SplitLaws
import Derived.Lib.Replace
import Derived.Lib.IndexMore
import Derived.Lib.DecodeN
import Derived.Lib.LazyBuf
import Derived.Laws.CopyRow
import Derived.Laws.IdiomCopy
import Derived.Tactics
import Derived.Tactics2
import Derived.Defers
import Derived.Laws.Pointers
import Derived.Laws.LoneSync
import Derived.RegionTactic
import Derived.RegionCalls
import Derived.ChangeAlike
import Derived.Sort.AssemblyPlain
import Derived.Lib.BitFns
import Derived.Sort.Grow
import Derived.Shelf.SlSortCmp.WholeK
import Derived.Shelf.SlGeneric
import Derived.Test.YtegkhjbajijidaaGreatDoorE1a
set_option maxRecDepth 100000
set_option linter.unusedVariables false
set_option linter.unusedSimpArgs false
section
namespace Go.Proofs
open Go.Shelf
def Tryz.lays165_ren : Go.Shelf.Ren := ⟨fun | 165 => 121 | 240 => 157 | 241 => 158 | 276 => 181 | 277 => 182 | n => n, fun | 70 => 173 | 3 => 3 | 0 => 0 | 4 => 4 | 9 => 9 | 20 => 20 | 72 => 175 | 37 => 93 | 164 => 219 | 5 => 5 | n => n, fun | n => n⟩
theorem Tryz.lays165 : Go.Proofs.Lays.n165 Tryz.prog Tryz.lays165_ren := {
  mixed := by kernel_rfl
  f165 := Tryz.func121.trans (congrArg some (by kernel_rfl))
  f240 := Tryz.func157.trans (congrArg some (by kernel_rfl))
  f241 := Tryz.func158.trans (congrArg some (by kernel_rfl))
  f276 := Tryz.func181.trans (congrArg some (by kernel_rfl))
  f277 := Tryz.func182.trans (congrArg some (by kernel_rfl))
  t0 := Tryz.underlying0
  a0 := Tryz.isAgg0
  z0 := Tryz.sizeOf0
  v0 := Tryz.zeroValue0
  t3 := Tryz.underlying3
  a3 := Tryz.isAgg3
  z3 := Tryz.sizeOf3
  v3 := Tryz.zeroValue3
  t4 := Tryz.underlying4
  a4 := Tryz.isAgg4
  z4 := Tryz.sizeOf4
  v4 := Tryz.zeroValue4
  t9 := Tryz.underlying9
  a9 := Tryz.isAgg9
  z9 := Tryz.sizeOf9
  v9 := Tryz.zeroValue9
  t20 := Tryz.underlying20
  a20 := Tryz.isAgg20
  z20 := Tryz.sizeOf20
  v20 := Tryz.zeroValue20
  t37 := Tryz.underlying93
  a37 := Tryz.isAgg93
  z37 := Tryz.sizeOf93
  v37 := Tryz.zeroValue93
  t70 := Tryz.underlying173
  a70 := Tryz.isAgg173
  z70 := Tryz.sizeOf173
  v70 := Tryz.zeroValue173
  t72 := Tryz.underlying175
  a72 := Tryz.isAgg175
  z72 := Tryz.sizeOf175
  v72 := Tryz.zeroValue175
  t164 := Tryz.underlying219
  a164 := Tryz.isAgg219
  z164 := Tryz.sizeOf219
  v164 := Tryz.zeroValue219 }
theorem Tryz.Builder_Extra_165 : Builder.Extra Tryz.prog Tryz.lays165_ren := {
  sizeBuilder := by kernel_rfl
  liesBuilder := by kernel_rfl
  t5 := Tryz.underlying5
  a5 := Tryz.isAgg5
  z5 := Tryz.sizeOf5
  v5 := Tryz.zeroValue5
  infoByte := by kernel_rfl
  cellsByte := by kernel_rfl
  sizeByte := by kernel_rfl
  neB5 := by decide }
def Tryz.lays231_ren : Go.Shelf.Ren := ⟨fun | 231 => 91 | n => n, fun | 9 => 9 | 5 => 5 | 3 => 3 | 4 => 4 | n => n, fun | n => n⟩
theorem Tryz.lays231 : Go.Proofs.Lays.n231 Tryz.prog Tryz.lays231_ren := {
  mixed := by kernel_rfl
  f231 := Tryz.func91.trans (congrArg some (by kernel_rfl))
  t3 := Tryz.underlying3
  a3 := Tryz.isAgg3
  z3 := Tryz.sizeOf3
  v3 := Tryz.zeroValue3
  t4 := Tryz.underlying4
  a4 := Tryz.isAgg4
  z4 := Tryz.sizeOf4
  v4 := Tryz.zeroValue4
  t5 := Tryz.underlying5
  a5 := Tryz.isAgg5
  z5 := Tryz.sizeOf5
  v5 := Tryz.zeroValue5
  t9 := Tryz.underlying9
  a9 := Tryz.isAgg9
  z9 := Tryz.sizeOf9
  v9 := Tryz.zeroValue9 }
open Go.RowKit in
theorem Tryz.strings_trimLeftByte (s : ByteArray) (c : UInt8) (w : World) :
    Calls Tryz.prog 91 #[.string s, .int .u8 c.toNat] w fun e w' => e = .returned (.string ⟨(Lib.trimLeftB s.data.toList c).toArray⟩) ∧ w' = w := Any.strings_trimLeftByte Tryz.lays231 s c w
def Tryz.lays137_ren : Go.Shelf.Ren := ⟨fun | 137 => 67 | 217 => 82 | 266 => 100 | n => n, fun | 9 => 9 | 5 => 5 | 3 => 3 | n => n, fun | n => n⟩
theorem Tryz.lays137 : Go.Proofs.Lays.n137 Tryz.prog Tryz.lays137_ren := {
  mixed := by kernel_rfl
  f137 := Tryz.func67.trans (congrArg some (by kernel_rfl))
  f217 := Tryz.func82.trans (congrArg some (by kernel_rfl))
  f266 := Tryz.func100.trans (congrArg some (by kernel_rfl))
  t3 := Tryz.underlying3
  a3 := Tryz.isAgg3
  z3 := Tryz.sizeOf3
  v3 := Tryz.zeroValue3
  t5 := Tryz.underlying5
  a5 := Tryz.isAgg5
  z5 := Tryz.sizeOf5
  v5 := Tryz.zeroValue5
  t9 := Tryz.underlying9
  a9 := Tryz.isAgg9
  z9 := Tryz.sizeOf9
  v9 := Tryz.zeroValue9 }
open Go.RowKit in
theorem Tryz.strings_IndexByte (s : ByteArray) (c : Int) (w : World) :
    Calls Tryz.prog 67 #[.string s, .int .u8 c] w fun e w' => e = .returned (.int .i64 (Lib.indexByte s.data.toList c.toNat.toUInt8)) ∧ w' = w := Any.strings_IndexByte Tryz.lays137 s c w
def Tryz.lays211_ren : Go.Shelf.Ren := ⟨fun | 211 => 89 | 207 => 112 | n => n, fun | 9 => 9 | 4 => 4 | 3 => 3 | n => n, fun | n => n⟩
theorem Tryz.lays211 : Go.Proofs.Lays.n211 Tryz.prog Tryz.lays211_ren := {
  mixed := by kernel_rfl
  f207 := Tryz.func112.trans (congrArg some (by kernel_rfl))
  f211 := Tryz.func89.trans (congrArg some (by kernel_rfl))
  t3 := Tryz.underlying3
  a3 := Tryz.isAgg3
  z3 := Tryz.sizeOf3
  v3 := Tryz.zeroValue3
  t4 := Tryz.underlying4
  a4 := Tryz.isAgg4
  z4 := Tryz.sizeOf4
  v4 := Tryz.zeroValue4
  t9 := Tryz.underlying9
  a9 := Tryz.isAgg9
  z9 := Tryz.sizeOf9
  v9 := Tryz.zeroValue9 }
open Go.RowKit in
theorem Tryz.stringslite_CutSuffix (s p : ByteArray) (w : World) (hs : s.size ≤ 9223372036854775807) :
    Calls Tryz.prog 89 #[.string s, .string p] w fun e w' => e = .returned (.tuple #[.string ⟨(Lib.trimSuffix s.data.toList p.data.toList).toArray⟩, .bool (Lib.hasSuffix s.data.toList p.data.toList)]) ∧ w' = w := Any.stringslite_CutSuffix Tryz.lays211 s p w hs
def Tryz.lays104_ren : Go.Shelf.Ren := ⟨fun | 104 => 76 | 211 => 89 | 207 => 112 | n => n, fun | 9 => 9 | 4 => 4 | 24 => 42 | 3 => 3 | n => n, fun | n => n⟩
theorem Tryz.lays104 : Go.Proofs.Lays.n104 Tryz.prog Tryz.lays104_ren := {
  mixed := by kernel_rfl
  f104 := Tryz.func76.trans (congrArg some (by kernel_rfl))
  f207 := Tryz.func112.trans (congrArg some (by kernel_rfl))
  f211 := Tryz.func89.trans (congrArg some (by kernel_rfl))
  t3 := Tryz.underlying3
  a3 := Tryz.isAgg3
  z3 := Tryz.sizeOf3
  v3 := Tryz.zeroValue3
  t4 := Tryz.underlying4
  a4 := Tryz.isAgg4
  z4 := Tryz.sizeOf4
  v4 := Tryz.zeroValue4
  t9 := Tryz.underlying9
  a9 := Tryz.isAgg9
  z9 := Tryz.sizeOf9
  v9 := Tryz.zeroValue9
  t24 := Tryz.underlying42
  a24 := Tryz.isAgg42
  z24 := Tryz.sizeOf42
  v24 := Tryz.zeroValue42 }
open Go.RowKit in
theorem Tryz.strings_CutSuffix (s p : ByteArray) (w : World) (hs : s.size ≤ 9223372036854775807) :
    Calls Tryz.prog 76 #[.string s, .string p] w fun e w' => e = .returned (.tuple #[.string ⟨(Lib.trimSuffix s.data.toList p.data.toList).toArray⟩, .bool (Lib.hasSuffix s.data.toList p.data.toList)]) ∧ w' = w := Any.strings_CutSuffix Tryz.lays104 s p w hs
open Go.RowKit in
theorem Tryz.Builder_Grow_fresh_cap (B b n : Nat) (w : World) (hB : B ≤ b) (hbk : w.heap[b]? = some (.cells #[.pointer none, .slice none 0 0] 175 (0, 0))) (hBw : B ≤ w.heap.size) (hn : n ≤ 281474976710656) :
    Calls Tryz.prog 121 #[.pointer (some ⟨b, 0, none⟩), .int .i64 n] w fun e w' => e = .returned (.tuple #[]) ∧ (Lib.BuilderAt 175 5 B b (.pointer (some ⟨b, 0, none⟩)) [] w' ∧ Below B w w') ∧ ∃ p cap, w'.cell? ⟨b, 1, none⟩ = some (.slice p 0 cap) ∧ n ≤ cap := Any.Builder_Grow_fresh_cap Tryz.lays165 Tryz.Builder_Extra_165 B b n w hB hbk hBw hn
def Tryz.lays172_ren : Go.Shelf.Ren := ⟨fun | 172 => 90 | 244 => 113 | 245 => 114 | 247 => 140 | 279 => 141 | 280 => 142 | 281 => 143 | 282 => 144 | 287 => 172 | 316 => 173 | 171 => 52 | 205 => 174 | 321 => 191 | 322 => 192 | 243 => 71 | 246 => 86 | 283 => 107 | 284 => 108 | 285 => 109 | 286 => 110 | 129 => 133 | 317 => 132 | 318 => 134 | 319 => 135 | 320 => 136 | 337 => 169 | 338 => 170 | n => n, fun | 9 => 9 | 3 => 3 | 75 => 131 | 76 => 132 | 4 => 4 | 5 => 5 | 167 => 198 | 37 => 93 | 0 => 0 | 85 => 199 | 2 => 2 | 168 => 201 | 53 => 96 | 175 => 228 | 46 => 70 | 210 => 231 | 127 => 214 | 145 => 249 | 143 => 247 | 21 => 21 | 171 => 159 | 173 => 162 | 212 => 195 | 51 => 100 | 20 => 20 | 213 => 196 | 232 => 245 | 233 => 246 | 80 => 144 | n => n, fun | 15 => 4 | 16 => 5 | 17 => 3 | 18 => 6 | 19 => 7 | n => n⟩
theorem Tryz.lays172 : Go.Proofs.Lays.n172 Tryz.prog Tryz.lays172_ren := {
  mixed := by kernel_rfl
  f129 := Tryz.func133.trans (congrArg some (by kernel_rfl))
  f171 := Tryz.func52.trans (congrArg some (by kernel_rfl))
  f172 := Tryz.func90.trans (congrArg some (by kernel_rfl))
  f205 := Tryz.func174.trans (congrArg some (by kernel_rfl))
  f243 := Tryz.func71.trans (congrArg some (by kernel_rfl))
  f244 := Tryz.func113.trans (congrArg some (by kernel_rfl))
  f245 := Tryz.func114.trans (congrArg some (by kernel_rfl))
  f246 := Tryz.func86.trans (congrArg some (by kernel_rfl))
  f247 := Tryz.func140.trans (congrArg some (by kernel_rfl))
  f279 := Tryz.func141.trans (congrArg some (by kernel_rfl))
  f280 := Tryz.func142.trans (congrArg some (by kernel_rfl))
  f281 := Tryz.func143.trans (congrArg some (by kernel_rfl))
  f282 := Tryz.func144.trans (congrArg some (by kernel_rfl))
  f283 := Tryz.func107.trans (congrArg some (by kernel_rfl))
  f284 := Tryz.func108.trans (congrArg some (by kernel_rfl))
  f285 := Tryz.func109.trans (congrArg some (by kernel_rfl))
  f286 := Tryz.func110.trans (congrArg some (by kernel_rfl))
  f287 := Tryz.func172.trans (congrArg some (by kernel_rfl))
  f316 := Tryz.func173.trans (congrArg some (by kernel_rfl))
  f317 := Tryz.func132.trans (congrArg some (by kernel_rfl))
  f318 := Tryz.func134.trans (congrArg some (by kernel_rfl))
  f319 := Tryz.func135.trans (congrArg some (by kernel_rfl))
  f320 := Tryz.func136.trans (congrArg some (by kernel_rfl))
  f321 := Tryz.func191.trans (congrArg some (by kernel_rfl))
  f322 := Tryz.func192.trans (congrArg some (by kernel_rfl))
  f337 := Tryz.func169.trans (congrArg some (by kernel_rfl))
  f338 := Tryz.func170.trans (congrArg some (by kernel_rfl))
  t0 := Tryz.underlying0
  a0 := Tryz.isAgg0
  z0 := Tryz.sizeOf0
  v0 := Tryz.zeroValue0
  t2 := Tryz.underlying2
  a2 := Tryz.isAgg2
  z2 := Tryz.sizeOf2
  v2 := Tryz.zeroValue2
  t3 := Tryz.underlying3
  a3 := Tryz.isAgg3
  z3 := Tryz.sizeOf3
  v3 := Tryz.zeroValue3
  t4 := Tryz.underlying4
  a4 := Tryz.isAgg4
  z4 := Tryz.sizeOf4
  v4 := Tryz.zeroValue4
  t5 := Tryz.underlying5
  a5 := Tryz.isAgg5
  z5 := Tryz.sizeOf5
  v5 := Tryz.zeroValue5
  t9 := Tryz.underlying9
  a9 := Tryz.isAgg9
  z9 := Tryz.sizeOf9
  v9 := Tryz.zeroValue9
  t20 := Tryz.underlying20
  a20 := Tryz.isAgg20
  z20 := Tryz.sizeOf20
  v20 := Tryz.zeroValue20
  t21 := Tryz.underlying21
  a21 := Tryz.isAgg21
  z21 := Tryz.sizeOf21
  v21 := Tryz.zeroValue21
  t37 := Tryz.underlying93
  a37 := Tryz.isAgg93
  z37 := Tryz.sizeOf93
  v37 := Tryz.zeroValue93
  t46 := Tryz.underlying70
  a46 := Tryz.isAgg70
  z46 := Tryz.sizeOf70
  v46 := Tryz.zeroValue70
  t51 := Tryz.underlying100
  a51 := Tryz.isAgg100
  z51 := Tryz.sizeOf100
  v51 := Tryz.zeroValue100
  t53 := Tryz.underlying96
  a53 := Tryz.isAgg96
  z53 := Tryz.sizeOf96
  v53 := Tryz.zeroValue96
  t75 := Tryz.underlying131
  a75 := Tryz.isAgg131
  z75 := Tryz.sizeOf131
  v75 := Tryz.zeroValue131
  t76 := Tryz.underlying132
  a76 := Tryz.isAgg132
  z76 := Tryz.sizeOf132
  v76 := Tryz.zeroValue132
  t85 := Tryz.underlying199
  a85 := Tryz.isAgg199
  z85 := Tryz.sizeOf199
  v85 := Tryz.zeroValue199
  t127 := Tryz.underlying214
  a127 := Tryz.isAgg214
  z127 := Tryz.sizeOf214
  v127 := Tryz.zeroValue214
  t143 := Tryz.underlying247
  a143 := Tryz.isAgg247
  z143 := Tryz.sizeOf247
  v143 := Tryz.zeroValue247
  t145 := Tryz.underlying249
  a145 := Tryz.isAgg249
  z145 := Tryz.sizeOf249
  v145 := Tryz.zeroValue249
  t167 := Tryz.underlying198
  a167 := Tryz.isAgg198
  z167 := Tryz.sizeOf198
  v167 := Tryz.zeroValue198
  t168 := Tryz.underlying201
  a168 := Tryz.isAgg201
  z168 := Tryz.sizeOf201
  v168 := Tryz.zeroValue201
  t171 := Tryz.underlying159
  a171 := Tryz.isAgg159
  z171 := Tryz.sizeOf159
  v171 := Tryz.zeroValue159
  t173 := Tryz.underlying162
  a173 := Tryz.isAgg162
  z173 := Tryz.sizeOf162
  v173 := Tryz.zeroValue162
  t175 := Tryz.underlying228
  a175 := Tryz.isAgg228
  z175 := Tryz.sizeOf228
  v175 := Tryz.zeroValue228
  t210 := Tryz.underlying231
  a210 := Tryz.isAgg231
  z210 := Tryz.sizeOf231
  v210 := Tryz.zeroValue231
  t212 := Tryz.underlying195
  a212 := Tryz.isAgg195
  z212 := Tryz.sizeOf195
  v212 := Tryz.zeroValue195
  t213 := Tryz.underlying196
  a213 := Tryz.isAgg196
  z213 := Tryz.sizeOf196
  t232 := Tryz.underlying245
  a232 := Tryz.isAgg245
  z232 := Tryz.sizeOf245
  v232 := Tryz.zeroValue245
  t233 := Tryz.underlying246
  a233 := Tryz.isAgg246
  z233 := Tryz.sizeOf246
  v233 := Tryz.zeroValue246
  g15 := by kernel_rfl
  g16 := by kernel_rfl
  g17 := by kernel_rfl
  g18 := by kernel_rfl
  g19 := by kernel_rfl }
open Go.RowKit in
theorem Tryz.strconv_Atoi (s : ByteArray) (n : Int) (hl : s.size ≤ 18) (h : Lib.atoi s.data.toList = some n) (w : World) :
    Calls Tryz.prog 90 #[.string s] w fun e w' => e = .returned (.tuple #[.int .i64 n, .nilIface]) ∧ ∃ t, w' = Lib.bytesWorld w 5 t := Any.strconv_Atoi Tryz.lays172 s n hl h w
def Tryz.laysM171_ren : Go.Shelf.Ren := ⟨fun | 171 => 52 | 243 => 71 | 246 => 86 | 283 => 107 | 284 => 108 | 285 => 109 | 286 => 110 | 129 => 133 | 317 => 132 | 318 => 134 | 319 => 135 | 320 => 136 | 337 => 169 | 338 => 170 | n => n, fun | 3 => 3 | 9 => 9 | 2 => 2 | 4 => 4 | 171 => 159 | 0 => 0 | 53 => 96 | 37 => 93 | 5 => 5 | 173 => 162 | 212 => 195 | 51 => 100 | 20 => 20 | 213 => 196 | 46 => 70 | 232 => 245 | 233 => 246 | n => n, fun | 17 => 3 | 18 => 6 | 19 => 7 | n => n⟩
theorem Tryz.laysM171 : Go.Proofs.LaysM.n171 Tryz.prog Tryz.laysM171_ren := {
  mixed := by kernel_rfl
  f129 := Tryz.func133.trans (congrArg some (by kernel_rfl))
  f171 := Tryz.func52.trans (congrArg some (by kernel_rfl))
  f243 := Tryz.func71.trans (congrArg some (by kernel_rfl))
  f246 := Tryz.func86.trans (congrArg some (by kernel_rfl))
  f283 := Tryz.func107.trans (congrArg some (by kernel_rfl))
  f284 := Tryz.func108.trans (congrArg some (by kernel_rfl))
  f285 := Tryz.func109.trans (congrArg some (by kernel_rfl))
  f286 := Tryz.func110.trans (congrArg some (by kernel_rfl))
  f317 := Tryz.func132.trans (congrArg some (by kernel_rfl))
  f318 := Tryz.func134.trans (congrArg some (by kernel_rfl))
  f319 := Tryz.func135.trans (congrArg some (by kernel_rfl))
  f320 := Tryz.func136.trans (congrArg some (by kernel_rfl))
  f337 := Tryz.func169.trans (congrArg some (by kernel_rfl))
  f338 := Tryz.func170.trans (congrArg some (by kernel_rfl))
  t0 := Tryz.underlying0
  a0 := Tryz.isAgg0
  z0 := Tryz.sizeOf0
  v0 := Tryz.zeroValue0
  t2 := Tryz.underlying2
  a2 := Tryz.isAgg2
  z2 := Tryz.sizeOf2
  v2 := Tryz.zeroValue2
  t3 := Tryz.underlying3
  a3 := Tryz.isAgg3
  z3 := Tryz.sizeOf3
  v3 := Tryz.zeroValue3
  t4 := Tryz.underlying4
  a4 := Tryz.isAgg4
  z4 := Tryz.sizeOf4
  v4 := Tryz.zeroValue4
  t5 := Tryz.underlying5
  a5 := Tryz.isAgg5
  z5 := Tryz.sizeOf5
  v5 := Tryz.zeroValue5
  t9 := Tryz.underlying9
  a9 := Tryz.isAgg9
  z9 := Tryz.sizeOf9
  v9 := Tryz.zeroValue9
  t20 := Tryz.underlying20
  a20 := Tryz.isAgg20
  z20 := Tryz.sizeOf20
  v20 := Tryz.zeroValue20
  t37 := Tryz.underlying93
  a37 := Tryz.isAgg93
  z37 := Tryz.sizeOf93
  v37 := Tryz.zeroValue93
  t46 := Tryz.underlying70
  a46 := Tryz.isAgg70
  z46 := Tryz.sizeOf70
  v46 := Tryz.zeroValue70
  t51 := Tryz.underlying100
  a51 := Tryz.isAgg100
  z51 := Tryz.sizeOf100
  v51 := Tryz.zeroValue100
  t53 := Tryz.underlying96
  a53 := Tryz.isAgg96
  z53 := Tryz.sizeOf96
  v53 := Tryz.zeroValue96
  t171 := Tryz.underlying159
  a171 := Tryz.isAgg159
  z171 := Tryz.sizeOf159
  v171 := Tryz.zeroValue159
  t173 := Tryz.underlying162
  a173 := Tryz.isAgg162
  z173 := Tryz.sizeOf162
  v173 := Tryz.zeroValue162
  t212 := Tryz.underlying195
  a212 := Tryz.isAgg195
  z212 := Tryz.sizeOf195
  v212 := Tryz.zeroValue195
  t213 := Tryz.underlying196
  a213 := Tryz.isAgg196
  z213 := Tryz.sizeOf196
  t232 := Tryz.underlying245
  a232 := Tryz.isAgg245
  z232 := Tryz.sizeOf245
  v232 := Tryz.zeroValue245
  t233 := Tryz.underlying246
  a233 := Tryz.isAgg246
  z233 := Tryz.sizeOf246
  v233 := Tryz.zeroValue246
  g17 := by kernel_rfl
  g18 := by kernel_rfl
  g19 := by kernel_rfl
  i0 := by kernel_rfl
  i2 := by kernel_rfl
  i3 := by kernel_rfl
  i4 := by kernel_rfl
  i5 := by kernel_rfl
  i9 := by kernel_rfl
  i20 := by kernel_rfl
  i37 := by kernel_rfl
  i46 := by kernel_rfl
  i51 := by kernel_rfl
  i53 := by kernel_rfl
  i171 := by kernel_rfl
  i173 := by kernel_rfl
  i212 := by kernel_rfl
  i232 := by kernel_rfl
  i233 := by kernel_rfl
  m17 := by kernel_rfl
  m18 := by kernel_rfl
  m19 := by kernel_rfl }
open Go.RowKit Go.Sort Go.Lib in
theorem Tryz.strconv_Itoa (n : Int) (h0 : -9223372036854775808 ≤ n) (h1 : n ≤ 9223372036854775807) (w : World) (htab : Lib.TabIs Tryz.prog w "internal/strconv.uint64pow10" .u64 Lib.pow10Tab) :
    Calls Tryz.prog 52 #[.int .i64 n] w fun e w' => e = .returned (.string ⟨(Lib.itoa n).toArray⟩) ∧ ∃ k os, w' = grow (w.drewN k) os := Any.strconv_Itoa Tryz.laysM171 n h0 h1 w htab
def Tryz.laysC172_ren : Go.Shelf.Ren := ⟨fun | 172 => 90 | 244 => 113 | 245 => 114 | 247 => 140 | 279 => 141 | 280 => 142 | 281 => 143 | 282 => 144 | 287 => 172 | 316 => 173 | 171 => 52 | 205 => 174 | 321 => 191 | 322 => 192 | 243 => 71 | 246 => 86 | 283 => 107 | 284 => 108 | 285 => 109 | 286 => 110 | 129 => 133 | 317 => 132 | 318 => 134 | 319 => 135 | 320 => 136 | 337 => 169 | 338 => 170 | n => n, fun | 9 => 9 | 3 => 3 | 75 => 131 | 76 => 132 | 4 => 4 | 5 => 5 | 167 => 198 | 37 => 93 | 0 => 0 | 85 => 199 | 2 => 2 | 168 => 201 | 53 => 96 | 175 => 228 | 46 => 70 | 210 => 231 | 127 => 214 | 145 => 249 | 143 => 247 | 21 => 21 | 171 => 159 | 173 => 162 | 212 => 195 | 51 => 100 | 20 => 20 | 213 => 196 | 232 => 245 | 233 => 246 | 80 => 144 | n => n, fun | 15 => 4 | 16 => 5 | 17 => 3 | 18 => 6 | 19 => 7 | n => n⟩
theorem Tryz.laysC172 : Go.Proofs.LaysC.n172 Tryz.prog Tryz.laysC172_ren := {
  mixed := by kernel_rfl
  f129 := Tryz.func133.trans (congrArg some (by kernel_rfl))
  f171 := Tryz.func52.trans (congrArg some (by kernel_rfl))
  f172 := Tryz.func90.trans (congrArg some (by kernel_rfl))
  f205 := Tryz.func174.trans (congrArg some (by kernel_rfl))
  f243 := Tryz.func71.trans (congrArg some (by kernel_rfl))
  f244 := Tryz.func113.trans (congrArg some (by kernel_rfl))
  f245 := Tryz.func114.trans (congrArg some (by kernel_rfl))
  f246 := Tryz.func86.trans (congrArg some (by kernel_rfl))
  f247 := Tryz.func140.trans (congrArg some (by kernel_rfl))
  f279 := Tryz.func141.trans (congrArg some (by kernel_rfl))
  f280 := Tryz.func142.trans (congrArg some (by kernel_rfl))
  f281 := Tryz.func143.trans (congrArg some (by kernel_rfl))
  f282 := Tryz.func144.trans (congrArg some (by kernel_rfl))
  f283 := Tryz.func107.trans (congrArg some (by kernel_rfl))
  f284 := Tryz.func108.trans (congrArg some (by kernel_rfl))
  f285 := Tryz.func109.trans (congrArg some (by kernel_rfl))
  f286 := Tryz.func110.trans (congrArg some (by kernel_rfl))
  f287 := Tryz.func172.trans (congrArg some (by kernel_rfl))
  f316 := Tryz.func173.trans (congrArg some (by kernel_rfl))
  f317 := Tryz.func132.trans (congrArg some (by kernel_rfl))
  f318 := Tryz.func134.trans (congrArg some (by kernel_rfl))
  f319 := Tryz.func135.trans (congrArg some (by kernel_rfl))
  f320 := Tryz.func136.trans (congrArg some (by kernel_rfl))
  f321 := Tryz.func191.trans (congrArg some (by kernel_rfl))
  f322 := Tryz.func192.trans (congrArg some (by kernel_rfl))
  f337 := Tryz.func169.trans (congrArg some (by kernel_rfl))
  f338 := Tryz.func170.trans (congrArg some (by kernel_rfl))
  t0 := Tryz.underlying0
  a0 := Tryz.isAgg0
  z0 := Tryz.sizeOf0
  v0 := Tryz.zeroValue0
  t2 := Tryz.underlying2
  a2 := Tryz.isAgg2
  z2 := Tryz.sizeOf2
  v2 := Tryz.zeroValue2
  t3 := Tryz.underlying3
  a3 := Tryz.isAgg3
  z3 := Tryz.sizeOf3
  v3 := Tryz.zeroValue3
  t4 := Tryz.underlying4
  a4 := Tryz.isAgg4
  z4 := Tryz.sizeOf4
  v4 := Tryz.zeroValue4
  t5 := Tryz.underlying5
  a5 := Tryz.isAgg5
  z5 := Tryz.sizeOf5
  v5 := Tryz.zeroValue5
  t9 := Tryz.underlying9
  a9 := Tryz.isAgg9
  z9 := Tryz.sizeOf9
  v9 := Tryz.zeroValue9
  t20 := Tryz.underlying20
  a20 := Tryz.isAgg20
  z20 := Tryz.sizeOf20
  v20 := Tryz.zeroValue20
  t21 := Tryz.underlying21
  a21 := Tryz.isAgg21
  z21 := Tryz.sizeOf21
  v21 := Tryz.zeroValue21
  t37 := Tryz.underlying93
  a37 := Tryz.isAgg93
  z37 := Tryz.sizeOf93
  v37 := Tryz.zeroValue93
  t46 := Tryz.underlying70
  a46 := Tryz.isAgg70
  z46 := Tryz.sizeOf70
  v46 := Tryz.zeroValue70
  t51 := Tryz.underlying100
  a51 := Tryz.isAgg100
  z51 := Tryz.sizeOf100
  v51 := Tryz.zeroValue100
  t53 := Tryz.underlying96
  a53 := Tryz.isAgg96
  z53 := Tryz.sizeOf96
  v53 := Tryz.zeroValue96
  t75 := Tryz.underlying131
  a75 := Tryz.isAgg131
  z75 := Tryz.sizeOf131
  v75 := Tryz.zeroValue131
  t76 := Tryz.underlying132
  a76 := Tryz.isAgg132
  z76 := Tryz.sizeOf132
  v76 := Tryz.zeroValue132
  t85 := Tryz.underlying199
  a85 := Tryz.isAgg199
  z85 := Tryz.sizeOf199
  v85 := Tryz.zeroValue199
  t127 := Tryz.underlying214
  a127 := Tryz.isAgg214
  z127 := Tryz.sizeOf214
  v127 := Tryz.zeroValue214
  t143 := Tryz.underlying247
  a143 := Tryz.isAgg247
  z143 := Tryz.sizeOf247
  v143 := Tryz.zeroValue247
  t145 := Tryz.underlying249
  a145 := Tryz.isAgg249
  z145 := Tryz.sizeOf249
  v145 := Tryz.zeroValue249
  t167 := Tryz.underlying198
  a167 := Tryz.isAgg198
  z167 := Tryz.sizeOf198
  v167 := Tryz.zeroValue198
  t168 := Tryz.underlying201
  a168 := Tryz.isAgg201
  z168 := Tryz.sizeOf201
  v168 := Tryz.zeroValue201
  t171 := Tryz.underlying159
  a171 := Tryz.isAgg159
  z171 := Tryz.sizeOf159
  v171 := Tryz.zeroValue159
  t173 := Tryz.underlying162
  a173 := Tryz.isAgg162
  z173 := Tryz.sizeOf162
  v173 := Tryz.zeroValue162
  t175 := Tryz.underlying228
  a175 := Tryz.isAgg228
  z175 := Tryz.sizeOf228
  v175 := Tryz.zeroValue228
  t210 := Tryz.underlying231
  a210 := Tryz.isAgg231
  z210 := Tryz.sizeOf231
  v210 := Tryz.zeroValue231
  t212 := Tryz.underlying195
  a212 := Tryz.isAgg195
  z212 := Tryz.sizeOf195
  v212 := Tryz.zeroValue195
  t213 := Tryz.underlying196
  a213 := Tryz.isAgg196
  z213 := Tryz.sizeOf196
  t232 := Tryz.underlying245
  a232 := Tryz.isAgg245
  z232 := Tryz.sizeOf245
  v232 := Tryz.zeroValue245
  t233 := Tryz.underlying246
  a233 := Tryz.isAgg246
  z233 := Tryz.sizeOf246
  v233 := Tryz.zeroValue246
  g15 := by kernel_rfl
  g16 := by kernel_rfl
  g17 := by kernel_rfl
  g18 := by kernel_rfl
  g19 := by kernel_rfl
  t80 := Tryz.underlying144
  a80 := Tryz.isAgg144
  z80 := Tryz.sizeOf144
  v80 := Tryz.zeroValue144
  i0 := by kernel_rfl
  i2 := by kernel_rfl
  i3 := by kernel_rfl
  i4 := by kernel_rfl
  i5 := by kernel_rfl
  i9 := by kernel_rfl
  i20 := by kernel_rfl
  i21 := by kernel_rfl
  i37 := by kernel_rfl
  i46 := by kernel_rfl
  i51 := by kernel_rfl
  i53 := by kernel_rfl
  i75 := by kernel_rfl
  i76 := by kernel_rfl
  i80 := by kernel_rfl
  i85 := by kernel_rfl
  i127 := by kernel_rfl
  i143 := by kernel_rfl
  i145 := by kernel_rfl
  i167 := by kernel_rfl
  i168 := by kernel_rfl
  i171 := by kernel_rfl
  i173 := by kernel_rfl
  i175 := by kernel_rfl
  i210 := by kernel_rfl
  i212 := by kernel_rfl
  i232 := by kernel_rfl
  i233 := by kernel_rfl
  m15 := by kernel_rfl
  m16 := by kernel_rfl
  m17 := by kernel_rfl
  m18 := by kernel_rfl
  m19 := by kernel_rfl
  c0 := by kernel_rfl
  c2 := by kernel_rfl
  c3 := by kernel_rfl
  c4 := by kernel_rfl
  c5 := by kernel_rfl
  c9 := by kernel_rfl
  c20 := by kernel_rfl
  c21 := by kernel_rfl
  c37 := by kernel_rfl
  c46 := by kernel_rfl
  c51 := by kernel_rfl
  c53 := by kernel_rfl
  c75 := by kernel_rfl
  c76 := by kernel_rfl
  c80 := by kernel_rfl
  c85 := by kernel_rfl
  c127 := by kernel_rfl
  c143 := by kernel_rfl
  c145 := by kernel_rfl
  c167 := by kernel_rfl
  c168 := by kernel_rfl
  c171 := by kernel_rfl
  c173 := by kernel_rfl
  c175 := by kernel_rfl
  c210 := by kernel_rfl
  c212 := by kernel_rfl
  c213 := by kernel_rfl
  c232 := by kernel_rfl
  c233 := by kernel_rfl }
open Go.RowKit in
theorem Tryz.strconv_Atoi_ok (s : ByteArray) (hmax : s.size ≤ 9223372036854775806) (v : Int) (h : Lib.atoiAll s.data.toList = .ok v) (w : World) :
    Calls Tryz.prog 90 #[.string s] w fun e w' => e = .returned (.tuple #[.int .i64 v, .nilIface]) ∧ (w' = w ∨ ∃ t, w' = Lib.bytesWorld w 5 t) := Any.strconv_Atoi_ok Tryz.laysC172 s hmax v h w
open Go.RowKit in
theorem Tryz.strconv_Atoi_syntax_var (s : ByteArray) (hlim : s.size ≤ 281474976710656) (h : Lib.atoiAll s.data.toList = .syntax) (tp : TypeId) (p : Value) (w : World) (hvar : w.var? Tryz.prog "strconv.ErrSyntax" = some #[.iface tp p]) :
    Calls Tryz.prog 90 #[.string s] w fun e w' => ∃ N, e = .returned (.tuple #[.int .i64 0, .iface 201 (.pointer (some ⟨N, 0, none⟩))]) ∧ w.heap.size ≤ N ∧ w'.heap[N]? = some (.cells #[.string ⟨#[65, 116, 111, 105]⟩, .string s, .iface tp p] 231 (0, 0)) ∧ Below w.heap.size w w' := Any.strconv_Atoi_syntax_var Tryz.laysC172 s hlim h tp p w hvar
open Go.RowKit in
theorem Tryz.strconv_Atoi_range_var (s : ByteArray) (hlim : s.size ≤ 281474976710656) (h : Lib.atoiAll s.data.toList = .range) (tp : TypeId) (p : Value) (w : World) (hvar : w.var? Tryz.prog "strconv.ErrRange" = some #[.iface tp p]) :
    Calls Tryz.prog 90 #[.string s] w fun e w' => ∃ N, e = .returned (.tuple #[.int .i64 (Lib.atoiSat s.data.toList), .iface 201 (.pointer (some ⟨N, 0, none⟩))]) ∧ w.heap.size ≤ N ∧ w'.heap[N]? = some (.cells #[.string ⟨#[65, 116, 111, 105]⟩, .string s, .iface tp p] 231 (0, 0)) ∧ Below w.heap.size w w' := Any.strconv_Atoi_range_var Tryz.laysC172 s hlim h tp p w hvar
def Tryz.lays219_ren : Go.Shelf.Ren := ⟨fun | 219 => 111 | 217 => 82 | 225 => 137 | 224 => 138 | 267 => 139 | 266 => 100 | 314 => 171 | n => n, fun | 9 => 9 | 3 => 3 | 4 => 4 | 5 => 5 | 46 => 70 | 146 => 226 | 51 => 100 | n => n, fun | 1 => 2 | n => n⟩
theorem Tryz.lays219 : Go.Proofs.Lays.n219 Tryz.prog Tryz.lays219_ren := {
  mixed := by kernel_rfl
  f217 := Tryz.func82.trans (congrArg some (by kernel_rfl))
  f219 := Tryz.func111.trans (congrArg some (by kernel_rfl))
  f224 := Tryz.func138.trans (congrArg some (by kernel_rfl))
  f225 := Tryz.func137.trans (congrArg some (by kernel_rfl))
  f266 := Tryz.func100.trans (congrArg some (by kernel_rfl))
  f267 := Tryz.func139.trans (congrArg some (by kernel_rfl))
  f314 := Tryz.func171.trans (congrArg some (by kernel_rfl))
  t3 := Tryz.underlying3
  a3 := Tryz.isAgg3
  z3 := Tryz.sizeOf3
  v3 := Tryz.zeroValue3
  t4 := Tryz.underlying4
  a4 := Tryz.isAgg4
  z4 := Tryz.sizeOf4
  v4 := Tryz.zeroValue4
  t5 := Tryz.underlying5
  a5 := Tryz.isAgg5
  z5 := Tryz.sizeOf5
  v5 := Tryz.zeroValue5
  t9 := Tryz.underlying9
  a9 := Tryz.isAgg9
  z9 := Tryz.sizeOf9
  v9 := Tryz.zeroValue9
  t46 := Tryz.underlying70
  a46 := Tryz.isAgg70
  z46 := Tryz.sizeOf70
  v46 := Tryz.zeroValue70
  t51 := Tryz.underlying100
  a51 := Tryz.isAgg100
  z51 := Tryz.sizeOf100
  v51 := Tryz.zeroValue100
  t146 := Tryz.underlying226
  a146 := Tryz.isAgg226
  z146 := Tryz.sizeOf226
  v146 := Tryz.zeroValue226
  g1 := by kernel_rfl }
open Go.RowKit Go.Lib in
theorem Tryz.stringslite_Index (s sub : ByteArray) (m : Int) (w : World) (hs : s.size < 4294967281) (hm : w.cell? ⟨2, 0, none⟩ = some (.int .i64 m)) :
    Calls Tryz.prog 111 #[.string s, .string sub] w fun e w' => e = .returned (.int .i64 (Lib.index s.data.toList sub.data.toList)) ∧ w' = w := Any.stringslite_Index Tryz.lays219 s sub m w hs hm
def Tryz.lays220_ren : Go.Shelf.Ren := ⟨fun | 220 => 88 | 219 => 111 | 217 => 82 | 225 => 137 | 224 => 138 | 267 => 139 | 266 => 100 | 314 => 171 | n => n, fun | 9 => 9 | 4 => 4 | 3 => 3 | 5 => 5 | 46 => 70 | 146 => 226 | 51 => 100 | n => n, fun | 1 => 2 | n => n⟩
theorem Tryz.lays220 : Go.Proofs.Lays.n220 Tryz.prog Tryz.lays220_ren := {
  mixed := by kernel_rfl
  f217 := Tryz.func82.trans (congrArg some (by kernel_rfl))
  f219 := Tryz.func111.trans (congrArg some (by kernel_rfl))
  f220 := Tryz.func88.trans (congrArg some (by kernel_rfl))
  f224 := Tryz.func138.trans (congrArg some (by kernel_rfl))
  f225 := Tryz.func137.trans (congrArg some (by kernel_rfl))
  f266 := Tryz.func100.trans (congrArg some (by kernel_rfl))
  f267 := Tryz.func139.trans (congrArg some (by kernel_rfl))
  f314 := Tryz.func171.trans (congrArg some (by kernel_rfl))
  t3 := Tryz.underlying3
  a3 := Tryz.isAgg3
  z3 := Tryz.sizeOf3
  v3 := Tryz.zeroValue3
  t4 := Tryz.underlying4
  a4 := Tryz.isAgg4
  z4 := Tryz.sizeOf4
  v4 := Tryz.zeroValue4
  t5 := Tryz.underlying5
  a5 := Tryz.isAgg5
  z5 := Tryz.sizeOf5
  v5 := Tryz.zeroValue5
  t9 := Tryz.underlying9
  a9 := Tryz.isAgg9
  z9 := Tryz.sizeOf9
  v9 := Tryz.zeroValue9
  t46 := Tryz.underlying70
  a46 := Tryz.isAgg70
  z46 := Tryz.sizeOf70
  v46 := Tryz.zeroValue70
  t51 := Tryz.underlying100
  a51 := Tryz.isAgg100
  z51 := Tryz.sizeOf100
  v51 := Tryz.zeroValue100
  t146 := Tryz.underlying226
  a146 := Tryz.isAgg226
  z146 := Tryz.sizeOf226
  v146 := Tryz.zeroValue226
  g1 := by kernel_rfl }
open Go.RowKit Go.Lib in
theorem Tryz.stringslite_Cut (s sep : ByteArray) (m : Int) (w : World) (hs : s.size < 4294967281) (hm : w.cell? ⟨2, 0, none⟩ = some (.int .i64 m)) :
    Calls Tryz.prog 88 #[.string s, .string sep] w fun e w' => e = .returned (.tuple #[.string ⟨(Lib.cut s.data.toList sep.data.toList).1.toArray⟩, .string ⟨(Lib.cut s.data.toList sep.data.toList).2.1.toArray⟩, .bool (Lib.cut s.data.toList sep.data.toList).2.2]) ∧ ∃ n, w' = w.drewN n := Any.stringslite_Cut Tryz.lays220 s sep m w hs hm
def Tryz.lays145_ren : Go.Shelf.Ren := ⟨fun | 145 => 75 | 220 => 88 | 219 => 111 | 217 => 82 | 225 => 137 | 224 => 138 | 267 => 139 | 266 => 100 | 314 => 171 | n => n, fun | 9 => 9 | 4 => 4 | 59 => 117 | 3 => 3 | 5 => 5 | 46 => 70 | 146 => 226 | 51 => 100 | n => n, fun | 1 => 2 | n => n⟩
theorem Tryz.lays145 : Go.Proofs.Lays.n145 Tryz.prog Tryz.lays145_ren := {
  mixed := by kernel_rfl
  f145 := Tryz.func75.trans (congrArg some (by kernel_rfl))
  f217 := Tryz.func82.trans (congrArg some (by kernel_rfl))
  f219 := Tryz.func111.trans (congrArg some (by kernel_rfl))
  f220 := Tryz.func88.trans (congrArg some (by kernel_rfl))
  f224 := Tryz.func138.trans (congrArg some (by kernel_rfl))
  f225 := Tryz.func137.trans (congrArg some (by kernel_rfl))
  f266 := Tryz.func100.trans (congrArg some (by kernel_rfl))
  f267 := Tryz.func139.trans (congrArg some (by kernel_rfl))
  f314 := Tryz.func171.trans (congrArg some (by kernel_rfl))
  t3 := Tryz.underlying3
  a3 := Tryz.isAgg3
  z3 := Tryz.sizeOf3
  v3 := Tryz.zeroValue3
  t4 := Tryz.underlying4
  a4 := Tryz.isAgg4
  z4 := Tryz.sizeOf4
  v4 := Tryz.zeroValue4
  t5 := Tryz.underlying5
  a5 := Tryz.isAgg5
  z5 := Tryz.sizeOf5
  v5 := Tryz.zeroValue5
  t9 := Tryz.underlying9
  a9 := Tryz.isAgg9
  z9 := Tryz.sizeOf9
  v9 := Tryz.zeroValue9
  t46 := Tryz.underlying70
  a46 := Tryz.isAgg70
  z46 := Tryz.sizeOf70
  v46 := Tryz.zeroValue70
  t51 := Tryz.underlying100
  a51 := Tryz.isAgg100
  z51 := Tryz.sizeOf100
  v51 := Tryz.zeroValue100
  t59 := Tryz.underlying117
  a59 := Tryz.isAgg117
  z59 := Tryz.sizeOf117
  v59 := Tryz.zeroValue117
  t146 := Tryz.underlying226
  a146 := Tryz.isAgg226
  z146 := Tryz.sizeOf226
  v146 := Tryz.zeroValue226
  g1 := by kernel_rfl }
open Go.RowKit Go.Lib in
theorem Tryz.strings_Cut (s sep : ByteArray) (m : Int) (w : World) (hs : s.size < 4294967281) (hm : w.cell? ⟨2, 0, none⟩ = some (.int .i64 m)) :
    Calls Tryz.prog 75 #[.string s, .string sep] w fun e w' => e = .returned (.tuple #[.string ⟨(Lib.cut s.data.toList sep.data.toList).1.toArray⟩, .string ⟨(Lib.cut s.data.toList sep.data.toList).2.1.toArray⟩, .bool (Lib.cut s.data.toList sep.data.toList).2.2]) ∧ ∃ n, w' = w.drewN n := Any.strings_Cut Tryz.lays145 s sep m w hs hm
def Tryz.lays138_ren : Go.Shelf.Ren := ⟨fun | 138 => 220 | 195 => 221 | 218 => 222 | 143 => 223 | 219 => 111 | 217 => 82 | 225 => 137 | 224 => 138 | 267 => 139 | 266 => 100 | 314 => 171 | n => n, fun | 9 => 9 | 3 => 3 | 4 => 4 | 5 => 5 | 0 => 0 | 46 => 70 | 146 => 226 | 51 => 100 | n => n, fun | 1 => 2 | n => n⟩
theorem Tryz.lays138 : Go.Proofs.Lays.n138 Tryz.prog Tryz.lays138_ren := {
  mixed := by kernel_rfl
  f138 := Tryz.func220.trans (congrArg some (by kernel_rfl))
  f143 := Tryz.func223.trans (congrArg some (by kernel_rfl))
  f195 := Tryz.func221.trans (congrArg some (by kernel_rfl))
  f217 := Tryz.func82.trans (congrArg some (by kernel_rfl))
  f218 := Tryz.func222.trans (congrArg some (by kernel_rfl))
  f219 := Tryz.func111.trans (congrArg some (by kernel_rfl))
  f224 := Tryz.func138.trans (congrArg some (by kernel_rfl))
  f225 := Tryz.func137.trans (congrArg some (by kernel_rfl))
  f266 := Tryz.func100.trans (congrArg some (by kernel_rfl))
  f267 := Tryz.func139.trans (congrArg some (by kernel_rfl))
  f314 := Tryz.func171.trans (congrArg some (by kernel_rfl))
  t0 := Tryz.underlying0
  a0 := Tryz.isAgg0
  z0 := Tryz.sizeOf0
  v0 := Tryz.zeroValue0
  t3 := Tryz.underlying3
  a3 := Tryz.isAgg3
  z3 := Tryz.sizeOf3
  v3 := Tryz.zeroValue3
  t4 := Tryz.underlying4
  a4 := Tryz.isAgg4
  z4 := Tryz.sizeOf4
  v4 := Tryz.zeroValue4
  t5 := Tryz.underlying5
  a5 := Tryz.isAgg5
  z5 := Tryz.sizeOf5
  v5 := Tryz.zeroValue5
  t9 := Tryz.underlying9
  a9 := Tryz.isAgg9
  z9 := Tryz.sizeOf9
  v9 := Tryz.zeroValue9
  t46 := Tryz.underlying70
  a46 := Tryz.isAgg70
  z46 := Tryz.sizeOf70
  v46 := Tryz.zeroValue70
  t51 := Tryz.underlying100
  a51 := Tryz.isAgg100
  z51 := Tryz.sizeOf100
  v51 := Tryz.zeroValue100
  t146 := Tryz.underlying226
  a146 := Tryz.isAgg226
  z146 := Tryz.sizeOf226
  v146 := Tryz.zeroValue226
  g1 := by kernel_rfl }
open Go.RowKit Go.Lib in
theorem Tryz.strings_Count_one (s : ByteArray) (c : UInt8) (w : World) :
    Calls Tryz.prog 220 #[.string s, .string ⟨#[c]⟩] w fun e w' => e = .returned (.int .i64 (Lib.countByte s.data.toList c)) ∧ w' = w := Any.strings_Count_one Tryz.lays138 s c w
open Go.RowKit Go.Lib in
theorem Tryz.strings_Count (s sub : ByteArray) (m : Int) (w : World) (hs : s.size < 4294967281) (hm : w.cell? ⟨2, 0, none⟩ = some (.int .i64 m)) (h2 : 2 ≤ sub.size) :
    Calls Tryz.prog 220 #[.string s, .string sub] w fun e w' => e = .returned (.int .i64 (Lib.countB s sub)) ∧ w' = w := Any.strings_Count Tryz.lays138 s sub m w hs hm h2
def Tryz.lays207_ren : Go.Shelf.Ren := ⟨fun | 207 => 112 | n => n, fun | 9 => 9 | 4 => 4 | 3 => 3 | n => n, fun | n => n⟩
theorem Tryz.lays207 : Go.Proofs.Lays.n207 Tryz.prog Tryz.lays207_ren := {
  mixed := by kernel_rfl
  f207 := Tryz.func112.trans (congrArg some (by kernel_rfl))
  t3 := Tryz.underlying3
  a3 := Tryz.isAgg3
  z3 := Tryz.sizeOf3
  v3 := Tryz.zeroValue3
  t4 := Tryz.underlying4
  a4 := Tryz.isAgg4
  z4 := Tryz.sizeOf4
  v4 := Tryz.zeroValue4
  t9 := Tryz.underlying9
  a9 := Tryz.isAgg9
  z9 := Tryz.sizeOf9
  v9 := Tryz.zeroValue9 }
open Go.RowKit Go.Lib in
theorem Tryz.stringslite_HasSuffix (s p : ByteArray) (w : World) (hs : s.size ≤ 9223372036854775807) :
    Calls Tryz.prog 112 #[.string s, .string p] w fun e w' => e = .returned (.bool (Lib.hasSuffix s.data.toList p.data.toList)) ∧ w' = w := Any.stringslite_HasSuffix Tryz.lays207 s p w hs
def Tryz.lays197_ren : Go.Shelf.Ren := ⟨fun | 197 => 116 | 260 => 145 | n => n, fun | 9 => 9 | 21 => 21 | 3 => 3 | 4 => 4 | 5 => 5 | 105 => 166 | 119 => 66 | 0 => 0 | 46 => 70 | 139 => 69 | 138 => 68 | n => n, fun | 3 => 0 | 4 => 1 | n => n⟩
theorem Tryz.lays197 : Go.Proofs.Lays.n197 Tryz.prog Tryz.lays197_ren := {
  mixed := by kernel_rfl
  f197 := Tryz.func116.trans (congrArg some (by kernel_rfl))
  f260 := Tryz.func145.trans (congrArg some (by kernel_rfl))
  t0 := Tryz.underlying0
  a0 := Tryz.isAgg0
  z0 := Tryz.sizeOf0
  v0 := Tryz.zeroValue0
  t3 := Tryz.underlying3
  a3 := Tryz.isAgg3
  z3 := Tryz.sizeOf3
  v3 := Tryz.zeroValue3
  t4 := Tryz.underlying4
  a4 := Tryz.isAgg4
  z4 := Tryz.sizeOf4
  v4 := Tryz.zeroValue4
  t5 := Tryz.underlying5
  a5 := Tryz.isAgg5
  z5 := Tryz.sizeOf5
  v5 := Tryz.zeroValue5
  t9 := Tryz.underlying9
  a9 := Tryz.isAgg9
  z9 := Tryz.sizeOf9
  v9 := Tryz.zeroValue9
  t21 := Tryz.underlying21
  a21 := Tryz.isAgg21
  z21 := Tryz.sizeOf21
  v21 := Tryz.zeroValue21
  t46 := Tryz.underlying70
  a46 := Tryz.isAgg70
  z46 := Tryz.sizeOf70
  v46 := Tryz.zeroValue70
  t105 := Tryz.underlying166
  a105 := Tryz.isAgg166
  z105 := Tryz.sizeOf166
  v105 := Tryz.zeroValue166
  t119 := Tryz.underlying66
  a119 := Tryz.isAgg66
  z119 := Tryz.sizeOf66
  t138 := Tryz.underlying68
  a138 := Tryz.isAgg68
  z138 := Tryz.sizeOf68
  v138 := Tryz.zeroValue68
  t139 := Tryz.underlying69
  a139 := Tryz.isAgg69
  z139 := Tryz.sizeOf69
  v139 := Tryz.zeroValue69
  g3 := by kernel_rfl
  g4 := by kernel_rfl }
def Tryz.lays227_ren : Go.Shelf.Ren := ⟨fun | 227 => 92 | n => n, fun | 9 => 9 | 116 => 136 | 4 => 4 | 0 => 0 | 3 => 3 | 5 => 5 | n => n, fun | n => n⟩
theorem Tryz.lays227 : Go.Proofs.Lays.n227 Tryz.prog Tryz.lays227_ren := {
  mixed := by kernel_rfl
  f227 := Tryz.func92.trans (congrArg some (by kernel_rfl))
  t0 := Tryz.underlying0
  a0 := Tryz.isAgg0
  z0 := Tryz.sizeOf0
  v0 := Tryz.zeroValue0
  t3 := Tryz.underlying3
  a3 := Tryz.isAgg3
  z3 := Tryz.sizeOf3
  v3 := Tryz.zeroValue3
  t4 := Tryz.underlying4
  a4 := Tryz.isAgg4
  z4 := Tryz.sizeOf4
  v4 := Tryz.zeroValue4
  t5 := Tryz.underlying5
  a5 := Tryz.isAgg5
  z5 := Tryz.sizeOf5
  v5 := Tryz.zeroValue5
  t9 := Tryz.underlying9
  a9 := Tryz.isAgg9
  z9 := Tryz.sizeOf9
  v9 := Tryz.zeroValue9
  t116 := Tryz.underlying136
  a116 := Tryz.isAgg136
  z116 := Tryz.sizeOf136 }
open Go.RowKit Go.Lib in
theorem Tryz.strings_makeASCIISet (hv116 : ∀ w, (zeroValue 136).run Tryz.prog w = .ok (.agg (Array.replicate 256 (.bool false))) w) (chars : ByteArray) (w : World) (hs : chars.size < 4294967281) (hascii : ∀ (j : Nat) b, chars.data.toList[j]? = some b → b.toNat < 128) :
    Calls Tryz.prog 92 #[.string chars] w fun e w' => e = .returned (.tuple #[.agg (Lib.setCells chars.data.toList), .bool true]) ∧ w' = w.alloc (.cells (Lib.setCells chars.data.toList) 136) := Any.strings_makeASCIISet Tryz.lays227 hv116 (by kernel_rfl) chars w hs hascii
def Tryz.lays260_ren : Go.Shelf.Ren := ⟨fun | 260 => 145 | n => n, fun | 9 => 9 | 21 => 21 | 3 => 3 | 4 => 4 | 5 => 5 | 119 => 66 | 0 => 0 | 46 => 70 | 139 => 69 | 138 => 68 | n => n, fun | 3 => 0 | 4 => 1 | n => n⟩
theorem Tryz.lays260 : Go.Proofs.Lays.n260 Tryz.prog Tryz.lays260_ren := {
  mixed := by kernel_rfl
  f260 := Tryz.func145.trans (congrArg some (by kernel_rfl))
  t0 := Tryz.underlying0
  a0 := Tryz.isAgg0
  z0 := Tryz.sizeOf0
  v0 := Tryz.zeroValue0
  t3 := Tryz.underlying3
  a3 := Tryz.isAgg3
  z3 := Tryz.sizeOf3
  v3 := Tryz.zeroValue3
  t4 := Tryz.underlying4
  a4 := Tryz.isAgg4
  z4 := Tryz.sizeOf4
  v4 := Tryz.zeroValue4
  t5 := Tryz.underlying5
  a5 := Tryz.isAgg5
  z5 := Tryz.sizeOf5
  v5 := Tryz.zeroValue5
  t9 := Tryz.underlying9
  a9 := Tryz.isAgg9
  z9 := Tryz.sizeOf9
  v9 := Tryz.zeroValue9
  t21 := Tryz.underlying21
  a21 := Tryz.isAgg21
  z21 := Tryz.sizeOf21
  v21 := Tryz.zeroValue21
  t46 := Tryz.underlying70
  a46 := Tryz.isAgg70
  z46 := Tryz.sizeOf70
  v46 := Tryz.zeroValue70
  t119 := Tryz.underlying66
  a119 := Tryz.isAgg66
  z119 := Tryz.sizeOf66
  t138 := Tryz.underlying68
  a138 := Tryz.isAgg68
  z138 := Tryz.sizeOf68
  v138 := Tryz.zeroValue68
  t139 := Tryz.underlying69
  a139 := Tryz.isAgg69
  z139 := Tryz.sizeOf69
  v139 := Tryz.zeroValue69
  g3 := by kernel_rfl
  g4 := by kernel_rfl }
open Go.RowKit Go.Lib in
theorem Tryz.utf8_DecodeRuneInString (s : ByteArray) (w : World) (hT : Lib.Utf8Tabs 0 1 w) :
    Calls Tryz.prog 116 #[.string s] w fun e w' => e = .returned (.tuple #[.int .i32 (Lib.decodeGo s).1, .int .i64 (Lib.decodeGo s).2]) ∧ Below w.heap.size w w' := Any.utf8_DecodeRuneInString Tryz.lays197 s w hT
def Tryz.lays270_ren : Go.Shelf.Ren := ⟨fun | 270 => 123 | n => n, fun | 70 => 173 | 3 => 3 | 0 => 0 | 72 => 175 | 37 => 93 | 5 => 5 | n => n, fun | n => n⟩
theorem Tryz.lays270 : Go.Proofs.Lays.n270 Tryz.prog Tryz.lays270_ren := {
  mixed := by kernel_rfl
  f270 := Tryz.func123.trans (congrArg some (by kernel_rfl))
  t0 := Tryz.underlying0
  a0 := Tryz.isAgg0
  z0 := Tryz.sizeOf0
  v0 := Tryz.zeroValue0
  t3 := Tryz.underlying3
  a3 := Tryz.isAgg3
  z3 := Tryz.sizeOf3
  v3 := Tryz.zeroValue3
  t37 := Tryz.underlying93
  a37 := Tryz.isAgg93
  z37 := Tryz.sizeOf93
  v37 := Tryz.zeroValue93
  t70 := Tryz.underlying173
  a70 := Tryz.isAgg173
  z70 := Tryz.sizeOf173
  v70 := Tryz.zeroValue173
  t72 := Tryz.underlying175
  a72 := Tryz.isAgg175
  z72 := Tryz.sizeOf175
  v72 := Tryz.zeroValue175 }
open Go.RowKit Go.Lib in
theorem Tryz.Builder_Cap_cell (b : Nat) (p : Option Addr) (n cap : Nat) (w : World) (c1 : w.cell? ⟨b, 1, none⟩ = some (.slice p n cap)) :
    Calls Tryz.prog 123 #[.pointer (some ⟨b, 0, none⟩)] w fun e w' => e = .returned (.int .i64 cap) ∧ w' = w := Any.Builder_Cap_cell Tryz.lays270 b p n cap w c1
end Go.Proofs
end
section
namespace Go.Proofs.YtegkhjbajijidaaGreatDoor
open Go Go.RowKit Go.Ph
theorem ty93 : ElemTy Tryz.prog 93 5 (.int .u8 0) 1 1 := ElemTy.mk' Tryz.underlying93 (by kernel_rfl) rfl (by decide)
theorem in_spec (n lo hi : Int) : Ct Tryz.prog 20 [I n, I lo, I hi] (fun _ => True) (fun r _ => r = .bool (decide (lo ≤ n ∧ n ≤ hi))) := by
  refine Ct.of Tryz.func20 (enters Tryz.func20 (by kernel_rfl) rfl) rfl rfl rfl ?_
  intro w0 M0 H hp
  refine SQ (RG (AS rfl rfl (NL (TN (SQ (RG (MV rfl rfl (MV rfl rfl ?_))))))))
  refine WR.split (Ex.geq rfl rfl) (Wn.none rfl) rfl rfl (fun h1_2 => ?_) (fun h1_2 => ?_)
  · refine MV rfl rfl (SG (Ex.move rfl) rfl rfl rfl (SG (Ex.move rfl) rfl rfl rfl (SG (Ex.leq rfl rfl) rfl rfl rfl (PT rfl rfl rfl (AS rfl rfl (NL (TN (RT ?_))))))))
    refine WQ.ret1 rfl rfl H.ext ?_
    exact (by simp [h1_2])
  · refine MV rfl rfl (GF rfl rfl rfl (GF rfl rfl rfl (GF rfl rfl rfl (PF rfl rfl rfl (AS rfl rfl (NL (TN (RT ?_))))))))
    refine WQ.ret1 rfl rfl H.ext ?_
    exact (by simp [h1_2])
def Tabs (M : Mem) : Prop := ∀ w, Ag M w → Lib.Utf8Tabs 0 1 w
theorem Tabs.mono {M M' : Mem} (h : Tabs M) (hl : M.le M') : Tabs M' := fun w ha => h w (fun b o hb => ha b o (hl b o hb))
theorem decodeGo_list (l : List UInt8) (hl : l ≠ []) : Lib.decodeGo ⟨l.toArray⟩ = Utf.dr l := by
  have h1 : l.length ≠ 0 := fun h => hl (List.eq_nil_of_length_eq_zero h)
  unfold Lib.decodeGo
  rw [size_mk, if_neg h1, decode_list, List.drop_zero]
theorem decode_spec (l : List UInt8) (hl : l ≠ []) : Ct Tryz.prog 116 [S l] (fun M => Tabs M) (fun r _ => r = .tuple #[.int .i32 ((Utf.dr l).1 : Int), .int .i64 ((Utf.dr l).2 : Int)]) := by
  refine ⟨enters Tryz.func116 (by kernel_rfl) rfl, fun w M ha hp => ?_⟩
  refine (Tryz.utf8_DecodeRuneInString ⟨l.toArray⟩ w (hp w ha)).mono fun e w' ⟨he, hb⟩ => ⟨_, M, he, ⟨BelowX.of hb _, Mem.le.refl M, fun b o hbo => ?_, fun _ _ => rfl⟩, ?_⟩
  · have h1 := ha b o hbo
    rw [hb.block b (Array.getElem?_eq_some_iff.1 h1).1]; exact h1
  · rw [decodeGo_list l hl]
end Go.Proofs.YtegkhjbajijidaaGreatDoor
end
section
namespace Go.Proofs.YtegkhjbajijidaaGreatDoor
open Go Go.RowKit Go.Ph Go.ChangeShapes Go.WideShapes Go.ChangeAt
theorem own : ownKnob Tryz.prog.godebug = none := by kernel_rfl
theorem laidOut : laidOutB Tryz.prog = true := by kernel_rfl
theorem pow_eq : Lib.tabData .u64 Lib.pow10Tab = (Rows.laid_internal_strconv_uint64pow10 : DataW Unit) := by kernel_rfl
theorem gl_pow10 {W : World} (h : laidMetH Tryz.prog Rows.mediaPrintMatchesSpecRow.laid W) : GlF (fun w => Lib.TabIs Tryz.prog w "internal/strconv.uint64pow10" .u64 Lib.pow10Tab) (memOf W) := by
  replace h : laidMet Tryz.prog Rows.mediaPrintMatchesSpecRow.laid W := h
  have h3 := Lib.laidMet.reads h (n := "internal/strconv.uint64pow10") (d := Rows.laid_internal_strconv_uint64pow10) (by simp [Rows.mediaPrintMatchesSpecRow])
  rw [← pow_eq] at h3
  exact tab_of_reads (g := 3) (len := 20) (t := 195) (e := 96) h3 (by kernel_rfl) (by kernel_rfl) (by kernel_rfl) (by kernel_rfl) (by kernel_rfl) (by kernel_rfl)
theorem gl_errS {W : World} (h : laidMetH Tryz.prog Rows.mediaPrintMatchesSpecRow.laid W) : GlF (fun w => ∃ tp p, w.var? Tryz.prog "strconv.ErrSyntax" = some #[.iface tp p]) (memOf W) := by
  replace h : laidMet Tryz.prog Rows.mediaPrintMatchesSpecRow.laid W := h
  have h3 := Lib.laidMet.reads h (n := "strconv.ErrSyntax") (d := Rows.laid_strconv_ErrSyntax) (by simp [Rows.mediaPrintMatchesSpecRow])
  exact iface_of_reads (g := 4) (t := 131) h3 (by kernel_rfl) (by kernel_rfl) (by kernel_rfl)
theorem gl_errR {W : World} (h : laidMetH Tryz.prog Rows.mediaPrintMatchesSpecRow.laid W) : GlF (fun w => ∃ tp p, w.var? Tryz.prog "strconv.ErrRange" = some #[.iface tp p]) (memOf W) := by
  replace h : laidMet Tryz.prog Rows.mediaPrintMatchesSpecRow.laid W := h
  have h3 := Lib.laidMet.reads h (n := "strconv.ErrRange") (d := Rows.laid_strconv_ErrRange) (by simp [Rows.mediaPrintMatchesSpecRow])
  exact iface_of_reads (g := 5) (t := 131) h3 (by kernel_rfl) (by kernel_rfl) (by kernel_rfl)
theorem gl_maxl {W : World} (h : W.ShapedOpen Tryz.prog) : GlF (fun w => ∃ m, w.cell? ⟨2, 0, none⟩ = some (.int .i64 m)) (memOf W) := by
  obtain ⟨m, hm⟩ := Go.Proofs.cell_of_shapedOpen_int (g := 2) (zero := #[.int .i64 0]) (t := 3) h (of_decide_eq_true (by kernel_rfl)) (by kernel_rfl) rfl (by kernel_rfl) (by kernel_rfl) Tryz.underlying3
  exact fun w ha => ⟨m, cell_upM ha hm⟩
theorem first_eq : Lib.firstData = Rows.laid_unicode_utf8_first := by kernel_rfl
theorem accept_eq : Lib.acceptData = Rows.laid_unicode_utf8_acceptRanges := by kernel_rfl
theorem tabs_of_laid {W : World} (h : laidMetH Tryz.prog Rows.mediaPrintMatchesSpecRow.laid W) : Tabs (memOf W) := by
  replace h : laidMet Tryz.prog Rows.mediaPrintMatchesSpecRow.laid W := h
  have h3 := Lib.laidMet.reads h (n := "unicode/utf8.first") (d := Rows.laid_unicode_utf8_first) (by simp [Rows.mediaPrintMatchesSpecRow])
  have h4 := Lib.laidMet.reads h (n := "unicode/utf8.acceptRanges") (d := Rows.laid_unicode_utf8_acceptRanges) (by simp [Rows.mediaPrintMatchesSpecRow])
  rw [← first_eq] at h3
  rw [← accept_eq] at h4
  have hT : Lib.Utf8Tabs 0 1 W := utf8Tabs_of_reads Tryz.lays260 ⟨by kernel_rfl, by kernel_rfl, by kernel_rfl, by kernel_rfl, by kernel_rfl, by kernel_rfl, by kernel_rfl⟩ h3 h4
  intro w ha
  exact ⟨fun c hc => cell_upM ha (hT.1 c hc), fun i hi => ⟨cell_upM ha (hT.2 i hi).1, cell_upM ha (hT.2 i hi).2⟩⟩
noncomputable def laidWorld (os : Os) : World := World.laidAll Tryz.prog os Rows.mediaPrintMatchesSpecRow.laid
theorem laid_met (os : Os) (args : Array Value) : laidMet Tryz.prog Rows.mediaPrintMatchesSpecRow.laid ((laidWorld os).forCall (fun _ _ => 0) ⟨#[], args, []⟩).memory :=
  laidMet_laidAll args (by kernel_rfl) (by kernel_rfl)
theorem str_list (s : ByteArray) : ∃ l : List UInt8, s = ⟨l.toArray⟩ := ⟨s.data.toList, by cases s; simp⟩
end Go.Proofs.YtegkhjbajijidaaGreatDoor
end
section
namespace Go.Ph
open Go Go.RowKit Go.ChangeShapes Go.WideShapes Go.ChangeAt
section
variable {H : Type} {enc : TypeId × Value → H} {P : Program} {W : World}
end
end Go.Ph
end
section
namespace Go.Ph
open Go Go.RowKit Go.ChangeShapes Go.WideShapes Go.ChangeAt
section
variable {H : Type} {enc : TypeId × Value → H} {P : Program} {W : World}
end
end Go.Ph
end
section
namespace Go.Ph
open Go Go.RowKit Go.ChangeShapes Go.WideShapes Go.ChangeAt
section
variable {H : Type} {enc : TypeId × Value → H} {P : Program} {W : World}
end
end Go.Ph
end
section
namespace Go.Ph
open Go Go.RowKit
def chainB (ops : Array Oper) : List Nat → Array Bool → Bool
  | [], _ => true
  | i :: is, l => (Region.ready .any ops l == [i]) && (ops[i]?).isSome && chainB ops is (l.setIfInBounds i true)
def opsAt (ops : Array Oper) : List Nat → List Oper
  | [] => []
  | i :: is => match ops[i]? with
    | some o => o :: opsAt ops is
    | none => []
def finL : List Nat → Array Bool → Array Bool
  | [], l => l
  | i :: is, l => finL is (l.setIfInBounds i true)
def noCall (o : Oper) : Bool := match o.op with
  | .call _ => false
  | _ => true
theorem noCall_about {o : Oper} (h : noCall o = true) (P : Program) (w : World) (ρ : Operand → Value) : o.about P w ρ = none := by
  unfold noCall at h
  unfold Oper.about
  split
  · rename_i c hc; rw [hc] at h; cases h
  · rfl
def freesB (ops : Array Oper) : List Nat → Array Bool → Bool
  | [], _ => true
  | i :: is, l => (match ops[i]? with | some o => noCall o | none => false) && Region.free .any ops l i && (Region.ready .any ops l).contains i && freesB ops is (l.setIfInBounds i true)
section
variable {r : Option Nat} {P : Program} {ops : Array Oper} {Q : Exit → Act → World → Prop} {n fuel : Nat} {D : List Deferred} {e e' : Env} {w : World} {listed : Array Bool}
theorem chain_sound : ∀ (is : List Nat) (listed : Array Bool) (a : Act) (w : World), chainB ops is listed = true → wpListIn (Wd r) 0 P ops (Qa r P ops Q fuel (finL is listed)) (opsAt ops is) a w → wpAnyIn (Wd r) 0 P .any ops (noP Q) (fuel + is.length) listed a w
  | [], listed, a, w, hc, h => h
  | i :: is, listed, a, w, hc, h => by
    rw [chainB, Bool.and_eq_true, Bool.and_eq_true] at hc
    obtain ⟨⟨h1, h2⟩, h3⟩ := hc
    have h1 : Region.ready .any ops listed = [i] := by simpa using h1
    obtain ⟨o, ho⟩ := Option.isSome_iff_exists.1 h2
    rw [opsAt, ho] at h
    refine wpAnyIn_all h1 (by simp) fun x hx => ?_
    obtain rfl : x = i := by simpa using hx
    have h4 : wpOpIn (Wd r) 0 P ops (noP Q) x (wpListIn (Wd r) 0 P ops (Qa r P ops Q fuel (finL (x :: is) listed)) (opsAt ops is)) a w := by
      unfold wpOpIn
      rw [ho]
      simp only [wpListIn] at h ⊢
      exact h
    exact wpOpIn_mono (fun a w hk => chain_sound is (listed.setIfInBounds x true) a w h3 hk) h4
theorem WA.seq (is : List Nat) {f : Nat} (hf : f = fuel + is.length) (hc : chainB ops is listed = true) (k : WR r P ops (Qa r P ops Q fuel (finL is listed)) n D (opsAt ops is) e w) : WA r P ops Q n D f listed e w := fun a ha => by
  subst hf
  exact chain_sound is listed a w hc (k a ha)
theorem skips_one {o : Oper} (h : skips ops n e [o] = some e') : ∃ d, o.dst = some d ∧ d < n ∧ e' = (d, undef) :: e ∧ ∀ D a, Sat n D e a → Region.wanted o (yielded ops a.tmps) = false := by
  rw [skips] at h
  split at h
  case h_2 => cases h
  rename_i j b d hg hd
  split at h
  case h_2 => cases h
  rename_i t ht
  split at h
  · rename_i b' hb
    cases hc : ((b' != b) && Nat.blt d n) with
    | false => rw [hc] at h; cases h
    | true =>
      rw [hc] at h
      rw [Bool.and_eq_true] at hc
      have hne : b' ≠ b := by simpa using hc.1
      rw [cond_true, skips] at h
      exact ⟨d, hd, Nat.le_of_ble_eq_true hc.2, (oI h).symm, fun D a ha => by
        have := yielded_of ht ha hb
        simp [Region.wanted, hg, this, hne]⟩
  · rename_i xs hb
    cases hc : Nat.blt d n with
    | false => rw [hc] at h; cases h
    | true =>
      rw [hc] at h
      rw [cond_true, skips] at h
      exact ⟨d, hd, Nat.le_of_ble_eq_true hc, (oI h).symm, fun D a ha => by
        have hv := ha.val t _ hb
        have : yielded ops a.tmps j = none := by
          unfold yielded
          rw [ht]
          simp only [Option.bind_some]
          cases htt : a.tmps[t]? with
          | none => rfl
          | some x => simp [htt] at hv; subst hv; rfl
        simp [Region.wanted, hg, this]⟩
  · cases h
theorem skips_cons {o : Oper} {l : List Oper} (h : skips ops n e (o :: l) = some e') : ∃ e1, skips ops n e [o] = some e1 ∧ skips ops n e1 l = some e' := by
  rw [skips] at h
  split at h
  case h_2 => cases h
  rename_i j b d hg hd
  split at h
  case h_2 => cases h
  rename_i t ht
  split at h
  · rename_i b' hb
    cases hc : ((b' != b) && Nat.blt d n) with
    | false => rw [hc] at h; cases h
    | true =>
      rw [hc, cond_true] at h
      refine ⟨_, ?_, h⟩
      rw [skips, hg, hd]
      simp only [ht, hb, hc, cond_true]
      rfl
  · rename_i xs hb
    cases hc : Nat.blt d n with
    | false => rw [hc] at h; cases h
    | true =>
      rw [hc, cond_true] at h
      refine ⟨_, ?_, h⟩
      rw [skips, hg, hd]
      simp only [ht, hb, hc, cond_true]
      rfl
  · cases h
theorem takes_sound (hs : Region.noSelect ops = true) : ∀ (is : List Nat) (e : Env) (listed : Array Bool), freesB ops is listed = true → skips ops n e (opsAt ops is) = some e' → WA none P ops Q n D fuel (finL is listed) e' w → WA none P ops Q n D (fuel + is.length) listed e w
  | [], e, listed, _, h, k => by cases h; exact k
  | i :: is, e, listed, hf, h, k => by
    rw [freesB, Bool.and_eq_true, Bool.and_eq_true, Bool.and_eq_true] at hf
    obtain ⟨⟨⟨h1, h2⟩, h3⟩, h4⟩ := hf
    cases ho : ops[i]? with
    | none => rw [ho] at h1; cases h1
    | some o =>
      rw [ho] at h1
      rw [opsAt, ho] at h
      obtain ⟨e1, g1, g2⟩ := skips_cons h
      obtain ⟨d, hd, hn, rfl, hw⟩ := skips_one g1
      exact WA.takeN ho hs h2 h3 (hw D) hd (Nat.ble_eq_true_of_le hn) (fun w ρ => noCall_about h1 P w ρ) (takes_sound hs is _ _ h4 g2 k)
theorem WA.takes (is : List Nat) {f : Nat} (hf : f = fuel + is.length) (hs : Region.noSelect ops = true) (hc : freesB ops is listed = true) (h : Ph.skips ops n e (opsAt ops is) = some e') (k : WA none P ops Q n D fuel (finL is listed) e' w) : WA none P ops Q n D f listed e w := by
  subst hf
  exact takes_sound hs is e listed hc h k
end
section
variable {P : Program} {e : Env} {w : World} {x y : Operand} {dst : Option Tmp} {ty t t' : TypeId} {pos : String} {af : Array Edge} {g : Option (Nat × Bool)} {a b : Bool}
end
end Go.Ph
end
section
namespace Go.Ph
open Go Go.RowKit
def Keeps {α : Type} (s : Sem α) : Prop := ∀ (P : Program) (w : World) (x : α) (w' : World), s.run P w = .ok x w' → w' = w
theorem Keeps.pure {α : Type} (a : α) : Keeps (Pure.pure a : Sem α) := fun P w x w' h => by
  rw [Sem.run_pure] at h; cases h; rfl
theorem Keeps.bind {α β : Type} {s : Sem α} {f : α → Sem β} (h : Keeps s) (hf : ∀ a, Keeps (f a)) : Keeps (s >>= f) := fun P w x w' hr => by
  rw [Sem.run_bind] at hr
  cases h1 : s.run P w with
  | ok a w1 =>
    rw [h1, Result.andThen_ok] at hr
    rw [h P w a w1 h1] at hr
    exact hf a P w x w' hr
  | halt c w1 => rw [h1] at hr; cases hr
theorem Keeps.load {a : Addr} {m : Mode} : Keeps (Go.load a m) := fun P w x w' h => by
  unfold Go.load at h
  simp only [Sem.run] at h
  split at h
  · cases h; rfl
  · split at h
    · cases h; rfl
    · cases h
theorem Keeps.program : Keeps Go.program := fun P w x w' h => by
  unfold Go.program at h
  simp only [Sem.run] at h
  cases h; rfl
theorem Keeps.halt {α : Type} {c : Halt} : Keeps (Sem.halt c : Sem α) := fun P w x w' h => by
  simp only [Sem.run] at h
  cases h
theorem Keeps.typeInfo {t : TypeId} : Keeps (Go.typeInfo t) := by
  unfold Go.typeInfo
  refine Keeps.bind Keeps.program fun p => ?_
  split
  · exact Keeps.pure _
  · exact Keeps.halt
theorem Keeps.underlying {t : TypeId} : Keeps (Go.underlying t) := by
  unfold Go.underlying
  refine Keeps.bind Keeps.program fun p => ?_
  split
  · exact Keeps.pure _
  · exact Keeps.halt
theorem Keeps.sizeOf {t : TypeId} : Keeps (Go.sizeOf t) := Keeps.bind Keeps.typeInfo fun p => Keeps.pure _
theorem Keeps.isAgg {t : TypeId} : Keeps (Go.isAgg t) := by
  unfold Go.isAgg
  refine Keeps.bind Keeps.underlying fun p => ?_
  split <;> exact Keeps.pure _
theorem Keeps.loadCellsFrom {a : Addr} : ∀ (n i : Nat) (acc : Array Value), Keeps (Go.loadCellsFrom a i n acc)
  | 0, i, acc => Keeps.pure _
  | n + 1, i, acc => Keeps.bind Keeps.load fun v => Keeps.loadCellsFrom n (i + 1) _
theorem Keeps.loadVar {t : TypeId} {a : Addr} : Keeps (Go.loadVar t a) := by
  unfold Go.loadVar
  refine Keeps.bind Keeps.isAgg fun b => ?_
  split
  · exact Keeps.bind Keeps.sizeOf fun n => Keeps.bind (Keeps.loadCellsFrom n 0 _) fun c => Keeps.pure _
  · exact Keeps.load
theorem Keeps.loadAt {t : TypeId} {v : Value} : Keeps (Instr.loadAt t v) := by
  unfold Instr.loadAt
  refine Keeps.bind ?_ fun a => Keeps.loadVar
  unfold Instr.sureAddr
  split
  · exact Keeps.pure _
  · exact Keeps.halt
def quietB (o : Oper) : Bool := match o.op with
  | .move _ => true
  | .assign _ => true
  | .load _ _ => true
  | _ => false
def Quiet (o : Oper) : Prop := ∀ (ρ : Operand → Value) (P : Program) (w : World) (x : Next) (w' : World), (execOp ρ o).run P w = .ok x w' → w' = w ∧ ∃ u, x = .value u
theorem quiet_of {o : Oper} (h : quietB o = true) : Quiet o := fun ρ P w x w' hr => by
  unfold quietB at h
  unfold execOp at hr
  split at h
  · rename_i y hy
    rw [hy] at hr
    simp only [Sem.run_pure] at hr
    cases hr; exact ⟨rfl, _, rfl⟩
  · rename_i y hy
    rw [hy] at hr
    simp only [Sem.run_pure] at hr
    cases hr; exact ⟨rfl, _, rfl⟩
  · rename_i t y hy
    rw [hy] at hr
    simp only [Sem.run_bind] at hr
    cases h1 : (Instr.loadAt t (ρ y)).run P w with
    | ok a w1 =>
      rw [h1] at hr
      simp only [Result.andThen_ok, Sem.run_pure] at hr
      cases hr
      exact ⟨Keeps.loadAt P w a w' h1, _, rfl⟩
    | halt c w1 => rw [h1] at hr; cases hr
  · cases h
def holdB (ops : Array Oper) (listed : Array Bool) (B : List Nat) (i : Nat) : Bool :=
  !B.contains i && (List.range ops.size).all fun k => match ops[k]? with
    | none => true
    | some ok => listed.getD k true || k == i || (bif B.contains k then quietB ok && (match ops[i]? with | some oi => oi.apart ops ok | none => false) else ok.after.any fun e => Region.binds .any e && (e.on == i || (!B.contains e.on && !listed.getD e.on true)))
def YieldsAt (P : Program) (ops : Array Oper) (o : Oper) (v : Value) (a : Act) (w : World) : Prop :=
  Region.wanted o (yielded ops a.tmps) = true ∧ (execOp a.eval o).run P w = .ok (.value v) w ∧ ∀ w, o.about P w a.eval = none
section
variable {F : Fence} {n : Nat} {P : Program} {ops : Array Oper} {Q : Exit → Act → World → Prop}
theorem YieldsAt.wpOpIn {i : Nat} {o : Oper} {v : Value} {a : Act} {w : World} (hro : F.round = none) (hi : ops[i]? = some o) (hy : YieldsAt P ops o v a w) {K : Act → World → Prop} (h : K (a.put o.dst v) w) : wpOpIn F n P ops Q i K a w := by
  unfold Go.wpOpIn
  simp only [hi]
  have hab : ∀ f, o.about P w a.eval = some f → F.fn f := fun f hf => by rw [hy.2.2 w] at hf; cases hf
  simp only [hy.1, if_true, Oper.wpIn, hro, Oper.semAt_none, hy.2.1, Oper.uponIn]
  exact ⟨hab, h⟩
theorem wpOpIn_putQ {j : Nat} {oi oj : Oper} {v : Value} (hro : F.round = none) (hj : ops[j]? = some oj) (hq : Quiet oj) (hap : oi.apart ops oj = true)
    (hsi : ∀ cs b, oi.op ≠ .select cs b) (hsj : ∀ cs b, oj.op ≠ .select cs b)
    (hQ : ∀ c a w, Q (.panic c) (a.put oi.dst v) w → Q (.panic c) a w) {K : Act → World → Prop} {a : Act} {w : World}
    (hy : YieldsAt P ops oi v a w) (h : wpOpIn F n P ops Q j K (a.put oi.dst v) w) :
    wpOpIn F n P ops Q j (fun a' w' => YieldsAt P ops oi v a' w' ∧ K (a'.put oi.dst v) w') a w := by
  obtain ⟨h1, h2, h3⟩ := Oper.apart_spec hap
  have keep : ∀ u, YieldsAt P ops oi v (a.put oj.dst u) w := fun u =>
    ⟨by rw [wanted_put oi a oj.dst u h3]; exact hy.1, by rw [execOp_put oi hsi a oj.dst u h3]; exact hy.2.1, fun w => by rw [about_put oi w a oj.dst u h3]; exact hy.2.2 w⟩
  unfold Go.wpOpIn at *
  simp only [hj] at *
  rw [wanted_put oj a oi.dst v h1, about_put oj w a oi.dst v h1] at h
  split
  · rename_i hw
    simp only [hw, if_true] at h
    unfold Oper.wpIn at *
    rw [about_put oj w a oi.dst v h1] at h
    refine ⟨h.1, ?_⟩
    have h := h.2
    rw [hro, Oper.semAt_none, execOp_put oj hsj a oi.dst v h1] at h
    rw [hro, Oper.semAt_none]
    cases hr : (execOp a.eval oj).run P w with
    | ok x w' =>
      obtain ⟨rfl, u, rfl⟩ := hq _ _ _ _ _ hr
      rw [hr] at h
      simp only [Oper.uponIn] at h ⊢
      exact ⟨keep u, by rw [← Act.put_comm a v u h2]; exact h⟩
    | halt x w' =>
      rw [hr] at h
      cases x <;> simp only [Oper.uponIn] at h ⊢
      case panic u => exact hQ _ _ _ h
  · rename_i hw
    simp only [hw] at h
    exact ⟨h.1, keep _, by rw [← Act.put_comm a v undef h2]; exact h.2⟩
theorem wpAnyIn_firstQ {i : Nat} {oi : Oper} {v : Value} {B : List Nat} {L0 : Array Bool} (hro : F.round = none) (hi : ops[i]? = some oi) (hsel : ∀ (j : Nat) (o : Oper) cs b, ops[j]? = some o → o.op ≠ .select cs b)
    (hQ : ∀ c a w, Q (.panic c) (a.put oi.dst v) w → Q (.panic c) a w) (hiB : i ∉ B) (hi0 : L0.getD i true = false)
    (hk : ∀ k ok, ops[k]? = some ok → L0.getD k true = false → k ≠ i → (k ∈ B ∧ Quiet ok ∧ oi.apart ops ok = true) ∨ (k ∉ B ∧ ∃ e ∈ ok.after, Region.binds .any e = true ∧ (e.on = i ∨ (e.on ∉ B ∧ L0.getD e.on true = false)))) :
    ∀ (fuel : Nat) (listed : Array Bool) (a : Act) (w : World), (∀ k, k ∉ B → L0.getD k true = false → listed.getD k false = false ∧ listed.getD k true = false) → (∀ k, L0.getD k true = true → listed.getD k true = true) →
      i ∈ Region.ready .any ops listed → YieldsAt P ops oi v a w →
      wpAnyIn F n P .any ops Q fuel (listed.setIfInBounds i true) (a.put oi.dst v) w → wpAnyIn F n P .any ops Q (fuel + 1) listed a w := by
  have inB : ∀ (listed : Array Bool) (j : Nat), (∀ k, k ∉ B → L0.getD k true = false → listed.getD k false = false ∧ listed.getD k true = false) → (∀ k, L0.getD k true = true → listed.getD k true = true) → j ∈ Region.ready .any ops listed → j ≠ i →
      ∃ oj, ops[j]? = some oj ∧ j ∈ B ∧ Quiet oj ∧ oi.apart ops oj = true := fun listed j hs1 hs2 hj hji => by
    obtain ⟨hjun, oj, hoj, hall⟩ := mem_ready.1 hj
    have h0 : L0.getD j true = false := by
      cases hc : L0.getD j true with
      | false => rfl
      | true => rw [hs2 j hc] at hjun; cases hjun
    rcases hk j oj hoj h0 hji with ⟨h1, h2, h3⟩ | ⟨h1, e, he, hb, hor⟩
    · exact ⟨oj, hoj, h1, h2, h3⟩
    · have h4 := hall e he hb
      rcases hor with h5 | ⟨h5, h6⟩
      · rw [h5, (hs1 i hiB hi0).1] at h4; cases h4
      · rw [(hs1 e.on h5 h6).1] at h4; cases h4
  intro fuel
  induction fuel with
  | zero =>
    intro listed a w hs1 hs2 hr hy H
    refine ⟨fun h => (by rw [h] at hr; cases hr), fun j hj => ?_⟩
    by_cases hji : j = i
    · subst hji; exact hy.wpOpIn hro hi H
    · have := ready_mono hj hji
      rw [H.1] at this
      cases this
  | succ fuel ih =>
    intro listed a w hs1 hs2 hr hy H
    refine ⟨fun h => (by rw [h] at hr; cases hr), fun j hj => ?_⟩
    by_cases hji : j = i
    · subst hji; exact hy.wpOpIn hro hi H
    · obtain ⟨oj, hoj, hjB, hq, hap⟩ := inB listed j hs1 hs2 hj hji
      have h1 := H.2 j (ready_mono hj hji)
      have h2 := wpOpIn_putQ hro hoj hq hap (fun cs b => hsel i oi cs b hi) (fun cs b => hsel j oj cs b hoj) hQ hy h1
      refine wpOpIn_mono (fun a' w' h3 => ih (listed.setIfInBounds j true) a' w' (fun k hkB hk0 => ?_) (fun k hk0 => ?_) (ready_mono hr (Ne.symm hji)) h3.1 ?_) h2
      · have hjk : j ≠ k := fun h => hkB (h ▸ hjB)
        rw [getD_set_ne false hjk, getD_set_ne true hjk]
        exact hs1 k hkB hk0
      · by_cases hjk : j = k
        · subst hjk
          rcases Nat.lt_or_ge j listed.size with h' | h'
          · simp [h']
          · simp [Array.getElem?_eq_none h']
        · rw [getD_set_ne true hjk]; exact hs2 k hk0
      · rw [Array.setIfInBounds_comm _ _ hji]
        exact h3.2
end
section
variable {P : Program} {ops : Array Oper} {Q : Exit → Act → World → Prop} {n fuel i d : Nat} {D : List Deferred} {e : Env} {w : World} {listed : Array Bool} {o : Oper} {v : Value}
theorem getD_ff {l : Array Bool} {k : Nat} (h : l.getD k true = false) : l.getD k false = false := by
  rcases Nat.lt_or_ge k l.size with h' | h'
  · simp [h'] at h ⊢; exact h
  · simp [Array.getElem?_eq_none h'] at h
theorem WA.takeM (B : List Nat) (ho : ops[i]? = some o) (hs : Region.noSelect ops = true) (hk : holdB ops listed B i = true) (hr : (Region.ready .any ops listed).contains i = true) (hx : Ex P o e w v w) (hw : Wn ops n D e o) (hd : o.dst = some d) (hn : Nat.blt d n = true)
    (hab : ∀ w ρ, o.about P w ρ = none) (k : WA none P ops Q n D fuel (listed.setIfInBounds i true) ((d, v) :: e) w) : WA none P ops Q n D (fuel + 1) listed e w := fun a ha => by
  unfold holdB at hk
  rw [Bool.and_eq_true] at hk
  have hiB : i ∉ B := by simpa using hk.1
  have hr' : i ∈ Region.ready .any ops listed := by simpa using hr
  have hi0 := (mem_ready.1 hr').1
  refine wpAnyIn_firstQ (F := Wd none) (B := B) (L0 := listed) rfl ho (Region.noSelect_spec hs) (fun _ _ _ h => noP_put h) hiB hi0 (fun j oj hj h0 hji => ?_) fuel listed a w (fun k _ h0 => ⟨getD_ff h0, h0⟩) (fun k h => h) hr' ⟨hw a ha, hx.2 _ ha.fits, fun w => hab w _⟩ ?_
  · have hlt : j < ops.size := (Array.getElem?_eq_some_iff.1 hj).1
    have := List.all_eq_true.1 hk.2 j (List.mem_range.2 hlt)
    rw [hj] at this
    simp only [h0, Bool.false_or, Bool.or_eq_true, beq_iff_eq, hji, false_or] at this
    cases hB : B.contains j with
    | true =>
      rw [hB, cond_true, ho, Bool.and_eq_true] at this
      exact .inl ⟨by simpa using hB, quiet_of this.1, this.2⟩
    | false =>
      rw [hB, cond_false] at this
      obtain ⟨ed, h1, h2⟩ := Array.any_eq_true'.1 this
      simp only [Bool.and_eq_true, Bool.or_eq_true, beq_iff_eq, Bool.not_eq_true'] at h2
      refine .inr ⟨by simpa using hB, ed, h1, h2.1, ?_⟩
      rcases h2.2 with h3 | ⟨h3, h4⟩
      · exact .inl h3
      · exact .inr ⟨by simpa using h3, h4⟩
  · rw [hd]
    exact k _ (ha.put (Nat.le_of_ble_eq_true hn) v)
end
end Go.Ph
end
section
namespace Go.Ph
open Go Go.RowKit
namespace Pl
def runL {σ α : Type} (Y : σ → α → Option (σ × Bool)) : List α → σ → Option σ
  | [], s => some s
  | x :: xs, s => (Y s x).bind fun r => if r.2 = true then runL Y xs r.1 else some r.1
end Pl
open Pl
def Thru {σ α : Type} (Y : σ → α → Option (σ × Bool)) : List α → σ → σ → Prop
  | [], s, s1 => s1 = s
  | x :: xs, s, s1 => ∃ s2, Y s x = some (s2, true) ∧ Thru Y xs s2 s1
theorem Thru.run {σ α : Type} {Y : σ → α → Option (σ × Bool)} : ∀ {pre rest : List α} {s s1 : σ}, Thru Y pre s s1 → runL Y (pre ++ rest) s = runL Y rest s1
  | [], rest, s, s1, h => by cases h; rfl
  | x :: xs, rest, s, s1, ⟨s2, h1, h2⟩ => by
    rw [List.cons_append, runL, h1]
    exact h2.run
structure ItS {α : Type} (P : Program) (f : FuncId) (cap : List Value) (A : List Item) (Pre : Mem → Prop) (enc : α → Value) (run : (σ : Type) → (σ → α → Option (σ × Bool)) → σ → Option σ) : Prop where
  enters : ∀ ar w, (callFunc f ar).run P w = .ok (.enter f ar) w
  calls : ∀ (l : Nat) (σ : Type) (Y : σ → α → Option (σ × Bool)) (Z : σ → List Item → Mem → Prop), (∀ s L M M', Z s L M → M.le M' → Z s L M') →
    (∀ s x s' b L w M, Y s x = some (s', b) → Z s L M → StX (feet L) w M M L w → YieldAt (Wd none) 0 P l #[enc x] w fun e w' => ∃ M' L', StX (feet L) w M M' L' w' ∧ e = .returned (.bool b) ∧ Z s' L' M') →
    ∀ s s' L w M, run σ Y s = some s' → Z s L M → StX (feet (A ++ L)) w M M (A ++ L) w → Pre M →
    Calls P f (yv l :: cap).toArray w fun e w' => ∃ r M' L', e = .returned r ∧ StX (feet (A ++ L)) w M M' L' w' ∧ Z s' L' M'
section
variable {C : Nat → Prop} {r : Option Nat} {P : Program} {ops : Array Oper} {Q : Exit → Act → World → Prop} {n : Nat} {D : List Deferred} {rest : List Oper} {e : Env} {w0 w : World} {M0 M : Mem} {L B : List Item} {d : Nat}
  {x y : Operand} {ty t ts t' : TypeId} {pos : String} {af : Array Edge} {g : Option (Nat × Bool)} {α σ : Type} {enc : α → Value}
variable {lid : Nat} {rc : LoopState → Option Code → Loop} {Z : σ → List Item → Mem → Prop} {E : σ → Option Code} {s : σ} {w1 : World} {M1 : Mem} {Lh L0 : List Item}
variable {fn : Func} {R : Value → Mem → Prop} {v v1 v2 v3 : Value} {x1 x2 x3 : ResultVar} {Dm : Nat} {L' : List Item}
end
end Go.Ph
end
section
namespace Go.Ph
open Go Go.RowKit Pl
theorem CtX.of {P : Program} {f : FuncId} {fn : Func} {c : Code} {args : List Value} {A : List Item} {Pre : Mem → Prop} {R : Value → Mem → List Item → Prop} {n : Nat}
    (hf : P.funcs[f]? = some fn) (hen : ∀ ar w, (callFunc f ar).run P w = .ok (.enter f ar) w) (hb : fn.body = some c) (hnt : fn.ntmps = n) (hn : Nat.ble args.length n = true)
    (h : ∀ w M, StX (feet A) w M M A w → Pre M → WC none P (bodyPost P fn (RetX A w M R)) n [] c (envOf 0 args) w) : CtX P f args A Pre R :=
  ⟨hen, fun w M ha hp => calls_of_WC hf hb hnt hn (h w M ha hp)⟩
section
variable {C : Nat → Prop} {r : Option Nat} {P : Program} {ops : Array Oper} {Q : Exit → Act → World → Prop} {n : Nat} {D : List Deferred} {rest : List Oper} {e : Env} {w0 w : World} {M0 M : Mem} {L L' A B : List Item} {d : Nat} {v v1 v2 v3 v4 u z : Value}
  {x y : Operand} {ty t t' te ts tt : TypeId} {pos : String} {af : Array Edge} {g : Option (Nat × Bool)} {dst : Option Tmp}
theorem WR.callX {f : FuncId} {ar : List Operand} {vs : List Value} {tys : Array TypeId} {Pre : Mem → Prop} {R : Value → Mem → List Item → Prop} (H : StX C w0 M0 M L w) (hs : CtX P f vs A Pre R) (hspl : Spl L A B) (ha : evs e ar = some vs) (hp : Pre M)
    (hw : Wn ops n D e ⟨some d, .call ⟨.value (.func f), ar.toArray, tys⟩, ty, pos, af, g⟩) (hn : Nat.blt d n = true)
    (k : ∀ v M' w' its, StX C w0 M0 M' (its ++ B) w' → M.le M' → R v M' its → WR r P ops Q n D rest ((d, v) :: e) w') :
    WR r P ops Q n D (⟨some d, .call ⟨.value (.func f), ar.toArray, tys⟩, ty, pos, af, g⟩ :: rest) e w := by
  intro a hsat
  unfold wpListIn
  rw [if_pos (hw a hsat)]
  refine ⟨fun _ _ => trivial, ?_⟩
  rw [Oper.semAt_eq _ _ _ (fun c h => by cases h)]
  have hv : ar.map a.eval = vs := hsat.fits.evs ha
  have hf : a.eval (.func f) = .func (.func f) #[] #[] := rfl
  have hrun : (execOp a.eval ⟨some d, .call ⟨.value (.func f), ar.toArray, tys⟩, ty, pos, af, g⟩).run P w = .ok (.enter f vs.toArray) w := by
    simp only [execOp, resolve, hf, Deferred.ofValue, Sem.run_bind, Sem.run_pure, Result.andThen_ok, invoke, List.map_toArray, hv, Array.append_empty, Array.empty_append, hs.enters]
  rw [hrun, Oper.uponIn_enter]
  refine ⟨fun h => (by cases h), callsIn_Wd.2 ((hs.calls w M (H.hand hspl) hp).mono ?_)⟩
  rintro en w' ⟨rv, M', its, rfl, hx, hR⟩
  exact k rv M' w' its (H.back hspl hx) hx.ext.le hR _ (hsat.put (Nat.le_of_ble_eq_true hn) rv)
section ret
variable {fn : Func} {R : Value → Mem → List Item → Prop} {its : List Item} {x1 x2 x3 x4 : ResultVar}
theorem WQ.endX0 (hr : fn.results = #[]) (H : StX (feet A) w0 M0 M L w) (hp : Pick L its) (hR : R (.tuple #[]) M its) : WQ (bodyPost P fn (RetX A w0 M0 R)) .normal n [] e w :=
  fun a ha => ⟨ha.defers, .tuple #[], by simp [results, hr], _, M, its, rfl, H.pick hp, hR⟩
theorem WQ.retX1 (hr : fn.results = #[x1]) (h1 : resv P w e x1 v1) (H : StX (feet A) w0 M0 M L w) (hp : Pick L its) (hR : R v1 M its) : WQ (bodyPost P fn (RetX A w0 M0 R)) .ret n [] e w :=
  fun a ha => ⟨ha.defers, v1, by rw [results_eq, hr]; exact run_res1 _ (resv_run ha h1), _, M, its, rfl, H.pick hp, hR⟩
theorem WQ.retX2 (hr : fn.results = #[x1, x2]) (h1 : resv P w e x1 v1) (h2 : resv P w e x2 v2) (H : StX (feet A) w0 M0 M L w) (hp : Pick L its) (hR : R (.tuple #[v1, v2]) M its) : WQ (bodyPost P fn (RetX A w0 M0 R)) .ret n [] e w :=
  fun a ha => ⟨ha.defers, .tuple #[v1, v2], by rw [results_eq, hr]; exact run_res2 _ (resv_run ha h1) (resv_run ha h2), _, M, its, rfl, H.pick hp, hR⟩
end ret
end
end Go.Ph
end
section
namespace Go.Ph
open Go Go.RowKit Pl
def BPM (M : Mem) (b : Nat) (p : Value) : Prop := p = .pointer none ∨ p = ptr b 0
theorem BPM.mono {M M' : Mem} {b : Nat} {p : Value} (h : BPM M b p) (_ : M.le M') : BPM M' b p := h
theorem BPM.nil {M : Mem} {b : Nat} : BPM M b (.pointer none) := .inl rfl
theorem BPM.self {M : Mem} {b : Nat} : BPM M b (ptr b 0) := .inr rfl
def SDat (v : Value) (l : List UInt8) (q : Value) : Prop := ∃ a, q = .pointer a ∧ (l ≠ [] → ∃ g cp, v = .slice (some ⟨g, 0, none⟩) l.length cp ∧ a = some ⟨g, 0, none⟩)
section
variable {C : Nat → Prop} {r : Option Nat} {P : Program} {ops : Array Oper} {Q : Exit → Act → World → Prop} {n : Nat} {D : List Deferred} {rest : List Oper} {e : Env} {w0 w : World} {M0 M : Mem} {L L' A B : List Item} {d : Nat} {v q u z : Value}
  {x y : Operand} {ty t t' te ts tt pt : TypeId} {pos : String} {af : Array Edge} {g : Option (Nat × Bool)} {l : List UInt8}
theorem Ex.builtinSD {w' : World} (hx : ev e x = some v) (hr : (Builtin.unsafeSliceData_ #[ts] ty #[v]).run P w = .ok q w') : Ex P ⟨some d, .call ⟨.builtin .unsafeSliceData, #[x], #[ts]⟩, ty, pos, af, g⟩ e w q w' :=
  ⟨nofun, fun ρ hf => by
    have h1 := hf _ _ hx
    simp [execOp, resolve, h1, invoke, hr, go_sem]⟩
theorem WR.sliceData (hp : P.underlying ty = some (.pointer t)) (H : StX C w0 M0 M L w) (hm : RowI t encB v l ∈ L) (hx : ev e x = some v)
    (hw : Wn ops n D e ⟨some d, .call ⟨.builtin .unsafeSliceData, #[x], #[ts]⟩, ty, pos, af, g⟩) (hn : Nat.blt d n = true)
    (k : ∀ q w', StX C w0 M0 M L w' → SDat v l q → WR r P ops Q n D rest ((d, q) :: e) w') :
    WR r P ops Q n D (⟨some d, .call ⟨.builtin .unsafeSliceData, #[x], #[ts]⟩, ty, pos, af, g⟩ :: rest) e w := by
  rcases (H.rowOf hm).2 with ⟨hv, hn0⟩ | ⟨gg, cap, cur, hv, hg0, hg, hrest⟩
  · subst hv
    refine WR.run (Ex.builtinSD hx (Lib.run_unsafeSliceData_nil _ _ _ _ _)) hw rfl hn (k _ _ H ⟨none, rfl, fun h => ?_⟩)
    exact absurd (List.eq_nil_of_length_eq_zero hn0) h
  · subst hv
    by_cases hc : cap = 0
    · subst hc
      refine WR.run (Ex.builtinSD hx (Lib.run_unsafeSliceData_zero _ _ _ t hp ⟨gg, 0, none⟩ _ (t, cur.size) (by simp [World.shape?, hg]))) hw rfl hn (k _ _ (H.grow (grownBy_alloc' _ _)) ⟨_, rfl, fun h => ?_⟩)
      have : l.length ≠ 0 := by simpa using h
      have h1 := hrest.1
      omega
    · exact WR.run (Ex.builtinSD hx (Lib.run_unsafeSliceData_row _ _ _ _ _ _ hc)) hw rfl hn (k _ _ H ⟨_, rfl, fun _ => ⟨gg, cap, rfl, rfl⟩⟩)
theorem Ex.builtinUS {w' : World} (hx : ev e x = some q) (hy : ev e y = some z) (hr : (Builtin.unsafeString_ #[pt, tt] ty #[q, z]).run P w = .ok v w') : Ex P ⟨some d, .call ⟨.builtin .unsafeString, #[x, y], #[pt, tt]⟩, ty, pos, af, g⟩ e w v w' :=
  ⟨nofun, fun ρ hf => by
    have h1 := hf _ _ hx
    have h2 := hf _ _ hy
    simp [execOp, resolve, h1, h2, invoke, hr, go_sem]⟩
theorem grownBy_freeze (w : World) (gg k : Nat) : w.grownBy (w.freeze ⟨gg, 0, none⟩ k) (some gg) := by
  unfold World.freeze
  split
  · exact ⟨rfl, rfl, rfl, Nat.le_refl _, fun _ _ _ => rfl⟩
  · refine ⟨rfl, rfl, rfl, by simp, fun k _ hk => ?_⟩
    simp only [Array.getElem?_modify]
    rw [if_neg]
    intro h; exact hk (by rw [← h])
theorem StX.turn {it : Item} {w' : World} (H : StX C w0 M0 M L w) (hr : Rem L it L') (hg : w.grownBy w' it.foot) : StX C w0 M0 M L' w' := by
  have hit := H.own _ hr.mem
  refine ⟨H.ext.grown hg (fun b hb => hit.2 b hb), fun x hx => ?_, H.sep.sublist hr.sublist⟩
  have h2 := H.own x (hr.sublist.subset hx)
  refine ⟨h2.1.kept (fun b hb => hg.block b (h2.1.lt b hb) (fun he => ?_)), h2.2⟩
  exact hr.pairs (R := Apart) (fun x y h => h.symm) H.sep x hx b he.symm hb
theorem WR.unsafeStr (hp : P.underlying pt = some (.pointer t)) (hc : P.cellsOf t = 1) (H : StX C w0 M0 M L w) (hr : Rem L (RowI t encB v l) L') (hq : SDat v l q) (hx : ev e x = some q) (hy : ev e y = some (I l.length))
    (hw : Wn ops n D e ⟨some d, .call ⟨.builtin .unsafeString, #[x, y], #[pt, tt]⟩, ty, pos, af, g⟩) (hn : Nat.blt d n = true)
    (k : ∀ w', StX C w0 M0 M L' w' → WR r P ops Q n D rest ((d, S l) :: e) w') :
    WR r P ops Q n D (⟨some d, .call ⟨.builtin .unsafeString, #[x, y], #[pt, tt]⟩, ty, pos, af, g⟩ :: rest) e w := by
  obtain ⟨a, rfl, hq⟩ := hq
  by_cases hl : l = []
  · subst hl
    exact WR.run (Ex.builtinUS hx hy (Lib.run_unsafeString_none _ _ _ _ _)) hw rfl hn (k _ (H.drop hr.sublist))
  · obtain ⟨gg, cp, rfl, rfl⟩ := hq hl
    have hown := H.rowOf hr.mem
    rcases hown.2 with ⟨hv, _⟩ | ⟨g2, cap, cur, hv, hg0, hg, hrest⟩
    · cases hv
    · cases hv
      have h63 : l.length ≤ 9223372036854775807 := by have h1 := hrest.1; have h2 := hrest.2.1; unfold maxLen at h2; omega
      have hcur : cur.size = cp * 1 := hrest.2.2.1
      have hrun := Lib.run_unsafeString_row (P := P) w pt tt ty t hp hc gg cur.size (by simp [World.shape?, hg]) l hl (by have h1 := hrest.1; omega) h63 (fun j x hx => by
        have htake := hrest.2.2.2
        have h1 : (cur.toList.take (l.length * 1))[j]? = some (encB x) := by rw [htake, List.getElem?_map, hx]; rfl
        have hj : j < l.length := (List.getElem?_eq_some_iff.1 hx).1
        rw [Addr.add_lit, Nat.zero_add, Lib.cell_of_heap hg]
        rw [List.getElem?_take, if_pos (by omega)] at h1
        simpa using h1)
      exact WR.run (Ex.builtinUS hx hy hrun) hw rfl hn (k _ (H.turn hr (grownBy_freeze w gg _)))
end
structure ZH {σ : Type} (Z : σ → List Item → Mem → Prop) (s : σ) (L : List Item) (M : Mem) : Prop where
  z : Z s L M
  m : ∀ s L M M', Z s L M → M.le M' → Z s L M'
theorem ZH.mono {σ : Type} {Z : σ → List Item → Mem → Prop} {s : σ} {L : List Item} {M M' : Mem} (h : ZH Z s L M) (hl : M.le M') : ZH Z s L M' := ⟨h.m _ _ _ _ h.z hl, h.m⟩
end Go.Ph
end
section
namespace Go.Ph
open Go Go.RowKit
namespace Pl
end Pl
open Pl
theorem Pick.skip {L L' : List Item} {x : Item} (h : Pick L L') : Pick (x :: L) L' := by
  induction h with
  | nil => exact .nil
  | cons h _ ih => exact .cons (.tail h) ih
def AIn : List Item → List Item → Prop
  | [], _ => True
  | .blk b _ :: r, L => (∃ o', Item.blk b o' ∈ L) ∧ AIn r L
  | _ :: _, _ => False
section
variable {C : Nat → Prop} {w0 w : World} {M0 M : Mem} {L L' A : List Item} {it : Item} {t : TypeId} {v : Value}
theorem feet_ain (H : StX C w0 M0 M L w) (hr : Rem L it L') {g : Nat} (hg : it.foot = some g) : ∀ {A : List Item}, AIn A L' → ¬ feet A g
  | [], _ => by rintro ⟨x, hx, _⟩; cases hx
  | .blk b o :: r, ⟨⟨o', hm⟩, h2⟩ => by
    rintro ⟨x, hx, hxg⟩
    rcases List.mem_cons.1 hx with rfl | hx
    · exact hr.pairs (R := Apart) (fun x y h => h.symm) H.sep _ hm g hg hxg
    · exact feet_ain H hr hg h2 ⟨x, hx, hxg⟩
  | .row _ _ _ _ _ :: _, h => h.elim
theorem StX.fresh (H : StX (feet A) w0 M0 M L w) (hr : Rem L it L') (hA : AIn A L') {g : Nat} (hg : it.foot = some g) : w0.heap.size ≤ g :=
  ((H.own _ hr.mem).2 g hg).2.resolve_right (feet_ain H hr hg hA)
theorem StX.freezeRowN {α : Type} {enc : α → Value} {l : List α} (H : StX (feet A) w0 M0 M L w) (hr : Rem L (RowI t enc v l) L') (hA : AIn A L') : ∃ M', M.le M' ∧ Sl M' enc v l ∧ StX (feet A) w0 M0 M' L' w :=
  H.freezeRowX hr (fun g hg => feet_ain H hr hg hA)
theorem StX.freezeVarN {b : Nat} {cs : Array Value} (H : StX (feet A) w0 M0 M L w) (hr : Rem L (.blk b (.cells cs t)) L') (hA : AIn A L') : ∃ M', M.le M' ∧ PtM M' b (.cells cs t) ∧ StX (feet A) w0 M0 M' L' w := by
  have hb := H.blk hr.mem
  obtain ⟨h1, h2⟩ := H.freeze hr rfl hb (H.fresh hr hA rfl)
  exact ⟨_, h1, by simp [PtM, Mem.set], h2⟩
theorem StX.freezeSCN {gb cap nn : Nat} {l : List UInt8} (H : StX (feet A) w0 M0 M L w) (hr : Rem L (SRow gb cap t l) L') (h : SOK M l nn cap) (hA : AIn A L') : ∃ M', M.le M' ∧ Bs M' (.slice (some ⟨gb, 0, none⟩) nn cap) l ∧ StX (feet A) w0 M0 M' L' w := by
  obtain ⟨rfl, h1, h2⟩ := h
  exact H.freezeS hr (H.fresh hr hA rfl) h1 h2
end
section
variable {C : Nat → Prop} {r : Option Nat} {P : Program} {ops : Array Oper} {Q : Exit → Act → World → Prop} {n : Nat} {D : List Deferred} {rest : List Oper} {e : Env} {w0 w : World} {M0 M : Mem} {L L' A B Lc : List Item} {d : Nat} {v v1 v2 : Value}
  {x y : Operand} {ty t t' ts : TypeId} {pos : String} {af : Array Edge} {g : Option (Nat × Bool)} {α σ : Type} {enc : α → Value}
def AtP (v : Value) (kk : Nat) (i : Int) (nn b o : Nat) : Prop := ∃ B c, v = .slice (some ⟨b, B, none⟩) nn c ∧ o = B + i.toNat * kk ∧ 0 ≤ i ∧ i < (nn : Int)
theorem Sl.atC {l : List α} {i : Int} {a : α} (h : Sl M enc v l) (hi : idx l i = some a) : ∃ b o, AtP v 1 i l.length b o ∧ CellM M ⟨b, o, none⟩ (enc a) := by
  obtain ⟨h0, hc⟩ := idx_some hi
  obtain ⟨b, o, c, rfl, hm⟩ := h.addr hc
  have hlt := (List.getElem?_eq_some_iff.1 hc).1
  exact ⟨b, o + i.toNat, ⟨o, c, rfl, by omega, h0, by omega⟩, hm⟩
theorem SlS.atC {kk : Nat} {encS : α → List Value} {l : List α} {i : Int} {a : α} (h : SlS M kk encS v l) (hi : idx l i = some a) : ∃ b o, AtP v kk i l.length b o ∧ CellsM M ⟨b, o, none⟩ (encS a) := by
  obtain ⟨h0, hc⟩ := idx_some hi
  obtain ⟨_, A, c, rfl, h1, h2, h3⟩ := h
  have hlt := (List.getElem?_eq_some_iff.1 hc).1
  obtain ⟨b, o, cs, t0, fz, rfl, e2, e3⟩ := h3 (by rintro rfl; simp at hc)
  exact ⟨b, o + i.toNat * kk, ⟨o, c, rfl, rfl, h0, by omega⟩, rfl, cs, t0, fz, e2, fun j u hj => e3 i.toNat a hc j u hj⟩
theorem Ex.idxAt {dst : Option Tmp} {kk nn b o : Nat} {i : Int} {k' : IntKind} (h : AtP v kk i nn b o) (ht : P.underlying t = some (.slice t')) (hz : ∀ w, (sizeOf t').run P w = .ok kk w) (hx : ev e x = some v) (hy : ev e y = some (.int k' i)) :
    Ex P ⟨dst, .indexAddr t x y, ty, pos, af, g⟩ e w (ptr b o) w := by
  obtain ⟨B, c, rfl, rfl, h0, h1⟩ := h
  refine ⟨nofun, fun ρ hfi => ?_⟩
  simp only [execOp, hfi _ _ hx, hfi _ _ hy, Instr.indexAt, Sem.run_bind, asIntOf, run_underlying ht, Result.andThen_ok, Sem.run_pure, hz, h0, h1, and_self, if_true, Addr.add_lit, Int.toNat_natCast]
def RetZ (C : Nat → Prop) (Z : σ → List Item → Mem → Prop) (s' : σ) (w : World) (M : Mem) (e : Ending) (w' : World) : Prop := ∃ r M' L', e = .returned r ∧ StX C w M M' L' w' ∧ Z s' L' M'
theorem ItS.of {f : FuncId} {fn : Func} {c : Code} {cap : List Value} {Pre : Mem → Prop} {run : (σ : Type) → (σ → α → Option (σ × Bool)) → σ → Option σ}
    (hf : P.funcs[f]? = some fn) (hen : ∀ ar w, (callFunc f ar).run P w = .ok (.enter f ar) w) (hb : fn.body = some c) (hnt : fn.ntmps = n) (hn : Nat.ble (cap.length + 1) n = true)
    (h : ∀ (l : Nat) (σ : Type) (Y : σ → α → Option (σ × Bool)) (Z : σ → List Item → Mem → Prop) (C : Nat → Prop),
      (∀ s x s' b L w M, Y s x = some (s', b) → Z s L M → StX (feet L) w M M L w → YieldAt (Wd none) 0 P l #[enc x] w fun e w' => ∃ M' L', StX (feet L) w M M' L' w' ∧ e = .returned (.bool b) ∧ Z s' L' M') →
      ∀ s s' L w M, run σ Y s = some s' → ZH Z s L M → StX C w M M (A ++ L) w → Pre M → WC none P (bodyPost P fn (RetZ C Z s' w M)) n [] c (envOf 0 (yv l :: cap)) w) : ItS P f cap A Pre enc run :=
  ⟨hen, fun l σ Y Z hZ hY s s' L w M hrun hz H hp => calls_of_WC (args := yv l :: cap) hf hb hnt hn (h l σ Y Z _ hY s s' L w M hrun ⟨hz, hZ⟩ H hp)⟩
end
section chk
variable {C : Nat → Prop} {P : Program} {e : Env} {w0 w : World} {M0 M : Mem} {L : List Item} {x y : Operand} {ty t t' te T : TypeId} {pos : String} {af : Array Edge} {g : Option (Nat × Bool)} {dst : Option Tmp} {a : Addr} {j : TypeInfo} {v : Value}
theorem Ex.ptrNil {p : Option Addr} (ht : P.underlying t = some (.pointer te)) (hx : ev e x = some (.pointer p)) : Ex P ⟨dst, .binOp .eql t x (.const (.pointer none)) t', ty, pos, af, g⟩ e w (.bool p.isNone) w :=
  ⟨nofun, fun ρ hf => by
    have h1 := hf _ _ hx
    have h2 : ρ (.const (.pointer none)) = .pointer none := hf _ _ rfl
    have h3 : P.underlying t = some (.pointer (P.pointee t)) := by simp [Program.pointee, ht]
    simp [execOp, h1, h2, eqGuard, run_eql_pointer_nil w t p h3]⟩
theorem Ex.ptrNeqSame (hp : P.underlying t = some (.pointer te)) (hte : P.info? te = some j) (hx : ev e x = some (.pointer (some a))) (hy : ev e y = some (.pointer (some a))) : Ex P ⟨dst, .binOp .neq t x y t', ty, pos, af, g⟩ e w (.bool false) w :=
  ⟨nofun, fun ρ hf => by
    have h1 := hf _ _ hx
    have h2 := hf _ _ hy
    simp [execOp, h1, h2, eqGuard, Lib.run_neq_ptr_same w a hp hte]⟩
theorem Ex.toUnsafe {cells : Nat} (hs : P.underlying t = some (.pointer te)) (hd : P.underlying t' = some .unsafePointer) (ht : P.info? te = some j) (hj : j.size ≠ 0) (hsh : w.shape? a.block = some (T, cells)) (ho : a.off < cells) (hx : ev e x = some (.pointer (some a))) :
    Ex P ⟨dst, .convert t t' x, ty, pos, af, g⟩ e w (.pointer (some a)) w :=
  ⟨nofun, fun ρ hf => by
    have h1 := hf _ _ hx
    simp [execOp, h1, Lib.run_to_unsafe w a hs hd ht hj hsh ho]⟩
theorem Ex.fromUnsafe {cells : Nat} (hs : P.underlying t = some .unsafePointer) (hd : P.underlying t' = some (.pointer te)) (ht : P.info? te = some j) (hsh : w.shape? a.block = some (T, cells)) (hl : liesAt P P.depth T (cells / P.cellsOf T) a.off te 1 = true) (hx : ev e x = some (.pointer (some a))) :
    Ex P ⟨dst, .convert t t' x, ty, pos, af, g⟩ e w (.pointer (some a)) w :=
  ⟨nofun, fun ρ hf => by
    have h1 := hf _ _ hx
    simp [execOp, h1, Lib.run_from_unsafe w a hs hd ht hsh hl]⟩
theorem Ex.noEscape {f : FuncId} {fn : Func} {tys : Array TypeId} (hf : P.funcs[f]? = some fn) (hname : (fn.name == "runtime.NumGoroutine") = false) (hb : fn.body.isNone = true) (hn : Extern.findNext fn = none) (he : Extern.find fn = some Extern.AbiNoEscape.same)
    (hx : ev e x = some v) : Ex P ⟨dst, .call ⟨.value (.func f), #[x], tys⟩, ty, pos, af, g⟩ e w v w :=
  ⟨nofun, fun ρ hfi => by
    have h1 := hfi _ _ hx
    have h2 : ρ (.func f) = .func (.func f) #[] #[] := hfi _ _ rfl
    simp [execOp, resolve, h1, h2, Deferred.ofValue, invoke, run_callFunc_extern hf hname hb hn he, Lib.run_noEscape]⟩
end chk
end Go.Ph
end
section
namespace Go.Ph.Gr
open Go Go.Ph.Utf
structure RP (l : List UInt8) (i q : Nat) (o : List (List UInt8)) (fl : Nat) : Prop where
  place : q ≤ l.length
  rest : (chars l).drop i = chars (l.drop q)
  small : i ≤ q ∧ o.length ≤ i ∧ fl ≤ i
  len : o.flatten.length = q
  state : (i = 0 ∧ o = []) ∨ (0 < i ∧ ∃ done cur prev, ((chars l)[i - 1]?).map (·.1) = some prev ∧ o = done.map byts ++ [byts cur] ∧ segs (chars l) = done ++ seg cur prev fl (chars (l.drop q)))
theorem RP.start (l : List UInt8) : RP l 0 0 [] 0 := ⟨Nat.zero_le _, rfl, by simp, rfl, .inl ⟨rfl, rfl⟩⟩
section
variable {l : List UInt8} {i q fl : Nat} {o : List (List UInt8)}
theorem RP.more (h : RP l i q o fl) (hi : i < (chars l).length) : q < l.length ∧ (chars l)[i]? = some ((rune (l.drop q)).1, (l.drop q).take (rune (l.drop q)).2) ∧ (chars l).drop (i + 1) = chars (l.drop (q + (rune (l.drop q)).2)) := by
  have hq : q < l.length := by
    rcases Nat.lt_or_ge q l.length with h1 | h1
    · exact h1
    · have h2 := h.rest
      rw [List.drop_eq_nil_of_le h1, chars_nil] at h2
      have := List.drop_eq_nil_iff.1 h2
      omega
  have hc := chars_cons (drop_ne hq)
  have h3 := h.rest
  rw [hc, List.drop_eq_getElem_cons hi] at h3
  have h4 := List.cons.inj h3
  refine ⟨hq, by rw [List.getElem?_eq_getElem hi, h4.1], ?_⟩
  rw [h4.2, List.drop_drop]
theorem RP.news (h : RP l i q o fl) (hi : i < (chars l).length) (hc : i = 0 ∨ ∃ a, 0 < i ∧ ((chars l)[i - 1]?).map (·.1) = some a ∧ con a (rune (l.drop q)).1 fl = false) :
    RP l (i + 1) (q + (rune (l.drop q)).2) (o ++ [(l.drop q).take (rune (l.drop q)).2]) (flN (rune (l.drop q)).1 0) := by
  obtain ⟨hq, hget, hdrop⟩ := h.more hi
  have hrs := rune_size (l.drop q)
  have hrs3 := hrs.2.2 (drop_ne hq)
  rw [List.length_drop] at hrs3
  have hsm := h.small
  have hone : byts [((rune (l.drop q)).1, (l.drop q).take (rune (l.drop q)).2)] = (l.drop q).take (rune (l.drop q)).2 := by simp [byts]
  refine ⟨by omega, hdrop, ⟨by omega, by simp; omega, by unfold flN; split <;> omega⟩, by have hlen := h.len; simp [List.length_take, List.length_drop] at hlen ⊢; omega, .inr ⟨by omega, ?_⟩⟩
  rcases h.state with ⟨h0, ho⟩ | ⟨hp0, done, cur, prev, hp, ho, hs⟩
  · subst h0
    refine ⟨[], [((rune (l.drop q)).1, (l.drop q).take (rune (l.drop q)).2)], (rune (l.drop q)).1, by rw [Nat.add_sub_cancel, hget]; rfl, by rw [ho, hone]; rfl, ?_⟩
    have h1 := h.rest
    rw [List.drop_zero] at h1
    rw [h1, chars_cons (drop_ne hq), segs, List.drop_drop]; rfl
  · rcases hc with h0 | ⟨a, _, ha, hcf⟩
    · omega
    · rw [ha] at hp
      obtain rfl : a = prev := oI hp
      refine ⟨done ++ [cur], [((rune (l.drop q)).1, (l.drop q).take (rune (l.drop q)).2)], (rune (l.drop q)).1, by rw [Nat.add_sub_cancel, hget]; rfl, by rw [ho, hone]; simp, ?_⟩
      rw [hs, chars_cons (drop_ne hq), seg]
      simp only [hcf, Bool.false_eq_true, if_false, List.drop_drop, List.append_assoc, List.cons_append, List.nil_append]
end
end Go.Ph.Gr
end
section
namespace Go.Proofs.YtegkhjbajijidaaGreatDoor
open Go Go.RowKit Go.Ph
open Go.Ph.Gr Go.Ph.Utf
abbrev encN (n : Nat) : Value := I (n : Int)
theorem rune_spec (l : List UInt8) (i : Nat) (hi : i < l.length) (hs : l.length ≤ 4611686018427387904) : Ct Tryz.prog 47 [S l, encN i] (fun _ => True) (fun r _ => r = .tuple #[I (rune (l.drop i)).1, encN (rune (l.drop i)).2]) := by
  refine Ct.of Tryz.func47 (enters Tryz.func47 (by kernel_rfl) rfl) rfl rfl rfl ?_
  intro w0 M0 H hp
  obtain ⟨u, hu⟩ : ∃ u, l[i]? = some u := ⟨_, List.getElem?_eq_getElem hi⟩
  have hcu : nat (l.drop i) 0 = u.toNat := by rw [nat_drop]; exact nat_of hu
  have hult := u.toNat_lt
  refine SQ (RG (AS rfl rfl (AS rfl rfl (NL (TN (SQ (RG (MV rfl rfl (MV rfl rfl (ST (Ex.idxStr Tryz.underlying9 rfl rfl (hu)) rfl ?_))))))))))
  first | refine WR.step (Ex.convB Tryz.underlying5 Tryz.underlying3 rfl) (Wn.none rfl) rfl rfl ?_ | refine WR.step (Ex.convI Tryz.underlying5 Tryz.underlying3 rfl (by omega)) (Wn.none rfl) rfl rfl ?_
  refine AS rfl rfl (NL (TN (SQ (SQ (RG (MV rfl rfl ?_))))))
  refine WR.split (Ex.lss rfl rfl) (Wn.none rfl) rfl rfl (fun h2_1 => ?_) (fun h2_1 => ?_)
  · refine NL (TN (CT rfl (SQ (RG (MV rfl rfl (AS rfl rfl (AS rfl rfl (NL (TN (RT ?_))))))))))
    refine WQ.ret2 rfl rfl rfl H.ext ?_
    exact by rw [rune_ascii (by rw [hcu]; omega), hcu]; rfl
  · refine NL (TN (CF rfl (SK (TN (SQ (RG (AS rfl rfl (NL (TN (SQ (RG (AS rfl rfl (NL (TN (SQ (RG (AS rfl rfl (NL (TN ?_)))))))))))))))))))
    refine WC.cut3 (fun (s : Nat) (a : Nat) (m : Nat) => [(0, S l), (1, encN i), (7, encN s), (8, encN a), (9, encN m)]) (fun (s : Nat) (a : Nat) (m : Nat) w => kindOf u.toNat = (s, a, m) ∧ ∃ M, St w0 M0 M [] w) ?_ ?_
    · refine BL (SQ (RG (MV rfl rfl ?_)))
      refine WR.callB H (in_spec _ _ _) rfl (trivial) (Wn.none rfl) rfl (fun h7_1 => ?_) (fun h7_1 => ?_)
      · intro M w H hle
        refine AS rfl rfl (NL (TN (CT rfl (RG (MV rfl rfl (WR.stepE (v' := encN (u.toNat - 192)) (Ex.sub64 rfl rfl (by omega)) (congrArg I (by omega)) (Wn.none rfl) rfl rfl ?_))))))
        refine AS rfl rfl (AS rfl rfl (AS rfl rfl (NL (IB (WQ.meet3 (2) (u.toNat - 192) (128) ⟨rfl, rfl, rfl, rfl, rfl, trivial⟩ ?_)))))
        · exact ⟨by unfold kindOf; rw [if_pos (by omega)], M, H⟩
      · intro M w H hle
        refine AS rfl rfl (NL (TN (CF rfl (SQ (RG (MV rfl rfl ?_))))))
        refine WR.callB H (in_spec _ _ _) rfl (trivial) (Wn.none rfl) rfl (fun h9_1 => ?_) (fun h9_1 => ?_)
        · intro M w H hle
          refine AS rfl rfl (NL (TN (CT rfl (RG (MV rfl rfl (WR.stepE (v' := encN (u.toNat - 224)) (Ex.sub64 rfl rfl (by omega)) (congrArg I (by omega)) (Wn.none rfl) rfl rfl ?_))))))
          refine AS rfl rfl (AS rfl rfl (AS rfl rfl (NL (IB (WQ.meet3 (3) (u.toNat - 224) (2048) ⟨rfl, rfl, rfl, rfl, rfl, trivial⟩ ?_)))))
          · exact ⟨by unfold kindOf; rw [if_neg (by omega), if_pos (by omega)], M, H⟩
        · intro M w H hle
          refine AS rfl rfl (NL (TN (CF rfl (SQ (RG (MV rfl rfl ?_))))))
          refine WR.callB H (in_spec _ _ _) rfl (trivial) (Wn.none rfl) rfl (fun h11_1 => ?_) (fun h11_1 => ?_)
          · intro M w H hle
            refine AS rfl rfl (NL (TN (CT rfl (RG (MV rfl rfl (WR.stepE (v' := encN (u.toNat - 240)) (Ex.sub64 rfl rfl (by omega)) (congrArg I (by omega)) (Wn.none rfl) rfl rfl ?_))))))
            refine AS rfl rfl (AS rfl rfl (AS rfl rfl (NL (IB (WQ.meet3 (4) (u.toNat - 240) (65536) ⟨rfl, rfl, rfl, rfl, rfl, trivial⟩ ?_)))))
            · exact ⟨by unfold kindOf; rw [if_neg (by omega), if_neg (by omega), if_pos (by omega)], M, H⟩
          · intro M w H hle
            refine AS rfl rfl (NL (TN (CF rfl (SK (IB (WQ.meet3 (0) (0) (0) ⟨rfl, rfl, rfl, rfl, rfl, trivial⟩ ?_))))))
            · exact ⟨by unfold kindOf; rw [if_neg (by omega), if_neg (by omega), if_neg (by omega)], M, H⟩
    · intro s a m w
      rintro ⟨hk, M, H⟩
      have hkl := kindOf_lt hk (by omega)
      have hk2 : kindOf (nat (l.drop i) 0) = (s, a, m) := by rw [hcu]; exact hk
      have hnc : ¬ nat (l.drop i) 0 < 128 := by rw [hcu]; omega
      refine SQ (SQ (RG (MV rfl rfl ?_)))
      refine WR.split (Ex.eql rfl rfl) (Wn.none rfl) rfl rfl (fun h13_1 => ?_) (fun h13_1 => ?_)
      · refine MV rfl rfl (GT rfl rfl rfl (GT rfl rfl rfl (GT rfl rfl rfl (GT rfl rfl rfl (GT rfl rfl rfl (GT rfl rfl rfl (PT rfl rfl rfl (NL (TN (CT rfl (SQ (RG (AS rfl rfl (AS rfl rfl (NL (TN (RT ?_)))))))))))))))))
        refine WQ.ret2 rfl rfl rfl H.ext ?_
        exact by rw [rune_short hnc hk2 (by rw [List.length_drop]; omega)]; rfl
      · refine MV rfl rfl (SG (Ex.move rfl) rfl rfl rfl (SG (Ex.move rfl) rfl rfl rfl (SG (Ex.add64 rfl rfl (by omega)) rfl rfl rfl ?_)))
        refine SG (Ex.move rfl) rfl rfl rfl (SG (Ex.lenStr Tryz.underlying9 rfl) rfl rfl rfl ?_)
        refine WR.split (Ex.gtr rfl rfl) (Wn.some rfl rfl rfl) rfl rfl (fun h13_8 => ?_) (fun h13_8 => ?_)
        · refine PF rfl rfl rfl (NL (TN (CT rfl (SQ (RG (AS rfl rfl (AS rfl rfl (NL (TN (RT ?_))))))))))
          refine WQ.ret2 rfl rfl rfl H.ext ?_
          exact by rw [rune_short hnc hk2 (by rw [List.length_drop]; omega)]; rfl
        · refine PF rfl rfl rfl (NL (TN (CF rfl (SK (TN (SQ (SQ (RG (AS rfl rfl (NL (TN (BL (WC.loop2 (fun (k : Nat) (n : Nat) => [(0, S l), (1, encN i), (7, encN s), (8, encN n), (9, encN m), (10, encN k)]) (fun (k : Nat) (n : Nat) w => (1 ≤ k ∧ k ≤ s) ∧ cont (l.drop i) a (k - 1) = some n ∧ ∃ M, St w0 M0 M [] w) (fun (k : Nat) (n : Nat) => s - k) (1) (a) ⟨rfl, rfl, rfl, rfl, rfl, rfl, trivial⟩ (⟨by omega, rfl, M, H⟩) ?_)))))))))))))
          intro k n w
          rintro ⟨hk1, hcn, M, H⟩
          have hnl := cont_lt hkl.2.1 _ _ hcn
          have hpw : 64 ^ (k - 1) ≤ 64 ^ 3 := Nat.pow_le_pow_right (by decide) (by omega)
          refine SQ (SQ (RG (MV rfl rfl (MV rfl rfl ?_))))
          refine WR.split (Ex.lss rfl rfl) (Wn.none rfl) rfl rfl (fun h16_2 => ?_) (fun h16_2 => ?_)
          · obtain ⟨x, hx⟩ : ∃ x, l[i + k]? = some x := ⟨_, List.getElem?_eq_getElem (by omega)⟩
            have hxn : nat (l.drop i) (k - 1 + 1) = x.toNat := by rw [nat_drop, show i + (k - 1 + 1) = i + k by omega]; exact nat_of hx
            have hxlt := x.toNat_lt
            refine NL (TN (CT rfl (SK (TN (SQ (BL (SQ (RG (MV rfl rfl (MV rfl rfl (MV rfl rfl (WR.stepE (v' := encN (i + k)) (Ex.add64 rfl rfl (by omega)) rfl (Wn.none rfl) rfl rfl ?_))))))))))))
            refine ST (Ex.idxStr Tryz.underlying9 rfl rfl (hx)) rfl ?_
            first | refine WR.step (Ex.convB Tryz.underlying5 Tryz.underlying3 rfl) (Wn.none rfl) rfl rfl ?_ | refine WR.step (Ex.convI Tryz.underlying5 Tryz.underlying3 rfl (by omega)) (Wn.none rfl) rfl rfl ?_
            refine AS rfl rfl (NL (TN (SQ (SQ (RG (MV rfl rfl ?_))))))
            refine WR.callB H (in_spec _ _ _) rfl (trivial) (Wn.none rfl) rfl (fun h19_1 => ?_) (fun h19_1 => ?_)
            · intro M w H hle
              have hcy : cont (l.drop i) a k = some (64 * n + x.toNat - 128) := by
                have := cont_yes hcn (by rw [hxn]; unfold okC; omega)
                rw [hxn, show k - 1 + 1 = k by omega] at this
                exact this
              refine ST (Ex.notT rfl) rfl (NL (TN (CF rfl (SK (TN (RG (MV rfl rfl (ST (Ex.mul64 rfl rfl (by omega)) rfl ?_))))))))
              refine MV rfl rfl (ST (Ex.add64 rfl rfl (by omega)) rfl ?_)
              refine WR.stepE (v' := encN (64 * n + x.toNat - 128)) (Ex.sub64 rfl rfl (by omega)) (congrArg I (by omega)) (Wn.none rfl) rfl rfl ?_
              refine AS rfl rfl (NL (IB (TN (RG (MV rfl rfl (WR.stepE (v' := encN (k + 1)) (Ex.add64 rfl rfl (by omega)) rfl (Wn.none rfl) rfl rfl ?_))))))
              refine AS rfl rfl (NL ?_)
              refine WQ.again2 (k + 1) (64 * n + x.toNat - 128) ⟨rfl, rfl, rfl, rfl, rfl, rfl, trivial⟩ ?_ ?_
              · exact ⟨by omega, by rw [Nat.add_sub_cancel]; exact hcy, M, H⟩
              · omega
            · intro M w H hle
              have hcut : cont (l.drop i) a (s - 1) = none := cont_none (cont_no hcn (by rw [hxn]; unfold okC; omega)) _ (by omega)
              refine ST (Ex.notF rfl) rfl (NL (TN (CT rfl (SQ (RG (AS rfl rfl (AS rfl rfl (NL (TN (RT ?_))))))))))
              refine WQ.ret2 rfl rfl rfl H.ext ?_
              exact by rw [rune_cut hnc hk2 hcut]; rfl
          · obtain rfl : k = s := by omega
            refine NL (TN (CF rfl (WC.exit (WQ.thenExit (WQ.thenExit (WQ.exitHere (TN (SQ (SQ (RG (MV rfl rfl (MV rfl rfl ?_))))))))))))
            refine WR.split (Ex.lss rfl rfl) (Wn.none rfl) rfl rfl (fun h22_2 => ?_) (fun h22_2 => ?_)
            · refine MV rfl rfl (GT rfl rfl rfl (GT rfl rfl rfl (PT rfl rfl rfl (MV rfl rfl (GT rfl rfl rfl (GT rfl rfl rfl (PT rfl rfl rfl (NL (TN (CT rfl (SQ (RG (AS rfl rfl (AS rfl rfl (NL (TN (RT ?_)))))))))))))))))
              refine WQ.ret2 rfl rfl rfl H.ext ?_
              exact by rw [rune_bad hnc hk2 hcn (by unfold badN; omega)]; rfl
            · refine MV rfl rfl (SG (Ex.move rfl) rfl rfl rfl ?_)
              refine WR.split (Ex.gtr rfl rfl) (Wn.some rfl rfl rfl) rfl rfl (fun h22_5 => ?_) (fun h22_5 => ?_)
              · refine PF rfl rfl rfl (MV rfl rfl (GT rfl rfl rfl (GT rfl rfl rfl (PT rfl rfl rfl (NL (TN (CT rfl (SQ (RG (AS rfl rfl (AS rfl rfl (NL (TN (RT ?_))))))))))))))
                refine WQ.ret2 rfl rfl rfl H.ext ?_
                exact by rw [rune_bad hnc hk2 hcn (by unfold badN; omega)]; rfl
              · refine PF rfl rfl rfl (MV rfl rfl (SG (Ex.move rfl) rfl rfl rfl ?_))
                refine WR.callB H (in_spec _ _ _) rfl (trivial) (Wn.some rfl rfl rfl) rfl (fun h22_9 => ?_) (fun h22_9 => ?_)
                · intro M w H hle
                  refine PF rfl rfl rfl (NL (TN (CT rfl (SQ (RG (AS rfl rfl (AS rfl rfl (NL (TN (RT ?_))))))))))
                  refine WQ.ret2 rfl rfl rfl H.ext ?_
                  exact by rw [rune_bad hnc hk2 hcn (by unfold badN; omega)]; rfl
                · intro M w H hle
                  refine PF rfl rfl rfl (NL (TN (CF rfl (SK (TN (SQ (RG (MV rfl rfl (MV rfl rfl (AS rfl rfl (AS rfl rfl (NL (TN (RT ?_))))))))))))))
                  refine WQ.ret2 rfl rfl rfl H.ext ?_
                  exact by rw [rune_good hnc hk2 (by rw [List.length_drop]; omega) hcn (by unfold badN; omega)]
end Go.Proofs.YtegkhjbajijidaaGreatDoor
end
section
namespace Go.Proofs.YtegkhjbajijidaaGreatDoor
open Go Go.RowKit Go.Ph
open Go.Ph.Gr Go.Ph.Utf Go.Ph.Chs
theorem low_at {l : List UInt8} {k : Nat} {u : UInt8} (h : l[k]? = some u) : (lower (l.take k) ++ l.drop k)[k]? = some u := by
  have hk := (List.getElem?_eq_some_iff.1 h).1
  rw [List.getElem?_append_right (by rw [lower_len, List.length_take]; omega), lower_len, List.length_take, show k - min k l.length = 0 by omega, List.getElem?_drop, Nat.add_zero]; exact h
theorem low_next {l : List UInt8} {k : Nat} {u : UInt8} (h : l[k]? = some u) : lower (l.take (k + 1)) ++ l.drop (k + 1) = lower (l.take k) ++ lowB u :: l.drop (k + 1) := by
  obtain ⟨hk, hu⟩ := List.getElem?_eq_some_iff.1 h
  rw [List.take_succ_eq_append_getElem hk, hu]; simp [lower]
theorem low_step {l : List UInt8} {k : Nat} {u : UInt8} (h : l[k]? = some u) : (lower (l.take k) ++ l.drop k).set k (lowB u) = lower (l.take (k + 1)) ++ l.drop (k + 1) := by
  obtain ⟨hk, hu⟩ := List.getElem?_eq_some_iff.1 h
  have hl : (lower (l.take k)).length = k := by rw [lower_len, List.length_take]; omega
  rw [low_next h, List.set_append_right _ _ (by omega), hl, Nat.sub_self, List.drop_eq_getElem_cons hk]; rfl
theorem low_keep {l : List UInt8} {k : Nat} {u : UInt8} (h : l[k]? = some u) (hn : ¬ (65 ≤ u.toNat ∧ u.toNat ≤ 90)) : lower (l.take k) ++ l.drop k = lower (l.take (k + 1)) ++ l.drop (k + 1) := by
  obtain ⟨hk, hu⟩ := List.getElem?_eq_some_iff.1 h
  rw [low_next h, List.drop_eq_getElem_cons hk, hu, lowB, if_neg hn]
theorem lowB_enc {u : UInt8} (h : 65 ≤ u.toNat ∧ u.toNat ≤ 90) : encB (lowB u) = .int .u8 ((u.toNat : Int) + 32) := by
  unfold lowB; rw [if_pos h]
  have h1 : (u + 32).toNat = u.toNat + 32 := by rw [UInt8.toNat_add]; show (u.toNat + 32) % 256 = _; omega
  show Value.int .u8 (((u + 32).toNat : Nat) : Int) = _
  rw [h1]; rfl
theorem lower_spec (l : List UInt8) (hs : l.length ≤ maxLen) : Ct Tryz.prog 45 [S l] (fun _ => True) (fun r _ => r = S (lower l)) := by
  refine Ct.of Tryz.func45 (enters Tryz.func45 (by kernel_rfl) rfl) rfl rfl rfl ?_
  intro w0 M0 H hp
  simp only [maxLen] at hs
  refine SQ (RG (AS rfl rfl (NL (TN (SQ (RG (MV rfl rfl (WR.toBytes H Tryz.underlying9 Tryz.underlying93 Tryz.underlying5 rfl (by simp only [maxLen]; omega) (Wn.none rfl) rfl ?_))))))))
  intro g7 c7 w hc7 hm7 H
  refine AS rfl rfl (NL (TN (SQ (SQ (RG (MV rfl rfl ?_))))))
  first | refine WR.step (Ex.lenSl Tryz.underlying93 (by assumption) rfl) (Wn.none rfl) rfl rfl ?_ | refine WR.step (Ex.lenRow Tryz.underlying93 H (by repeat first | exact kMh | apply kMt) rfl) (Wn.none rfl) rfl rfl ?_ | refine WR.step (Ex.lenSlice Tryz.underlying93 rfl) (Wn.none rfl) rfl rfl ?_
  refine MV rfl rfl (NL (TN (BL (WC.loop2 (fun (k : Nat) (m : List UInt8) => [(3, .slice (some ⟨g7, 0, none⟩) l.length c7), (8, .slice (some ⟨g7, 0, none⟩) l.length c7), (9, I (l.length : Int)), (10, encN k)]) (fun (k : Nat) (m : List UInt8) w => k ≤ l.length ∧ m.length = l.length ∧ m = lower (l.take k) ++ l.drop k ∧ ∃ M, St w0 M0 M [SRow g7 c7 5 m] w) (fun (k : Nat) (m : List UInt8) => l.length - k) (0) (l) ⟨rfl, rfl, rfl, rfl, trivial⟩ (⟨by omega, rfl, by simp [lower], M0, H⟩) ?_))))
  intro k m w
  rintro ⟨hk, hml, hm, M, H⟩
  refine SQ (RG ?_)
  refine WR.split (Ex.lss rfl rfl) (Wn.none rfl) rfl rfl (fun h3_0 => ?_) (fun h3_0 => ?_)
  · obtain ⟨u, hlu⟩ : ∃ u, l[k]? = some u := ⟨_, List.getElem?_eq_getElem (by omega)⟩
    have hcu : m[k]? = some u := by rw [hm]; exact low_at hlu
    have hult := u.toNat_lt
    refine NL (TN (SQ (CT rfl (SK (TN (SQ (BL (SQ (RG (MV rfl rfl (ST (Ex.idxS Tryz.underlying93 Tryz.sizeOf5 rfl rfl (by omega)) rfl ?_)))))))))))
    refine ST (Ex.loadS H rfl (by repeat first | exact kMh | apply kMt) hcu Tryz.isAgg5) rfl ?_
    refine AS rfl rfl (AS rfl rfl (NL (TN (SQ (RG (MV rfl rfl ?_))))))
    refine WR.split (Ex.geq rfl rfl) (Wn.none rfl) rfl rfl (fun h5_1 => ?_) (fun h5_1 => ?_)
    · refine MV rfl rfl (SG (Ex.move rfl) rfl rfl rfl ?_)
      refine WR.split (Ex.leq rfl rfl) (Wn.some rfl rfl rfl) rfl rfl (fun h5_4 => ?_) (fun h5_4 => ?_)
      · refine PT rfl rfl rfl (NL (TN (CT rfl (RG (MV rfl rfl (MV rfl rfl (MV rfl rfl (ST (Ex.addW rfl rfl (u8_in (by omega))) rfl ?_))))))))
        refine WR.stepE (v' := encB (lowB u)) (Ex.subW rfl rfl (u8_in (by omega))) (by rw [lowB_enc (by omega)]; exact congrArg (Value.int .u8) (by omega)) (Wn.none rfl) rfl rfl ?_
        refine ST (Ex.idxS Tryz.underlying93 Tryz.sizeOf5 rfl rfl (by omega)) rfl ?_
        refine WR.storeS (c := lowB u) H rfl rfl (by repeat first | exact .head | apply Upd.tail) (by omega) (by omega) Tryz.sizeOf5 (Wn.none rfl) ?_
        intro w H
        refine NL (IB (TN (RG (ST (Ex.add64 rfl rfl (by omega)) rfl ?_))))
        refine MV rfl rfl (NL ?_)
        refine WQ.again2 (k + 1) (m.set k (lowB u)) ⟨rfl, rfl, rfl, rfl, trivial⟩ ?_ ?_
        · refine ⟨by omega, by rw [List.length_set]; exact hml, ?_, M, H⟩
          rw [hm]; exact low_step hlu
        · omega
      · refine PT rfl rfl rfl (NL (TN (CF rfl (SK (IB (TN (RG (ST (Ex.add64 rfl rfl (by omega)) rfl ?_))))))))
        refine MV rfl rfl (NL ?_)
        refine WQ.again2 (k + 1) (m) ⟨rfl, rfl, rfl, rfl, trivial⟩ ?_ ?_
        · refine ⟨by omega, hml, ?_, M, H⟩
          rw [hm]; exact low_keep hlu (by omega)
        · omega
    · refine MV rfl rfl (GF rfl rfl rfl (GF rfl rfl rfl (PF rfl rfl rfl (NL (TN (CF rfl (SK (IB (TN (RG (ST (Ex.add64 rfl rfl (by omega)) rfl ?_)))))))))))
      refine MV rfl rfl (NL ?_)
      refine WQ.again2 (k + 1) (m) ⟨rfl, rfl, rfl, rfl, trivial⟩ ?_ ?_
      · refine ⟨by omega, hml, ?_, M, H⟩
        rw [hm]; exact low_keep hlu (by omega)
      · omega
  · refine NL (TN (SQ (CF rfl (WC.exit (WQ.thenExit (WQ.thenExit (WQ.exitHere (TN (SQ (RG (MV rfl rfl (ST (Ex.toStrS Tryz.underlying93 Tryz.underlying5 Tryz.underlying9 H (by repeat first | exact kMh | apply kMt) hml.symm rfl) rfl ?_))))))))))))
    refine AS rfl rfl (NL (TN (RT ?_)))
    refine WQ.ret1 rfl rfl H.ext ?_
    exact by rw [hm, List.take_of_length_le (by omega), List.drop_eq_nil_of_le (by omega), List.append_nil]
theorem rlower_spec (l : List UInt8) (hs : l.length ≤ maxLen) : Ct Tryz.prog 38 [S l] (fun _ => True) (fun r _ => r = S (lower l)) := by
  refine Ct.of Tryz.func38 (enters Tryz.func38 (by kernel_rfl) rfl) rfl rfl rfl ?_
  intro w0 M0 H hp
  simp only [maxLen] at hs
  refine SQ (RG (AS rfl rfl (NL (TN (SQ (RG (MV rfl rfl (WR.toBytes H Tryz.underlying9 Tryz.underlying93 Tryz.underlying5 rfl (by simp only [maxLen]; omega) (Wn.none rfl) rfl ?_))))))))
  intro g6 c6 w hc6 hm6 H
  refine AS rfl rfl (NL (TN (SQ (SQ (RG (AS rfl rfl (NL (TN (BL (WC.loop2 (fun (k : Nat) (m : List UInt8) => [(3, .slice (some ⟨g6, 0, none⟩) l.length c6), (4, encN k)]) (fun (k : Nat) (m : List UInt8) w => k ≤ l.length ∧ m.length = l.length ∧ m = lower (l.take k) ++ l.drop k ∧ ∃ M, St w0 M0 M [SRow g6 c6 5 m] w) (fun (k : Nat) (m : List UInt8) => l.length - k) (0) (l) ⟨rfl, rfl, trivial⟩ (⟨by omega, rfl, by simp [lower], M0, H⟩) ?_))))))))))
  intro k m w
  rintro ⟨hk, hml, hm, M, H⟩
  refine SQ (SQ (RG (MV rfl rfl (MV rfl rfl ?_))))
  first | refine WR.step (Ex.lenSl Tryz.underlying93 (by assumption) rfl) (Wn.none rfl) rfl rfl ?_ | refine WR.step (Ex.lenRow Tryz.underlying93 H (by repeat first | exact kMh | apply kMt) rfl) (Wn.none rfl) rfl rfl ?_ | refine WR.step (Ex.lenSlice Tryz.underlying93 rfl) (Wn.none rfl) rfl rfl ?_
  refine WR.split (Ex.lss rfl rfl) (Wn.none rfl) rfl rfl (fun h3_3 => ?_) (fun h3_3 => ?_)
  · obtain ⟨u, hlu⟩ : ∃ u, l[k]? = some u := ⟨_, List.getElem?_eq_getElem (by omega)⟩
    have hcu : m[k]? = some u := by rw [hm]; exact low_at hlu
    have hult := u.toNat_lt
    refine NL (TN (CT rfl (SK (TN (SQ (BL (SQ (RG (MV rfl rfl (MV rfl rfl (ST (Ex.idxS Tryz.underlying93 Tryz.sizeOf5 rfl rfl (by omega)) rfl ?_)))))))))))
    refine ST (Ex.loadS H rfl (by repeat first | exact kMh | apply kMt) hcu Tryz.isAgg5) rfl ?_
    first | refine WR.step (Ex.convB Tryz.underlying5 Tryz.underlying3 rfl) (Wn.none rfl) rfl rfl ?_ | refine WR.step (Ex.convI Tryz.underlying5 Tryz.underlying3 rfl (by omega)) (Wn.none rfl) rfl rfl ?_
    by_cases h5_5 : (65 : Int) ≤ (u.toNat : Int) ∧ (u.toNat : Int) ≤ 90
    · refine WR.call H (Ct.mono (in_spec _ _ _) (R' := fun r _ => r = .bool true) (fun _ _ h => h.trans (congrArg Value.bool (decide_eq_true h5_5)))) rfl (trivial) (Wn.none rfl) rfl ?_
      intro v18 M w H hle hr18
      obtain rfl := hr18
      refine NL (TN (CT rfl (RG (MV rfl rfl (MV rfl rfl (MV rfl rfl (MV rfl rfl (ST (Ex.idxS Tryz.underlying93 Tryz.sizeOf5 rfl rfl (by omega)) rfl ?_))))))))
      refine ST (Ex.loadS H rfl (by repeat first | exact kMh | apply kMt) hcu Tryz.isAgg5) rfl ?_
      refine WR.stepE (v' := encB (lowB u)) (Ex.addW rfl rfl (u8_in (by omega))) (by rw [lowB_enc (by omega)]) (Wn.none rfl) rfl rfl ?_
      refine ST (Ex.idxS Tryz.underlying93 Tryz.sizeOf5 rfl rfl (by omega)) rfl ?_
      refine WR.storeS (c := lowB u) H rfl rfl (by repeat first | exact .head | apply Upd.tail) (by omega) (by omega) Tryz.sizeOf5 (Wn.none rfl) ?_
      intro w H
      refine NL (IB (TN (RG (MV rfl rfl (ST (Ex.add64 rfl rfl (by omega)) rfl ?_)))))
      refine AS rfl rfl (NL ?_)
      refine WQ.again2 (k + 1) (m.set k (lowB u)) ⟨rfl, rfl, trivial⟩ ?_ ?_
      · refine ⟨by omega, by rw [List.length_set]; exact hml, ?_, M, H⟩
        rw [hm]; exact low_step hlu
      · omega
    · refine WR.call H (Ct.mono (in_spec _ _ _) (R' := fun r _ => r = .bool false) (fun _ _ h => h.trans (congrArg Value.bool (decide_eq_false h5_5)))) rfl (trivial) (Wn.none rfl) rfl ?_
      intro v18 M w H hle hr18
      obtain rfl := hr18
      refine NL (TN (CF rfl (SK (IB (TN (RG (MV rfl rfl (ST (Ex.add64 rfl rfl (by omega)) rfl ?_))))))))
      refine AS rfl rfl (NL ?_)
      refine WQ.again2 (k + 1) (m) ⟨rfl, rfl, trivial⟩ ?_ ?_
      · refine ⟨by omega, hml, ?_, M, H⟩
        rw [hm]; exact low_keep hlu (by omega)
      · omega
  · refine NL (TN (CF rfl (WC.exit (WQ.thenExit (WQ.thenExit (WQ.exitHere (TN (SQ (RG (MV rfl rfl (ST (Ex.toStrS Tryz.underlying93 Tryz.underlying5 Tryz.underlying9 H (by repeat first | exact kMh | apply kMt) hml.symm rfl) rfl ?_)))))))))))
    refine AS rfl rfl (NL (TN (RT ?_)))
    refine WQ.ret1 rfl rfl H.ext ?_
    exact by rw [hm, List.take_of_length_le (by omega), List.drop_eq_nil_of_le (by omega), List.append_nil]
theorem lower_ne {a b : List UInt8} (h : a.length ≠ b.length) : ¬ lower a = lower b := fun e => h (by rw [← lower_len a, e, lower_len])
def same (name x : List UInt8) : Bool := decide (lower x = lower name)
theorem same_spec (a b : List UInt8) (ha : a.length ≤ maxLen) (hb : b.length ≤ maxLen) : Ct Tryz.prog 26 [S a, S b] (fun _ => True) (fun r _ => r = .bool (decide (lower a = lower b))) := by
  refine Ct.of Tryz.func26 (enters Tryz.func26 (by kernel_rfl) rfl) rfl rfl rfl ?_
  intro w0 M0 H hp
  refine SQ (RG (AS rfl rfl (NL (TN (SQ (RG (MV rfl rfl (ST (Ex.lenStr Tryz.underlying9 rfl) rfl (MV rfl rfl (ST (Ex.lenStr Tryz.underlying9 rfl) rfl ?_))))))))))
  refine WR.split (Ex.eql rfl rfl) (Wn.none rfl) rfl rfl (fun h1_4 => ?_) (fun h1_4 => ?_)
  · refine MV rfl rfl (SG (Ex.move rfl) rfl rfl rfl (WR.call H (lower_spec _ ha) rfl (trivial) (Wn.some rfl rfl rfl) rfl ?_))
    intro v12 M w H hle hr12
    obtain rfl := hr12
    refine SG (Ex.move rfl) rfl rfl rfl (WR.call H (lower_spec _ hb) rfl (trivial) (Wn.some rfl rfl rfl) rfl ?_)
    intro v14 M w H hle hr14
    obtain rfl := hr14
    refine SG (Ex.strEql rfl rfl) rfl rfl rfl (PT rfl rfl rfl (AS rfl rfl (NL (TN (RT ?_)))))
    refine WQ.ret1 rfl rfl H.ext ?_
    exact rfl
  · refine MV rfl rfl (GF rfl rfl rfl (GF rfl rfl rfl (GF rfl rfl rfl (GF rfl rfl rfl (GF rfl rfl rfl (PF rfl rfl rfl (AS rfl rfl (NL (TN (RT ?_))))))))))
    refine WQ.ret1 rfl rfl H.ext ?_
    exact (congrArg Value.bool (decide_eq_false (lower_ne (by omega))).symm)
theorem alike_spec (a b : List UInt8) (ha : a.length ≤ maxLen) (hb : b.length ≤ maxLen) : Ct Tryz.prog 29 [S a, S b] (fun _ => True) (fun r _ => r = .bool (decide (lower a = lower b))) := by
  refine Ct.of Tryz.func29 (enters Tryz.func29 (by kernel_rfl) rfl) rfl rfl rfl ?_
  intro w0 M0 H hp
  refine SQ (RG (AS rfl rfl (NL (TN (SQ (RG (MV rfl rfl (WR.call H (rlower_spec _ ha) rfl (trivial) (Wn.none rfl) rfl ?_))))))))
  intro v6 M w H hle hr6
  obtain rfl := hr6
  refine MV rfl rfl (WR.call H (rlower_spec _ hb) rfl (trivial) (Wn.none rfl) rfl ?_)
  intro v8 M w H hle hr8
  obtain rfl := hr8
  refine ST (Ex.strEql rfl rfl) rfl (AS rfl rfl (NL (TN (RT ?_))))
  refine WQ.ret1 rfl rfl H.ext ?_
  exact rfl
theorem utf8_spec (n : Int) : Ct Tryz.prog 66 [I n] (fun _ => True) (fun r _ => r = S (utf8 n)) := by
  refine Ct.of Tryz.func66 (enters Tryz.func66 (by kernel_rfl) rfl) rfl rfl rfl ?_
  intro w0 M0 H hp
  refine SQ (RG (AS rfl rfl (NL (TN ?_))))
  refine WC.cut1 (fun (m : Int) => [(0, I m)]) (fun (m : Int) w => m = fixN n ∧ ∃ M, St w0 M0 M [] w) ?_ ?_
  · refine SQ (RG (MV rfl rfl ?_))
    by_cases h1_1 : (0 : Int) ≤ n ∧ n ≤ 1114111
    · refine WR.call H (Ct.mono (in_spec _ _ _) (R' := fun r _ => r = .bool true) (fun _ _ h => h.trans (congrArg Value.bool (decide_eq_true h1_1)))) rfl (trivial) (Wn.none rfl) rfl ?_
      intro v4 M w H hle hr4
      obtain rfl := hr4
      refine ST (Ex.notT rfl) rfl (MV rfl rfl (SG (Ex.move rfl) rfl rfl rfl ?_))
      by_cases h1_5 : (55296 : Int) ≤ n ∧ n ≤ 57343
      · refine WR.call H (Ct.mono (in_spec _ _ _) (R' := fun r _ => r = .bool true) (fun _ _ h => h.trans (congrArg Value.bool (decide_eq_true h1_5)))) rfl (trivial) (Wn.some rfl rfl rfl) rfl ?_
        intro v8 M w H hle hr8
        obtain rfl := hr8
        refine PF rfl rfl rfl (NL (TN (CT rfl (RG (AS rfl rfl (NL (WQ.meet1 (65533) ⟨rfl, trivial⟩ ?_)))))))
        · exact ⟨(fixN_bad (by omega)).symm, M, H⟩
      · refine WR.call H (Ct.mono (in_spec _ _ _) (R' := fun r _ => r = .bool false) (fun _ _ h => h.trans (congrArg Value.bool (decide_eq_false h1_5)))) rfl (trivial) (Wn.some rfl rfl rfl) rfl ?_
        intro v8 M w H hle hr8
        obtain rfl := hr8
        refine PF rfl rfl rfl (NL (TN (CF rfl (SK (WQ.meet1 (n) ⟨rfl, trivial⟩ ?_)))))
        · exact ⟨(fixN_id (by omega) (by omega) (by omega)).symm, M, H⟩
    · refine WR.call H (Ct.mono (in_spec _ _ _) (R' := fun r _ => r = .bool false) (fun _ _ h => h.trans (congrArg Value.bool (decide_eq_false h1_1)))) rfl (trivial) (Wn.none rfl) rfl ?_
      intro v4 M w H hle hr4
      obtain rfl := hr4
      refine ST (Ex.notF rfl) rfl (MV rfl rfl (GT rfl rfl rfl (GT rfl rfl rfl (PT rfl rfl rfl (NL (TN (CT rfl (RG (AS rfl rfl (NL (WQ.meet1 (65533) ⟨rfl, trivial⟩ ?_)))))))))))
      · exact ⟨(fixN_bad (by omega)).symm, M, H⟩
  · intro m w
    rintro ⟨hm, M, H⟩
    have hfx := fixN_ok n
    rw [← hm] at hfx
    refine SQ (SQ (RG (MV rfl rfl ?_)))
    refine WR.split (Ex.lss rfl rfl) (Wn.none rfl) rfl rfl (fun h3_1 => ?_) (fun h3_1 => ?_)
    · refine NL (TN (CT rfl (SQ (RG (MV rfl rfl (ST (Ex.convU8 Tryz.underlying3 Tryz.underlying5 rfl) rfl (WR.lit (enc := encB) ty93 [_] H rfl (by rfl) (fun _ => rfl) rfl rfl (Wn.none rfl) rfl ?_)))))))
      intro v14 M w H hle hl14
      refine ST (Ex.toStr Tryz.underlying93 Tryz.underlying5 Tryz.underlying9 H (by assumption) rfl) rfl ?_
      refine AS rfl rfl (NL (TN (RT ?_)))
      refine WQ.ret1 rfl rfl H.ext ?_
      exact by unfold utf8; rw [← hm]; unfold utf8M; rw [if_pos (by omega)]
    · refine NL (TN (CF rfl (SK (TN (SQ (SQ (RG (MV rfl rfl ?_))))))))
      refine WR.split (Ex.lss rfl rfl) (Wn.none rfl) rfl rfl (fun h5_1 => ?_) (fun h5_1 => ?_)
      · refine NL (TN (CT rfl (SQ (RG (MV rfl rfl (ST (Ex.quo64 rfl rfl (by first | omega | exact ⟨Int.natCast_nonneg _, by decide⟩)) rfl ?_))))))
        refine ST (Ex.add64 rfl rfl (by omega)) rfl ?_
        refine ST (Ex.convU8 Tryz.underlying3 Tryz.underlying5 rfl) rfl (MV rfl rfl (ST (Ex.rem64 rfl rfl (by first | omega | exact ⟨Int.natCast_nonneg _, by decide⟩)) rfl ?_))
        refine ST (Ex.add64 rfl rfl (by omega)) rfl ?_
        refine ST (Ex.convU8 Tryz.underlying3 Tryz.underlying5 rfl) rfl (WR.lit (enc := encB) ty93 [_, _] H rfl (by rfl) (fun _ => rfl) rfl rfl (Wn.none rfl) rfl ?_)
        intro v26 M w H hle hl26
        refine ST (Ex.toStr Tryz.underlying93 Tryz.underlying5 Tryz.underlying9 H (by assumption) rfl) rfl ?_
        refine AS rfl rfl (NL (TN (RT ?_)))
        refine WQ.ret1 rfl rfl H.ext ?_
        exact by unfold utf8; rw [← hm]; unfold utf8M; rw [if_neg (by omega), if_pos (by omega)]
      · refine NL (TN (CF rfl (SK (TN (SQ (SQ (RG (MV rfl rfl ?_))))))))
        refine WR.split (Ex.lss rfl rfl) (Wn.none rfl) rfl rfl (fun h7_1 => ?_) (fun h7_1 => ?_)
        · refine NL (TN (CT rfl (SQ (RG (MV rfl rfl (ST (Ex.quo64 rfl rfl (by first | omega | exact ⟨Int.natCast_nonneg _, by decide⟩)) rfl ?_))))))
          refine ST (Ex.add64 rfl rfl (by omega)) rfl ?_
          refine ST (Ex.convU8 Tryz.underlying3 Tryz.underlying5 rfl) rfl (MV rfl rfl (ST (Ex.quo64 rfl rfl (by first | omega | exact ⟨Int.natCast_nonneg _, by decide⟩)) rfl ?_))
          refine ST (Ex.rem64 rfl rfl (by first | omega | exact ⟨Int.natCast_nonneg _, by decide⟩)) rfl ?_
          refine ST (Ex.add64 rfl rfl (by omega)) rfl ?_
          refine ST (Ex.convU8 Tryz.underlying3 Tryz.underlying5 rfl) rfl (MV rfl rfl (ST (Ex.rem64 rfl rfl (by first | omega | exact ⟨Int.natCast_nonneg _, by decide⟩)) rfl ?_))
          refine ST (Ex.add64 rfl rfl (by omega)) rfl ?_
          refine ST (Ex.convU8 Tryz.underlying3 Tryz.underlying5 rfl) rfl (WR.lit (enc := encB) ty93 [_, _, _] H rfl (by rfl) (fun _ => rfl) rfl rfl (Wn.none rfl) rfl ?_)
          intro v43 M w H hle hl43
          refine ST (Ex.toStr Tryz.underlying93 Tryz.underlying5 Tryz.underlying9 H (by assumption) rfl) rfl ?_
          refine AS rfl rfl (NL (TN (RT ?_)))
          refine WQ.ret1 rfl rfl H.ext ?_
          exact by unfold utf8; rw [← hm]; unfold utf8M; rw [if_neg (by omega), if_neg (by omega), if_pos (by omega)]
        · refine NL (TN (CF rfl (SK (TN (SQ (RG (MV rfl rfl (ST (Ex.quo64 rfl rfl (by first | omega | exact ⟨Int.natCast_nonneg _, by decide⟩)) rfl ?_))))))))
          refine ST (Ex.add64 rfl rfl (by omega)) rfl ?_
          refine ST (Ex.convU8 Tryz.underlying3 Tryz.underlying5 rfl) rfl (MV rfl rfl (ST (Ex.quo64 rfl rfl (by first | omega | exact ⟨Int.natCast_nonneg _, by decide⟩)) rfl ?_))
          refine ST (Ex.rem64 rfl rfl (by first | omega | exact ⟨Int.natCast_nonneg _, by decide⟩)) rfl ?_
          refine ST (Ex.add64 rfl rfl (by omega)) rfl ?_
          refine ST (Ex.convU8 Tryz.underlying3 Tryz.underlying5 rfl) rfl (MV rfl rfl (ST (Ex.quo64 rfl rfl (by first | omega | exact ⟨Int.natCast_nonneg _, by decide⟩)) rfl ?_))
          refine ST (Ex.rem64 rfl rfl (by first | omega | exact ⟨Int.natCast_nonneg _, by decide⟩)) rfl ?_
          refine ST (Ex.add64 rfl rfl (by omega)) rfl ?_
          refine ST (Ex.convU8 Tryz.underlying3 Tryz.underlying5 rfl) rfl (MV rfl rfl (ST (Ex.rem64 rfl rfl (by first | omega | exact ⟨Int.natCast_nonneg _, by decide⟩)) rfl ?_))
          refine ST (Ex.add64 rfl rfl (by omega)) rfl ?_
          refine ST (Ex.convU8 Tryz.underlying3 Tryz.underlying5 rfl) rfl (WR.lit (enc := encB) ty93 [_, _, _, _] H rfl (by rfl) (fun _ => rfl) rfl rfl (Wn.none rfl) rfl ?_)
          intro v63 M w H hle hl63
          refine ST (Ex.toStr Tryz.underlying93 Tryz.underlying5 Tryz.underlying9 H (by assumption) rfl) rfl ?_
          refine AS rfl rfl (NL (TN (RT ?_)))
          refine WQ.ret1 rfl rfl H.ext ?_
          exact by unfold utf8; rw [← hm]; unfold utf8M; rw [if_neg (by omega), if_neg (by omega), if_neg (by omega)]
theorem valid_spec (l : List UInt8) (hs : l.length ≤ 4611686018427387904) : Ct Tryz.prog 30 [S l] (fun _ => True) (fun r _ => r = .bool (vld l)) := by
  refine Ct.of Tryz.func30 (enters Tryz.func30 (by kernel_rfl) rfl) rfl rfl rfl ?_
  intro w0 M0 H hp
  refine SQ (RG (AS rfl rfl (NL (TN (SQ (SQ (RG (AS rfl rfl (NL (TN (BL (WC.loop1 (fun (q : Nat) => [(0, S l), (3, encN q)]) (fun (q : Nat) w => q ≤ l.length ∧ vld l = vld (l.drop q) ∧ ∃ M, St w0 M0 M [] w) (fun (q : Nat) => l.length - q) (0) ⟨rfl, rfl, trivial⟩ (⟨by omega, rfl, M0, H⟩) ?_))))))))))))
  intro q w
  rintro ⟨hq, hv, M, H⟩
  refine SQ (SQ (RG (MV rfl rfl (MV rfl rfl (ST (Ex.lenStr Tryz.underlying9 rfl) rfl ?_)))))
  refine WR.split (Ex.lss rfl rfl) (Wn.none rfl) rfl rfl (fun h2_3 => ?_) (fun h2_3 => ?_)
  · have hne := drop_ne (t := l) (n := q) (by omega)
    have hrs := rune_size (l.drop q)
    have hrs3 := hrs.2.2 hne
    rw [List.length_drop] at hrs3
    refine NL (TN (CT rfl (SK (TN (BL (SQ (RG (MV rfl rfl (MV rfl rfl (WR.call H (rune_spec _ _ (by omega) (by omega)) rfl (trivial) (Wn.none rfl) rfl ?_))))))))))
    intro v13 M w H hle hr13
    obtain rfl := hr13
    refine MV rfl rfl (ST (Ex.extract rfl rfl) rfl (ST (Ex.extract rfl rfl) rfl (AS rfl rfl (AS rfl rfl (NL (TN (SQ (SQ (RG (MV rfl rfl ?_))))))))))
    refine WR.split (Ex.lss rfl rfl) (Wn.none rfl) rfl rfl (fun h4_1 => ?_) (fun h4_1 => ?_)
    · have hr : vld l = false := by rw [hv, vld_cons hne, decide_eq_false (by omega), Bool.false_and]
      refine NL (TN (CT rfl (SQ (RG (AS rfl rfl (NL (TN (RT ?_))))))))
      refine WQ.ret1 rfl rfl H.ext ?_
      exact by rw [hr]
    · refine NL (TN (CF rfl (SK (TN (RG (MV rfl rfl (MV rfl rfl (ST (Ex.add64 rfl rfl (by omega)) rfl ?_))))))))
      refine AS rfl rfl (NL (IB ?_))
      refine WQ.again1 (q + (rune (l.drop q)).2) ⟨rfl, rfl, trivial⟩ ?_ ?_
      · refine ⟨by omega, ?_, M, H⟩
        rw [hv, vld_cons hne, decide_eq_true (by omega), Bool.true_and, List.drop_drop]
      · omega
  · have hr : vld l = true := by rw [hv, List.drop_eq_nil_of_le (by omega)]; rfl
    refine NL (TN (CF rfl (WC.exit (WQ.thenExit (WQ.thenExit (WQ.exitHere (TN (SQ (RG (AS rfl rfl (NL (TN (RT ?_)))))))))))))
    refine WQ.ret1 rfl rfl H.ext ?_
    exact by rw [hr]
end Go.Proofs.YtegkhjbajijidaaGreatDoor
end
section
namespace Go.Ph
open Go Go.RowKit
section
variable {P : Program} {e : Env} {w : World} {x : Operand} {v : Value} {dst : Option Tmp} {ty t : TypeId} {pos : String} {af : Array Edge} {g : Option (Nat × Bool)}
theorem Ex.loadCell {p : Addr} (hx : ev e x = some (.pointer (some p))) (hc : w.cell? p = some v) (ha : ∀ w, (isAgg t).run P w = .ok false w) : Ex P ⟨dst, .load t x, ty, pos, af, g⟩ e w v w := Ex.loadK hx (by
  simp only [loadVar, Sem.run_bind, ha, Result.andThen_ok, Bool.false_eq_true, if_false]
  simp [load, Sem.run, hc])
theorem Ex.loadAggW {b o s : Nat} {cs : List Value} (hx : ev e x = some (ptr b o)) (hc : ∀ j u, cs[j]? = some u → w.cell? ⟨b, o + j, none⟩ = some u) (ha : ∀ w, (isAgg t).run P w = .ok true w) (hs : ∀ w, (sizeOf t).run P w = .ok s w) (hl : cs.length = s) : Ex P ⟨dst, .load t x, ty, pos, af, g⟩ e w (.agg cs.toArray) w := Ex.loadK hx (by
  subst hl
  have hlc : (loadCells ⟨b, o, none⟩ cs.length).run P w = .ok cs.toArray w :=
    run_loadCells_list (P := P) w ⟨b, o, none⟩ cs (fun j v hv => by rw [Addr.add_lit]; exact hc j v hv)
  simp only [loadVar, Sem.run_bind, ha, Result.andThen_ok, if_true, hs, hlc, Sem.run_pure])
end
end Go.Ph
namespace Go.Ph.Chs
open Go Go.Ph.Utf Go.Ph.Gr
theorem and64 {m s : Nat} (hm : m < 2 ^ 64) : IntKind.u64.wrap ((m &&& s : Nat) : Int) = ((m &&& s : Nat) : Int) := by
  have h : m &&& s ≤ m := Nat.and_le_left
  exact u64_in (by omega)
theorem or64 {m s : Nat} (hm : m < 2 ^ 64) (hs : s < 2 ^ 64) : IntKind.u64.wrap ((m ||| s : Nat) : Int) = ((m ||| s : Nat) : Int) := by
  have h := Nat.or_lt_two_pow hm hs
  exact u64_in (by omega)
theorem shl64 {b k : Nat} (hb : b < 256) (hk : k ≤ 56) : b <<< k < 2 ^ 64 ∧ IntKind.u64.wrap ((b * 2 ^ k : Nat) : Int) = ((b <<< k : Nat) : Int) := by
  have h2 : 2 ^ k ≤ 2 ^ 56 := Nat.pow_le_pow_right (by decide) hk
  have h3 : b * 2 ^ k < 2 ^ 64 := Nat.lt_of_le_of_lt (Nat.mul_le_mul (show b ≤ 255 by omega) h2) (by decide)
  rw [Nat.shiftLeft_eq]
  exact ⟨h3, u64_in (by omega)⟩
def FF (c : Nat) : Prop := ∃ sz ai lo hi, Lib.firstT c < 256 ∧ Lib.firstT c &&& 7 = sz ∧ Lib.firstT c / 2 ^ 4 = ai ∧ ai < 16 ∧ Lib.accLo ai = lo ∧ Lib.accHi ai = hi ∧ lo < 256 ∧ hi < 256 ∧ (sz = 1 ∨ sz = 2 ∨ sz = 3 ∨ sz = 4) ∧
    (sz = 1 → ¬ (194 ≤ c ∧ c ≤ 244)) ∧ (sz = 2 → 194 ≤ c ∧ c ≤ 223 ∧ lo = 128 ∧ hi = 191) ∧ (sz = 3 → 224 ≤ c ∧ c ≤ 239 ∧ lo = (if c = 224 then 160 else 128) ∧ hi = (if c = 237 then 159 else 191)) ∧ (sz = 4 → 240 ≤ c ∧ c ≤ 244 ∧ lo = (if c = 240 then 144 else 128) ∧ hi = (if c = 244 then 143 else 191))
theorem first_facts (c : Nat) (h : 128 ≤ c) (h2 : c < 256) : FF c := by
  have key : ∀ F sz ai lo hi : Nat, Lib.firstT c = F → F < 256 → F &&& 7 = sz → F / 2 ^ 4 = ai → ai < 16 → Lib.accLo ai = lo → Lib.accHi ai = hi → lo < 256 → hi < 256 → (sz = 1 ∨ sz = 2 ∨ sz = 3 ∨ sz = 4) →
      (sz = 1 → ¬ (194 ≤ c ∧ c ≤ 244)) → (sz = 2 → 194 ≤ c ∧ c ≤ 223 ∧ lo = 128 ∧ hi = 191) → (sz = 3 → 224 ≤ c ∧ c ≤ 239 ∧ lo = (if c = 224 then 160 else 128) ∧ hi = (if c = 237 then 159 else 191)) → (sz = 4 → 240 ≤ c ∧ c ≤ 244 ∧ lo = (if c = 240 then 144 else 128) ∧ hi = (if c = 244 then 143 else 191)) → FF c :=
    fun F sz ai lo hi e1 e2 e3 e4 e5 e6 e7 e8 e9 ea eb ec ed ee => ⟨sz, ai, lo, hi, by rw [e1]; exact e2, by rw [e1]; exact e3, by rw [e1]; exact e4, e5, e6, e7, e8, e9, ea, eb, ec, ed, ee⟩
  have hF : Lib.firstT c = if c < 194 then 241 else if c < 224 then 2 else if c = 224 then 19 else if c < 237 then 3 else if c = 237 then 35 else if c < 240 then 3 else if c = 240 then 52 else if c < 244 then 4 else if c = 244 then 68 else 241 := by
    unfold Lib.firstT; rw [if_neg (by omega)]
  by_cases c1 : c < 194
  · exact key 241 1 15 0 0 (by rw [hF, if_pos c1]) (by decide) (by decide) (by decide) (by decide) (by decide) (by decide) (by decide) (by decide) (by decide) (fun _ => by omega) (fun h => by omega) (fun h => by omega) (fun h => by omega)
  · by_cases c2 : c < 224
    · exact key 2 2 0 128 191 (by rw [hF, if_neg c1, if_pos c2]) (by decide) (by decide) (by decide) (by decide) (by decide) (by decide) (by decide) (by decide) (by decide) (fun h => by omega) (fun h => ⟨by omega, by omega, rfl, rfl⟩) (fun h => by omega) (fun h => by omega)
    · by_cases c3 : c = 224
      · exact key 19 3 1 160 191 (by rw [hF, if_neg c1, if_neg c2, if_pos c3]) (by decide) (by decide) (by decide) (by decide) (by decide) (by decide) (by decide) (by decide) (by decide) (fun h => by omega) (fun h => by omega) (fun h => ⟨by omega, by omega, by rw [if_pos c3], by rw [if_neg (by omega)]⟩) (fun h => by omega)
      · by_cases c4 : c < 237
        · exact key 3 3 0 128 191 (by rw [hF, if_neg c1, if_neg c2, if_neg c3, if_pos c4]) (by decide) (by decide) (by decide) (by decide) (by decide) (by decide) (by decide) (by decide) (by decide) (fun h => by omega) (fun h => by omega) (fun h => ⟨by omega, by omega, by rw [if_neg c3], by rw [if_neg (by omega)]⟩) (fun h => by omega)
        · by_cases c5 : c = 237
          · exact key 35 3 2 128 159 (by rw [hF, if_neg c1, if_neg c2, if_neg c3, if_neg c4, if_pos c5]) (by decide) (by decide) (by decide) (by decide) (by decide) (by decide) (by decide) (by decide) (by decide) (fun h => by omega) (fun h => by omega) (fun h => ⟨by omega, by omega, by rw [if_neg c3], by rw [if_pos c5]⟩) (fun h => by omega)
          · by_cases c6 : c < 240
            · exact key 3 3 0 128 191 (by rw [hF, if_neg c1, if_neg c2, if_neg c3, if_neg c4, if_neg c5, if_pos c6]) (by decide) (by decide) (by decide) (by decide) (by decide) (by decide) (by decide) (by decide) (by decide) (fun h => by omega) (fun h => by omega) (fun h => ⟨by omega, by omega, by rw [if_neg c3], by rw [if_neg c5]⟩) (fun h => by omega)
            · by_cases c7 : c = 240
              · exact key 52 4 3 144 191 (by rw [hF, if_neg c1, if_neg c2, if_neg c3, if_neg c4, if_neg c5, if_neg c6, if_pos c7]) (by decide) (by decide) (by decide) (by decide) (by decide) (by decide) (by decide) (by decide) (by decide) (fun h => by omega) (fun h => by omega) (fun h => by omega) (fun h => ⟨by omega, by omega, by rw [if_pos c7], by rw [if_neg (by omega)]⟩)
              · by_cases c8 : c < 244
                · exact key 4 4 0 128 191 (by rw [hF, if_neg c1, if_neg c2, if_neg c3, if_neg c4, if_neg c5, if_neg c6, if_neg c7, if_pos c8]) (by decide) (by decide) (by decide) (by decide) (by decide) (by decide) (by decide) (by decide) (by decide) (fun h => by omega) (fun h => by omega) (fun h => by omega) (fun h => ⟨by omega, by omega, by rw [if_neg c7], by rw [if_neg (by omega)]⟩)
                · by_cases c9 : c = 244
                  · exact key 68 4 4 128 143 (by rw [hF, if_neg c1, if_neg c2, if_neg c3, if_neg c4, if_neg c5, if_neg c6, if_neg c7, if_neg c8, if_pos c9]) (by decide) (by decide) (by decide) (by decide) (by decide) (by decide) (by decide) (by decide) (by decide) (fun h => by omega) (fun h => by omega) (fun h => by omega) (fun h => ⟨by omega, by omega, by rw [if_neg c7], by rw [if_pos c9]⟩)
                  · exact key 241 1 15 0 0 (by rw [hF, if_neg c1, if_neg c2, if_neg c3, if_neg c4, if_neg c5, if_neg c6, if_neg c7, if_neg c8, if_neg c9]) (by decide) (by decide) (by decide) (by decide) (by decide) (by decide) (by decide) (by decide) (by decide) (fun _ => by omega) (fun h => by omega) (fun h => by omega) (fun h => by omega)
theorem runeN_else {m b0 b1 b2 b3 : Nat} (h : 128 ≤ b0) (h1 : ¬ (192 ≤ b0 ∧ b0 ≤ 247)) : runeN m b0 b1 b2 b3 = (-1, 1) := by
  unfold runeN
  rw [if_neg (by omega), if_neg (by omega), if_neg (by omega), if_neg (by omega)]
theorem multi1 {t : List UInt8} (h : 128 ≤ nat t 0) (h1 : ¬ (194 ≤ nat t 0 ∧ nat t 0 ≤ 244)) : (rune t).1 < 0 := by
  rw [rune_eq]
  have n1 := nat_lt t 1
  by_cases k0 : 192 ≤ nat t 0 ∧ nat t 0 ≤ 247
  · unfold runeN
    rw [if_neg (by omega)]
    by_cases k1 : nat t 0 ≤ 223
    · rw [if_pos (by omega)]
      split
      · rename_i hc
        have ho := hc.2
        unfold okC at ho
        rw [chk, if_pos (by unfold badN; omega)]; decide
      · decide
    · rw [if_neg (by omega), if_neg (by omega), if_pos (by omega)]
      split
      · rename_i hc
        obtain ⟨_, o1, o2, o3⟩ := hc
        unfold okC at o1 o2 o3
        rw [chk, if_pos (by unfold badN; omega)]; decide
      · decide
  · rw [runeN_else h k0]; decide
theorem multi2 {t : List UInt8} (h : 194 ≤ nat t 0 ∧ nat t 0 ≤ 223) : (2 ≤ t.length ∧ 128 ≤ nat t 1 ∧ nat t 1 ≤ 191 → 0 ≤ (rune t).1 ∧ (rune t).2 = 2) ∧ (¬ (2 ≤ t.length ∧ 128 ≤ nat t 1 ∧ nat t 1 ≤ 191) → (rune t).1 < 0) := by
  rw [rune_eq]
  unfold runeN
  rw [if_neg (by omega), if_pos (by omega)]
  constructor
  · intro hc
    rw [if_pos ⟨hc.1, by unfold okC; omega⟩, chk, if_neg (by unfold badN; omega)]
    exact ⟨by simp only []; omega, rfl⟩
  · intro hc
    rw [if_neg (by unfold okC; omega)]; decide
theorem multi3 {t : List UInt8} {lo hi : Nat} (h : 224 ≤ nat t 0 ∧ nat t 0 ≤ 239) (hlo : lo = if nat t 0 = 224 then 160 else 128) (hhi : hi = if nat t 0 = 237 then 159 else 191) :
    (3 ≤ t.length ∧ lo ≤ nat t 1 ∧ nat t 1 ≤ hi ∧ 128 ≤ nat t 2 ∧ nat t 2 ≤ 191 → 0 ≤ (rune t).1 ∧ (rune t).2 = 3) ∧ (¬ (3 ≤ t.length ∧ lo ≤ nat t 1 ∧ nat t 1 ≤ hi ∧ 128 ≤ nat t 2 ∧ nat t 2 ≤ 191) → (rune t).1 < 0) := by
  rw [rune_eq]
  unfold runeN
  rw [if_neg (by omega), if_neg (by omega), if_pos (by omega)]
  have hl : lo = 160 ∧ nat t 0 = 224 ∨ lo = 128 ∧ nat t 0 ≠ 224 := by split at hlo <;> omega
  have hh : hi = 159 ∧ nat t 0 = 237 ∨ hi = 191 ∧ nat t 0 ≠ 237 := by split at hhi <;> omega
  constructor
  · intro hc
    rw [if_pos ⟨hc.1, by unfold okC; omega, by unfold okC; omega⟩, chk, if_neg (by unfold badN; omega)]
    exact ⟨by simp only []; omega, rfl⟩
  · intro hc
    split
    · rename_i hd
      obtain ⟨d0, d1, d2⟩ := hd
      unfold okC at d1 d2
      rw [chk, if_pos (by unfold badN; omega)]; decide
    · decide
theorem multi4 {t : List UInt8} {lo hi : Nat} (h : 240 ≤ nat t 0 ∧ nat t 0 ≤ 244) (hlo : lo = if nat t 0 = 240 then 144 else 128) (hhi : hi = if nat t 0 = 244 then 143 else 191) :
    (4 ≤ t.length ∧ lo ≤ nat t 1 ∧ nat t 1 ≤ hi ∧ (128 ≤ nat t 2 ∧ nat t 2 ≤ 191) ∧ (128 ≤ nat t 3 ∧ nat t 3 ≤ 191) → 0 ≤ (rune t).1 ∧ (rune t).2 = 4) ∧ (¬ (4 ≤ t.length ∧ lo ≤ nat t 1 ∧ nat t 1 ≤ hi ∧ (128 ≤ nat t 2 ∧ nat t 2 ≤ 191) ∧ (128 ≤ nat t 3 ∧ nat t 3 ≤ 191)) → (rune t).1 < 0) := by
  rw [rune_eq]
  unfold runeN
  rw [if_neg (by omega), if_neg (by omega), if_neg (by omega), if_pos (by omega)]
  have hl : lo = 144 ∧ nat t 0 = 240 ∨ lo = 128 ∧ nat t 0 ≠ 240 := by split at hlo <;> omega
  have hh : hi = 143 ∧ nat t 0 = 244 ∨ hi = 191 ∧ nat t 0 ≠ 244 := by split at hhi <;> omega
  constructor
  · intro hc
    rw [if_pos ⟨hc.1, by unfold okC; omega, by unfold okC; omega, by unfold okC; omega⟩, chk, if_neg (by unfold badN; omega)]
    exact ⟨by simp only []; omega, rfl⟩
  · intro hc
    split
    · rename_i hd
      obtain ⟨d0, d1, d2, d3⟩ := hd
      unfold okC at d1 d2 d3
      rw [chk, if_pos (by unfold badN; omega)]; decide
    · decide
theorem vld_32 {x : List UInt8} (hx : 32 ≤ x.length) (h1 : ∀ i, i < 8 → nat x i < 128) (h2 : ∀ i, i < 8 → nat (x.drop 8) i < 128) (h3 : ∀ i, i < 8 → nat (x.drop 16) i < 128) (h4 : ∀ i, i < 8 → nat (x.drop 24) i < 128) : vld x = vld (x.drop 32) := by
  have e1 := vld_asciis 8 x (by omega) h1
  have e2 := vld_asciis 8 (x.drop 8) (by rw [List.length_drop]; omega) h2
  have e3 := vld_asciis 8 (x.drop 16) (by rw [List.length_drop]; omega) h3
  have e4 := vld_asciis 8 (x.drop 24) (by rw [List.length_drop]; omega) h4
  rw [List.drop_drop] at e2 e3 e4
  exact (e1.trans e2).trans (e3.trans e4)
theorem vld_bad {t : List UInt8} (hne : t ≠ []) (h : (rune t).1 < 0) : vld t = false := by rw [vld_cons hne, decide_eq_false (by omega), Bool.false_and]
theorem vld_good {t : List UInt8} {k : Nat} (hne : t ≠ []) (h : 0 ≤ (rune t).1 ∧ (rune t).2 = k) : vld t = vld (t.drop k) := by rw [vld_cons hne, decide_eq_true h.1, Bool.true_and, h.2]
end Go.Ph.Chs
end
section
namespace Go.Proofs.YtegkhjbajijidaaGreatDoor
open Go Go.RowKit Go.Ph
open Go.Ph.Gr Go.Ph.Utf Go.Ph.Chs
theorem word_spec (l : List UInt8) (hl : 8 ≤ l.length) : Ct Tryz.prog 46 [S l] (fun _ => True) (fun r _ => r = .int .u64 ((w8 l : Nat) : Int)) := by
  refine Ct.of Tryz.func46 (enters Tryz.func46 (by kernel_rfl) rfl) rfl rfl rfl ?_
  intro w0 M0 H hp
  obtain ⟨b0, hb0⟩ : ∃ u, l[0]? = some u := ⟨_, List.getElem?_eq_getElem (by omega)⟩
  have hlt0 := b0.toNat_lt
  have hn0 := nat_of hb0
  obtain ⟨b1, hb1⟩ : ∃ u, l[1]? = some u := ⟨_, List.getElem?_eq_getElem (by omega)⟩
  have hlt1 := b1.toNat_lt
  have hn1 := nat_of hb1
  obtain ⟨b2, hb2⟩ : ∃ u, l[2]? = some u := ⟨_, List.getElem?_eq_getElem (by omega)⟩
  have hlt2 := b2.toNat_lt
  have hn2 := nat_of hb2
  obtain ⟨b3, hb3⟩ : ∃ u, l[3]? = some u := ⟨_, List.getElem?_eq_getElem (by omega)⟩
  have hlt3 := b3.toNat_lt
  have hn3 := nat_of hb3
  obtain ⟨b4, hb4⟩ : ∃ u, l[4]? = some u := ⟨_, List.getElem?_eq_getElem (by omega)⟩
  have hlt4 := b4.toNat_lt
  have hn4 := nat_of hb4
  obtain ⟨b5, hb5⟩ : ∃ u, l[5]? = some u := ⟨_, List.getElem?_eq_getElem (by omega)⟩
  have hlt5 := b5.toNat_lt
  have hn5 := nat_of hb5
  obtain ⟨b6, hb6⟩ : ∃ u, l[6]? = some u := ⟨_, List.getElem?_eq_getElem (by omega)⟩
  have hlt6 := b6.toNat_lt
  have hn6 := nat_of hb6
  obtain ⟨b7, hb7⟩ : ∃ u, l[7]? = some u := ⟨_, List.getElem?_eq_getElem (by omega)⟩
  have hlt7 := b7.toNat_lt
  have hn7 := nat_of hb7
  have hw0 : b0.toNat < 2 ^ 64 := by omega
  have hs1 := shl64 (b := b1.toNat) (k := 8) hlt1 (by decide)
  have hw1 : b0.toNat ||| b1.toNat <<< 8 < 2 ^ 64 := Nat.or_lt_two_pow hw0 hs1.1
  have hs2 := shl64 (b := b2.toNat) (k := 16) hlt2 (by decide)
  have hw2 : b0.toNat ||| b1.toNat <<< 8 ||| b2.toNat <<< 16 < 2 ^ 64 := Nat.or_lt_two_pow hw1 hs2.1
  have hs3 := shl64 (b := b3.toNat) (k := 24) hlt3 (by decide)
  have hw3 : b0.toNat ||| b1.toNat <<< 8 ||| b2.toNat <<< 16 ||| b3.toNat <<< 24 < 2 ^ 64 := Nat.or_lt_two_pow hw2 hs3.1
  have hs4 := shl64 (b := b4.toNat) (k := 32) hlt4 (by decide)
  have hw4 : b0.toNat ||| b1.toNat <<< 8 ||| b2.toNat <<< 16 ||| b3.toNat <<< 24 ||| b4.toNat <<< 32 < 2 ^ 64 := Nat.or_lt_two_pow hw3 hs4.1
  have hs5 := shl64 (b := b5.toNat) (k := 40) hlt5 (by decide)
  have hw5 : b0.toNat ||| b1.toNat <<< 8 ||| b2.toNat <<< 16 ||| b3.toNat <<< 24 ||| b4.toNat <<< 32 ||| b5.toNat <<< 40 < 2 ^ 64 := Nat.or_lt_two_pow hw4 hs5.1
  have hs6 := shl64 (b := b6.toNat) (k := 48) hlt6 (by decide)
  have hw6 : b0.toNat ||| b1.toNat <<< 8 ||| b2.toNat <<< 16 ||| b3.toNat <<< 24 ||| b4.toNat <<< 32 ||| b5.toNat <<< 40 ||| b6.toNat <<< 48 < 2 ^ 64 := Nat.or_lt_two_pow hw5 hs6.1
  have hs7 := shl64 (b := b7.toNat) (k := 56) hlt7 (by decide)
  have hw7 : b0.toNat ||| b1.toNat <<< 8 ||| b2.toNat <<< 16 ||| b3.toNat <<< 24 ||| b4.toNat <<< 32 ||| b5.toNat <<< 40 ||| b6.toNat <<< 48 ||| b7.toNat <<< 56 < 2 ^ 64 := Nat.or_lt_two_pow hw6 hs7.1
  refine SQ (RG (AS rfl rfl (NL (TN (SQ (CF rfl (SK (TN (SQ (WC.draw (m := 39) rfl rfl H ?_))))))))))
  intro w H
  refine WA.take (i := 0) rfl (by kernel_rfl) (by kernel_rfl) (by kernel_rfl) (fun _ => Ex.move rfl) (Wn.none rfl) rfl rfl (fun _ _ => rfl) (WA.take (i := 1) rfl (by kernel_rfl) (by kernel_rfl) (by kernel_rfl) (fun _ => Ex.idxStr Tryz.underlying9 rfl rfl (hb0)) (Wn.none rfl) rfl rfl (fun _ _ => rfl) (WA.take (i := 2) rfl (by kernel_rfl) (by kernel_rfl) (by kernel_rfl) (fun _ => Ex.convU64 Tryz.underlying5 Tryz.underlying96 rfl (by omega)) (Wn.none rfl) rfl rfl (fun _ _ => rfl) ?_))
  refine WA.take (i := 3) rfl (by kernel_rfl) (by kernel_rfl) (by kernel_rfl) (fun _ => Ex.move rfl) (Wn.none rfl) rfl rfl (fun _ _ => rfl) (WA.take (i := 4) rfl (by kernel_rfl) (by kernel_rfl) (by kernel_rfl) (fun _ => Ex.idxStr Tryz.underlying9 rfl rfl (hb1)) (Wn.none rfl) rfl rfl (fun _ _ => rfl) (WA.take (i := 5) rfl (by kernel_rfl) (by kernel_rfl) (by kernel_rfl) (fun _ => Ex.convU64 Tryz.underlying5 Tryz.underlying96 rfl (by omega)) (Wn.none rfl) rfl rfl (fun _ _ => rfl) ?_))
  refine WA.takeE (v' := .int .u64 ((b1.toNat <<< 8 : Nat) : Int)) (i := 6) rfl (by kernel_rfl) (by kernel_rfl) (by kernel_rfl) (fun _ => Ex.shlK (m := b1.toNat) (s := 8) rfl rfl (by decide)) (congrArg (Value.int .u64) hs1.2) (Wn.none rfl) rfl rfl (fun _ _ => rfl) (WA.takeE (v' := .int .u64 ((b0.toNat ||| b1.toNat <<< 8 : Nat) : Int)) (i := 7) rfl (by kernel_rfl) (by kernel_rfl) (by kernel_rfl) (fun _ => Ex.orK (m := (b0.toNat)) (s := (b1.toNat <<< 8)) rfl rfl hw0 hs1.1) (congrArg (Value.int .u64) (or64 hw0 hs1.1)) (Wn.none rfl) rfl rfl (fun _ _ => rfl) (WA.take (i := 8) rfl (by kernel_rfl) (by kernel_rfl) (by kernel_rfl) (fun _ => Ex.move rfl) (Wn.none rfl) rfl rfl (fun _ _ => rfl) (WA.take (i := 9) rfl (by kernel_rfl) (by kernel_rfl) (by kernel_rfl) (fun _ => Ex.idxStr Tryz.underlying9 rfl rfl (hb2)) (Wn.none rfl) rfl rfl (fun _ _ => rfl) (WA.take (i := 10) rfl (by kernel_rfl) (by kernel_rfl) (by kernel_rfl) (fun _ => Ex.convU64 Tryz.underlying5 Tryz.underlying96 rfl (by omega)) (Wn.none rfl) rfl rfl (fun _ _ => rfl) ?_))))
  refine WA.takeE (v' := .int .u64 ((b2.toNat <<< 16 : Nat) : Int)) (i := 11) rfl (by kernel_rfl) (by kernel_rfl) (by kernel_rfl) (fun _ => Ex.shlK (m := b2.toNat) (s := 16) rfl rfl (by decide)) (congrArg (Value.int .u64) hs2.2) (Wn.none rfl) rfl rfl (fun _ _ => rfl) (WA.takeE (v' := .int .u64 ((b0.toNat ||| b1.toNat <<< 8 ||| b2.toNat <<< 16 : Nat) : Int)) (i := 12) rfl (by kernel_rfl) (by kernel_rfl) (by kernel_rfl) (fun _ => Ex.orK (m := (b0.toNat ||| b1.toNat <<< 8)) (s := (b2.toNat <<< 16)) rfl rfl hw1 hs2.1) (congrArg (Value.int .u64) (or64 hw1 hs2.1)) (Wn.none rfl) rfl rfl (fun _ _ => rfl) (WA.take (i := 13) rfl (by kernel_rfl) (by kernel_rfl) (by kernel_rfl) (fun _ => Ex.move rfl) (Wn.none rfl) rfl rfl (fun _ _ => rfl) (WA.take (i := 14) rfl (by kernel_rfl) (by kernel_rfl) (by kernel_rfl) (fun _ => Ex.idxStr Tryz.underlying9 rfl rfl (hb3)) (Wn.none rfl) rfl rfl (fun _ _ => rfl) (WA.take (i := 15) rfl (by kernel_rfl) (by kernel_rfl) (by kernel_rfl) (fun _ => Ex.convU64 Tryz.underlying5 Tryz.underlying96 rfl (by omega)) (Wn.none rfl) rfl rfl (fun _ _ => rfl) ?_))))
  refine WA.takeE (v' := .int .u64 ((b3.toNat <<< 24 : Nat) : Int)) (i := 16) rfl (by kernel_rfl) (by kernel_rfl) (by kernel_rfl) (fun _ => Ex.shlK (m := b3.toNat) (s := 24) rfl rfl (by decide)) (congrArg (Value.int .u64) hs3.2) (Wn.none rfl) rfl rfl (fun _ _ => rfl) (WA.takeE (v' := .int .u64 ((b0.toNat ||| b1.toNat <<< 8 ||| b2.toNat <<< 16 ||| b3.toNat <<< 24 : Nat) : Int)) (i := 17) rfl (by kernel_rfl) (by kernel_rfl) (by kernel_rfl) (fun _ => Ex.orK (m := (b0.toNat ||| b1.toNat <<< 8 ||| b2.toNat <<< 16)) (s := (b3.toNat <<< 24)) rfl rfl hw2 hs3.1) (congrArg (Value.int .u64) (or64 hw2 hs3.1)) (Wn.none rfl) rfl rfl (fun _ _ => rfl) (WA.take (i := 18) rfl (by kernel_rfl) (by kernel_rfl) (by kernel_rfl) (fun _ => Ex.move rfl) (Wn.none rfl) rfl rfl (fun _ _ => rfl) (WA.take (i := 19) rfl (by kernel_rfl) (by kernel_rfl) (by kernel_rfl) (fun _ => Ex.idxStr Tryz.underlying9 rfl rfl (hb4)) (Wn.none rfl) rfl rfl (fun _ _ => rfl) ?_)))
  refine WA.take (i := 20) rfl (by kernel_rfl) (by kernel_rfl) (by kernel_rfl) (fun _ => Ex.convU64 Tryz.underlying5 Tryz.underlying96 rfl (by omega)) (Wn.none rfl) rfl rfl (fun _ _ => rfl) ?_
  refine WA.takeE (v' := .int .u64 ((b4.toNat <<< 32 : Nat) : Int)) (i := 21) rfl (by kernel_rfl) (by kernel_rfl) (by kernel_rfl) (fun _ => Ex.shlK (m := b4.toNat) (s := 32) rfl rfl (by decide)) (congrArg (Value.int .u64) hs4.2) (Wn.none rfl) rfl rfl (fun _ _ => rfl) (WA.takeE (v' := .int .u64 ((b0.toNat ||| b1.toNat <<< 8 ||| b2.toNat <<< 16 ||| b3.toNat <<< 24 ||| b4.toNat <<< 32 : Nat) : Int)) (i := 22) rfl (by kernel_rfl) (by kernel_rfl) (by kernel_rfl) (fun _ => Ex.orK (m := (b0.toNat ||| b1.toNat <<< 8 ||| b2.toNat <<< 16 ||| b3.toNat <<< 24)) (s := (b4.toNat <<< 32)) rfl rfl hw3 hs4.1) (congrArg (Value.int .u64) (or64 hw3 hs4.1)) (Wn.none rfl) rfl rfl (fun _ _ => rfl) (WA.take (i := 23) rfl (by kernel_rfl) (by kernel_rfl) (by kernel_rfl) (fun _ => Ex.move rfl) (Wn.none rfl) rfl rfl (fun _ _ => rfl) (WA.take (i := 24) rfl (by kernel_rfl) (by kernel_rfl) (by kernel_rfl) (fun _ => Ex.idxStr Tryz.underlying9 rfl rfl (hb5)) (Wn.none rfl) rfl rfl (fun _ _ => rfl) ?_)))
  refine WA.take (i := 25) rfl (by kernel_rfl) (by kernel_rfl) (by kernel_rfl) (fun _ => Ex.convU64 Tryz.underlying5 Tryz.underlying96 rfl (by omega)) (Wn.none rfl) rfl rfl (fun _ _ => rfl) ?_
  refine WA.takeE (v' := .int .u64 ((b5.toNat <<< 40 : Nat) : Int)) (i := 26) rfl (by kernel_rfl) (by kernel_rfl) (by kernel_rfl) (fun _ => Ex.shlK (m := b5.toNat) (s := 40) rfl rfl (by decide)) (congrArg (Value.int .u64) hs5.2) (Wn.none rfl) rfl rfl (fun _ _ => rfl) (WA.takeE (v' := .int .u64 ((b0.toNat ||| b1.toNat <<< 8 ||| b2.toNat <<< 16 ||| b3.toNat <<< 24 ||| b4.toNat <<< 32 ||| b5.toNat <<< 40 : Nat) : Int)) (i := 27) rfl (by kernel_rfl) (by kernel_rfl) (by kernel_rfl) (fun _ => Ex.orK (m := (b0.toNat ||| b1.toNat <<< 8 ||| b2.toNat <<< 16 ||| b3.toNat <<< 24 ||| b4.toNat <<< 32)) (s := (b5.toNat <<< 40)) rfl rfl hw4 hs5.1) (congrArg (Value.int .u64) (or64 hw4 hs5.1)) (Wn.none rfl) rfl rfl (fun _ _ => rfl) (WA.take (i := 28) rfl (by kernel_rfl) (by kernel_rfl) (by kernel_rfl) (fun _ => Ex.move rfl) (Wn.none rfl) rfl rfl (fun _ _ => rfl) (WA.take (i := 29) rfl (by kernel_rfl) (by kernel_rfl) (by kernel_rfl) (fun _ => Ex.idxStr Tryz.underlying9 rfl rfl (hb6)) (Wn.none rfl) rfl rfl (fun _ _ => rfl) ?_)))
  refine WA.take (i := 30) rfl (by kernel_rfl) (by kernel_rfl) (by kernel_rfl) (fun _ => Ex.convU64 Tryz.underlying5 Tryz.underlying96 rfl (by omega)) (Wn.none rfl) rfl rfl (fun _ _ => rfl) ?_
  refine WA.takeE (v' := .int .u64 ((b6.toNat <<< 48 : Nat) : Int)) (i := 31) rfl (by kernel_rfl) (by kernel_rfl) (by kernel_rfl) (fun _ => Ex.shlK (m := b6.toNat) (s := 48) rfl rfl (by decide)) (congrArg (Value.int .u64) hs6.2) (Wn.none rfl) rfl rfl (fun _ _ => rfl) (WA.takeE (v' := .int .u64 ((b0.toNat ||| b1.toNat <<< 8 ||| b2.toNat <<< 16 ||| b3.toNat <<< 24 ||| b4.toNat <<< 32 ||| b5.toNat <<< 40 ||| b6.toNat <<< 48 : Nat) : Int)) (i := 32) rfl (by kernel_rfl) (by kernel_rfl) (by kernel_rfl) (fun _ => Ex.orK (m := (b0.toNat ||| b1.toNat <<< 8 ||| b2.toNat <<< 16 ||| b3.toNat <<< 24 ||| b4.toNat <<< 32 ||| b5.toNat <<< 40)) (s := (b6.toNat <<< 48)) rfl rfl hw5 hs6.1) (congrArg (Value.int .u64) (or64 hw5 hs6.1)) (Wn.none rfl) rfl rfl (fun _ _ => rfl) (ON 33 (by kernel_rfl) rfl (MV rfl rfl (NA (ON 34 (by kernel_rfl) rfl (ST (Ex.idxStr Tryz.underlying9 rfl rfl (hb7)) rfl (NA (ON 35 (by kernel_rfl) rfl ?_))))))))
  refine ST (Ex.convU64 Tryz.underlying5 Tryz.underlying96 rfl (by omega)) rfl ?_
  refine NA (ON 36 (by kernel_rfl) rfl (WR.stepE (v' := .int .u64 ((b7.toNat <<< 56 : Nat) : Int)) (Ex.shlK (m := b7.toNat) (s := 56) rfl rfl (by decide)) (congrArg (Value.int .u64) hs7.2) (Wn.none rfl) rfl rfl (NA (ON 37 (by kernel_rfl) rfl (WR.stepE (v' := .int .u64 ((b0.toNat ||| b1.toNat <<< 8 ||| b2.toNat <<< 16 ||| b3.toNat <<< 24 ||| b4.toNat <<< 32 ||| b5.toNat <<< 40 ||| b6.toNat <<< 48 ||| b7.toNat <<< 56 : Nat) : Int)) (Ex.orK (m := (b0.toNat ||| b1.toNat <<< 8 ||| b2.toNat <<< 16 ||| b3.toNat <<< 24 ||| b4.toNat <<< 32 ||| b5.toNat <<< 40 ||| b6.toNat <<< 48)) (s := (b7.toNat <<< 56)) rfl rfl hw6 hs7.1) (congrArg (Value.int .u64) (or64 hw6 hs7.1)) (Wn.none rfl) rfl rfl (NA (ON 38 (by kernel_rfl) rfl (AS rfl rfl (NA (WA.done (by kernel_rfl) (TN (RT ?_))))))))))))
  refine WQ.ret1 rfl rfl H.ext ?_
  exact by unfold w8; rw [hn0, hn1, hn2, hn3, hn4, hn5, hn6, hn7]
theorem tab_acc {w : World} (h : Lib.Utf8Tabs 0 1 w) {ai lo hi : Nat} (ha : ai < 16) (hlo : Lib.accLo ai = lo) (hhi : Lib.accHi ai = hi) : ∀ j u, ([.int .u8 ((lo : Nat) : Int), .int .u8 ((hi : Nat) : Int)] : List Value)[j]? = some u → w.cell? ⟨1, 2 * ai + j, none⟩ = some u := by
  obtain ⟨h1, h2⟩ := h.2 ai ha
  rw [hlo] at h1
  rw [hhi] at h2
  intro j u hj
  rcases j with _ | _ | j
  · cases hj; exact h1
  · cases hj; exact h2
  · simp at hj
theorem validString_spec (l : List UInt8) (hs : l.length ≤ 4611686018427387904) : Ct Tryz.prog 27 [S l] (fun M => Tabs M) (fun r _ => r = .bool (vld l)) := by
  refine Ct.of Tryz.func27 (enters Tryz.func27 (by kernel_rfl) rfl) rfl rfl rfl ?_
  intro w0 M0 H hp
  refine SQ (RG (AS rfl rfl (NL (TN (SQ (BL (WC.loop1 (fun (t : List UInt8) => [(0, S t)]) (fun (t : List UInt8) w => t.length ≤ l.length ∧ vld l = vld t ∧ ∃ M, St w0 M0 M [] w ∧ Tabs M) (fun (t : List UInt8) => t.length) (l) ⟨rfl, trivial⟩ (⟨Nat.le_refl _, rfl, M0, H, hp⟩) ?_)))))))
  intro t w
  rintro ⟨htl, hv, M, H, hp⟩
  refine SQ (SQ (RG (MV rfl rfl (ST (Ex.lenStr Tryz.underlying9 rfl) rfl ?_))))
  refine WR.split (Ex.gtr rfl rfl) (Wn.none rfl) rfl rfl (fun h1_2 => ?_) (fun h1_2 => ?_)
  · have hne : t ≠ [] := by rintro rfl; simp at h1_2
    obtain ⟨c, hc⟩ : ∃ c, t[0]? = some c := ⟨_, List.getElem?_eq_getElem (by omega)⟩
    have hcn := nat_of hc
    have hclt := c.toNat_lt
    refine NL (TN (CT rfl (SK (TN (BL (SQ (RG (MV rfl rfl (ST (Ex.idxStr Tryz.underlying9 rfl rfl (hc)) rfl (AS rfl rfl (NL (TN (SQ (SQ (RG (MV rfl rfl ?_))))))))))))))))
    refine WR.split (Ex.lss rfl rfl) (Wn.none rfl) rfl rfl (fun h3_1 => ?_) (fun h3_1 => ?_)
    · have hc128 : nat t 0 < 128 := by omega
      refine NL (TN (CT rfl (SQ (RG (MV rfl rfl (WR.stepE (v' := S (t.drop 1)) (Ex.sliceStr (i := 1) (j := t.length) Tryz.underlying9 rfl (.inl ⟨_, rfl, rfl⟩) (.inr ⟨rfl, rfl⟩) (by omega) (by omega)) (by rw [List.take_length]) (Wn.none rfl) rfl rfl ?_))))))
      refine AS rfl rfl (NL (TN (SQ (SQ (RG ?_)))))
      obtain ⟨u, hu⟩ : ∃ u, u = t.drop 1 := ⟨_, rfl⟩
      rw [← hu]
      have hv1 := vld_ascii hne hc128
      rw [← hu] at hv1
      have hul : u.length = t.length - 1 := by rw [hu, List.length_drop]
      refine MV rfl rfl (ST (Ex.lenStr Tryz.underlying9 rfl) rfl ?_)
      refine WR.split (Ex.gtr rfl rfl) (Wn.none rfl) rfl rfl (fun h5_2 => ?_) (fun h5_2 => ?_)
      · refine MV rfl rfl (SG (Ex.move rfl) rfl rfl rfl (WR.call H (word_spec u (by omega)) rfl (trivial) (Wn.some rfl rfl rfl) rfl ?_))
        intro v21 M w H hle hr21
        replace hp := hp.mono hle
        obtain rfl := hr21
        refine WR.stepE (v' := .int .u64 ((w8 u) &&& 9259542123273814144 : Nat)) (Ex.andK (m := (w8 u)) (s := 9259542123273814144) rfl rfl (w8_lt u) (by decide)) (congrArg (Value.int .u64) (and64 (w8_lt u))) (Wn.some rfl rfl rfl) rfl rfl ?_
        refine WR.split (Ex.eql rfl rfl) (Wn.some rfl rfl rfl) rfl rfl (fun h5_7 => ?_) (fun h5_7 => ?_)
        · have h8 : ∀ i, i < 8 → nat u i < 128 := w8_small (x := 0) (by rw [Nat.or_zero]; omega)
          have hv8 := vld_asciis 8 u (by omega) h8
          refine PT rfl rfl rfl (NL (TN (CT rfl (SQ (RG (MV rfl rfl (WR.stepE (v' := S (u.drop 8)) (Ex.sliceStr (i := 8) (j := u.length) Tryz.underlying9 rfl (.inl ⟨_, rfl, rfl⟩) (.inr ⟨rfl, rfl⟩) (by omega) (by omega)) (by rw [List.take_length]) (Wn.none rfl) rfl rfl ?_)))))))
          obtain ⟨u2, hu2⟩ : ∃ u2, u2 = u.drop 8 := ⟨_, rfl⟩
          rw [← hu2]
          have hul2 : u2.length = u.length - 8 := by rw [hu2, List.length_drop]
          refine AS rfl rfl (NL (TN (SQ (WC.draw (m := 13) rfl rfl H ?_))))
          intro w H
          refine ON 0 (by kernel_rfl) rfl (MV rfl rfl (NA (ON 1 (by kernel_rfl) rfl (ST (Ex.lenStr Tryz.underlying9 rfl) rfl (NA (ON 2 (by kernel_rfl) rfl ?_))))))
          refine WR.split (Ex.gtr rfl rfl) (Wn.none rfl) rfl rfl (fun h7_2 => ?_) (fun h7_2 => ?_)
          · refine NA (ON 3 (by kernel_rfl) rfl (MV rfl rfl (NA (WA.take (i := 4) rfl (by kernel_rfl) (by kernel_rfl) (by kernel_rfl) (fun _ => Ex.move rfl) (Wn.some rfl rfl rfl) rfl rfl (fun _ _ => rfl) (WA.take (i := 6) rfl (by kernel_rfl) (by kernel_rfl) (by kernel_rfl) (fun _ => Ex.move rfl) (Wn.some rfl rfl rfl) rfl rfl (fun _ _ => rfl) (WA.takeE (v' := S (u2.drop 8)) (i := 7) rfl (by kernel_rfl) (by kernel_rfl) (by kernel_rfl) (fun _ => Ex.sliceStr (i := 8) (j := u2.length) Tryz.underlying9 rfl (.inl ⟨_, rfl, rfl⟩) (.inr ⟨rfl, rfl⟩) (by omega) (by omega)) (by rw [List.take_length]) (Wn.some rfl rfl rfl) rfl rfl (fun _ _ => rfl) ?_))))))
            refine ON 5 (by kernel_rfl) rfl (WR.call H (word_spec u2 (by omega)) rfl (trivial) (Wn.some rfl rfl rfl) rfl ?_)
            intro v32 M w H hle hr32
            replace hp := hp.mono hle
            obtain rfl := hr32
            refine NA (ON 8 (by kernel_rfl) rfl (WR.call H (word_spec (u2.drop 8) (by rw [List.length_drop]; omega)) rfl (trivial) (Wn.some rfl rfl rfl) rfl ?_))
            intro v35 M w H hle hr35
            replace hp := hp.mono hle
            obtain rfl := hr35
            refine NA (ON 9 (by kernel_rfl) rfl (WR.stepE (v' := .int .u64 ((w8 u2) ||| (w8 (u2.drop 8)) : Nat)) (Ex.orK (m := (w8 u2)) (s := (w8 (u2.drop 8))) rfl rfl (w8_lt u2) (w8_lt (u2.drop 8))) (congrArg (Value.int .u64) (or64 (w8_lt u2) (w8_lt (u2.drop 8)))) (Wn.some rfl rfl rfl) rfl rfl (NA (ON 10 (by kernel_rfl) rfl (WR.stepE (v' := .int .u64 ((w8 u2 ||| w8 (u2.drop 8)) &&& 9259542123273814144 : Nat)) (Ex.andK (m := (w8 u2 ||| w8 (u2.drop 8))) (s := 9259542123273814144) rfl rfl (Nat.or_lt_two_pow (w8_lt u2) (w8_lt (u2.drop 8))) (by decide)) (congrArg (Value.int .u64) (and64 (Nat.or_lt_two_pow (w8_lt u2) (w8_lt (u2.drop 8))))) (Wn.some rfl rfl rfl) rfl rfl (NA (ON 11 (by kernel_rfl) rfl ?_)))))))
            refine WR.split (Ex.eql rfl rfl) (Wn.some rfl rfl rfl) rfl rfl (fun h7_11 => ?_) (fun h7_11 => ?_)
            · have ha := w8_small (l := u2) (x := w8 (u2.drop 8)) (by omega)
              have hb := w8_small (l := u2.drop 8) (x := w8 u2) (by rw [Nat.or_comm]; omega)
              have hv16 := (vld_asciis 8 u2 (by omega) ha).trans (vld_asciis 8 (u2.drop 8) (by rw [List.length_drop]; omega) hb)
              rw [List.drop_drop] at hv16
              refine NA (ON 12 (by kernel_rfl) rfl (PT rfl rfl rfl (NA (WA.done (by kernel_rfl) (TN (CT rfl (SQ (RG (MV rfl rfl (WR.stepE (v' := S (u2.drop 16)) (Ex.sliceStr (i := 16) (j := u2.length) Tryz.underlying9 rfl (.inl ⟨_, rfl, rfl⟩) (.inr ⟨rfl, rfl⟩) (by omega) (by omega)) (by rw [List.take_length]) (Wn.none rfl) rfl rfl ?_))))))))))
              refine AS rfl rfl (NL (TN (BL (WC.loop1 (fun (x : List UInt8) => [(0, S x)]) (fun (x : List UInt8) w => x.length < t.length ∧ vld l = vld x ∧ ∃ M, St w0 M0 M [] w ∧ Tabs M) (fun (x : List UInt8) => x.length) (u2.drop 16) ⟨rfl, trivial⟩ (⟨by rw [List.length_drop, hu2, hu, List.length_drop, List.length_drop]; omega, by rw [hv, hv1, hv8, ← hu2, hv16], M, H, hp⟩) ?_))))
              intro x w
              rintro ⟨hxt, hvx, M, H, hp⟩
              refine SQ (SQ (WC.draw (m := 21) rfl rfl H ?_))
              intro w H
              refine ON 0 (by kernel_rfl) rfl (MV rfl rfl (NA (ON 1 (by kernel_rfl) rfl (ST (Ex.lenStr Tryz.underlying9 rfl) rfl (NA (ON 2 (by kernel_rfl) rfl ?_))))))
              refine WR.split (Ex.gtr rfl rfl) (Wn.none rfl) rfl rfl (fun h9_2 => ?_) (fun h9_2 => ?_)
              · refine NA (ON 3 (by kernel_rfl) rfl (MV rfl rfl (NA (WA.take (i := 4) rfl (by kernel_rfl) (by kernel_rfl) (by kernel_rfl) (fun _ => Ex.move rfl) (Wn.some rfl rfl rfl) rfl rfl (fun _ _ => rfl) (WA.take (i := 6) rfl (by kernel_rfl) (by kernel_rfl) (by kernel_rfl) (fun _ => Ex.move rfl) (Wn.some rfl rfl rfl) rfl rfl (fun _ _ => rfl) (WA.takeE (v' := S (x.drop 8)) (i := 7) rfl (by kernel_rfl) (by kernel_rfl) (by kernel_rfl) (fun _ => Ex.sliceStr (i := 8) (j := x.length) Tryz.underlying9 rfl (.inl ⟨_, rfl, rfl⟩) (.inr ⟨rfl, rfl⟩) (by omega) (by omega)) (by rw [List.take_length]) (Wn.some rfl rfl rfl) rfl rfl (fun _ _ => rfl) ?_))))))
                refine WA.take (i := 10) rfl (by kernel_rfl) (by kernel_rfl) (by kernel_rfl) (fun _ => Ex.move rfl) (Wn.some rfl rfl rfl) rfl rfl (fun _ _ => rfl) (WA.takeE (v' := S (x.drop 16)) (i := 11) rfl (by kernel_rfl) (by kernel_rfl) (by kernel_rfl) (fun _ => Ex.sliceStr (i := 16) (j := x.length) Tryz.underlying9 rfl (.inl ⟨_, rfl, rfl⟩) (.inr ⟨rfl, rfl⟩) (by omega) (by omega)) (by rw [List.take_length]) (Wn.some rfl rfl rfl) rfl rfl (fun _ _ => rfl) ?_)
                refine WA.take (i := 13) rfl (by kernel_rfl) (by kernel_rfl) (by kernel_rfl) (fun _ => Ex.move rfl) (Wn.some rfl rfl rfl) rfl rfl (fun _ _ => rfl) (WA.takeE (v' := S (x.drop 24)) (i := 14) rfl (by kernel_rfl) (by kernel_rfl) (by kernel_rfl) (fun _ => Ex.sliceStr (i := 24) (j := x.length) Tryz.underlying9 rfl (.inl ⟨_, rfl, rfl⟩) (.inr ⟨rfl, rfl⟩) (by omega) (by omega)) (by rw [List.take_length]) (Wn.some rfl rfl rfl) rfl rfl (fun _ _ => rfl) ?_)
                refine ON 5 (by kernel_rfl) rfl (WR.call H (word_spec x (by omega)) rfl (trivial) (Wn.some rfl rfl rfl) rfl ?_)
                intro v47 M w H hle hr47
                replace hp := hp.mono hle
                obtain rfl := hr47
                refine NA (ON 8 (by kernel_rfl) rfl (WR.call H (word_spec (x.drop 8) (by rw [List.length_drop]; omega)) rfl (trivial) (Wn.some rfl rfl rfl) rfl ?_))
                intro v50 M w H hle hr50
                replace hp := hp.mono hle
                obtain rfl := hr50
                refine NA (WA.takeE (v' := .int .u64 ((w8 x) ||| (w8 (x.drop 8)) : Nat)) (i := 9) rfl (by kernel_rfl) (by kernel_rfl) (by kernel_rfl) (fun _ => Ex.orK (m := (w8 x)) (s := (w8 (x.drop 8))) rfl rfl (w8_lt x) (w8_lt (x.drop 8))) (congrArg (Value.int .u64) (or64 (w8_lt x) (w8_lt (x.drop 8)))) (Wn.some rfl rfl rfl) rfl rfl (fun _ _ => rfl) (ON 12 (by kernel_rfl) rfl (WR.call H (word_spec (x.drop 16) (by rw [List.length_drop]; omega)) rfl (trivial) (Wn.some rfl rfl rfl) rfl ?_)))
                intro v54 M w H hle hr54
                replace hp := hp.mono hle
                obtain rfl := hr54
                refine NA (ON 15 (by kernel_rfl) rfl (WR.call H (word_spec (x.drop 24) (by rw [List.length_drop]; omega)) rfl (trivial) (Wn.some rfl rfl rfl) rfl ?_))
                intro v57 M w H hle hr57
                replace hp := hp.mono hle
                obtain rfl := hr57
                refine NA (ON 16 (by kernel_rfl) rfl (WR.stepE (v' := .int .u64 ((w8 (x.drop 16)) ||| (w8 (x.drop 24)) : Nat)) (Ex.orK (m := (w8 (x.drop 16))) (s := (w8 (x.drop 24))) rfl rfl (w8_lt (x.drop 16)) (w8_lt (x.drop 24))) (congrArg (Value.int .u64) (or64 (w8_lt (x.drop 16)) (w8_lt (x.drop 24)))) (Wn.some rfl rfl rfl) rfl rfl (NA (ON 17 (by kernel_rfl) rfl (WR.stepE (v' := .int .u64 ((w8 x ||| w8 (x.drop 8)) ||| (w8 (x.drop 16) ||| w8 (x.drop 24)) : Nat)) (Ex.orK (m := (w8 x ||| w8 (x.drop 8))) (s := (w8 (x.drop 16) ||| w8 (x.drop 24))) rfl rfl (Nat.or_lt_two_pow (w8_lt x) (w8_lt (x.drop 8))) (Nat.or_lt_two_pow (w8_lt (x.drop 16)) (w8_lt (x.drop 24)))) (congrArg (Value.int .u64) (or64 (Nat.or_lt_two_pow (w8_lt x) (w8_lt (x.drop 8))) (Nat.or_lt_two_pow (w8_lt (x.drop 16)) (w8_lt (x.drop 24))))) (Wn.some rfl rfl rfl) rfl rfl (NA (ON 18 (by kernel_rfl) rfl (WR.stepE (v' := .int .u64 (((w8 x ||| w8 (x.drop 8)) ||| (w8 (x.drop 16) ||| w8 (x.drop 24))) &&& 9259542123273814144 : Nat)) (Ex.andK (m := ((w8 x ||| w8 (x.drop 8)) ||| (w8 (x.drop 16) ||| w8 (x.drop 24)))) (s := 9259542123273814144) rfl rfl (Nat.or_lt_two_pow (Nat.or_lt_two_pow (w8_lt x) (w8_lt (x.drop 8))) (Nat.or_lt_two_pow (w8_lt (x.drop 16)) (w8_lt (x.drop 24)))) (by decide)) (congrArg (Value.int .u64) (and64 (Nat.or_lt_two_pow (Nat.or_lt_two_pow (w8_lt x) (w8_lt (x.drop 8))) (Nat.or_lt_two_pow (w8_lt (x.drop 16)) (w8_lt (x.drop 24)))))) (Wn.some rfl rfl rfl) rfl rfl ?_))))))))
                refine NA (ON 19 (by kernel_rfl) rfl ?_)
                refine WR.split (Ex.eql rfl rfl) (Wn.some rfl rfl rfl) rfl rfl (fun h9_19 => ?_) (fun h9_19 => ?_)
                · have h1 := w8_small (l := x) (x := w8 (x.drop 8) ||| (w8 (x.drop 16) ||| w8 (x.drop 24))) (by rw [← Nat.or_assoc]; omega)
                  have h2 := w8_small (l := x.drop 8) (x := w8 x ||| (w8 (x.drop 16) ||| w8 (x.drop 24))) (by rw [← Nat.or_assoc, Nat.or_comm (w8 (x.drop 8))]; omega)
                  have h3 := w8_small (l := x.drop 16) (x := w8 (x.drop 24) ||| (w8 x ||| w8 (x.drop 8))) (by rw [← Nat.or_assoc, Nat.or_comm (w8 (x.drop 16) ||| w8 (x.drop 24))]; omega)
                  have h4 := w8_small (l := x.drop 24) (x := w8 (x.drop 16) ||| (w8 x ||| w8 (x.drop 8))) (by rw [← Nat.or_assoc, Nat.or_comm (w8 (x.drop 24)), Nat.or_comm (w8 (x.drop 16) ||| w8 (x.drop 24))]; omega)
                  have hv32 := vld_32 (by omega) h1 h2 h3 h4
                  refine NA (ON 20 (by kernel_rfl) rfl (PT rfl rfl rfl (NA (WA.done (by kernel_rfl) (TN (CT rfl (SK (TN (BL (RG (MV rfl rfl (WR.stepE (v' := S (x.drop 32)) (Ex.sliceStr (i := 32) (j := x.length) Tryz.underlying9 rfl (.inl ⟨_, rfl, rfl⟩) (.inr ⟨rfl, rfl⟩) (by omega) (by omega)) (by rw [List.take_length]) (Wn.none rfl) rfl rfl ?_))))))))))))
                  refine AS rfl rfl (NL (IB ?_))
                  refine WQ.again1 (x.drop 32) ⟨rfl, trivial⟩ ?_ ?_
                  · exact ⟨by rw [List.length_drop]; omega, hvx.trans hv32, M, H, hp⟩
                  · rw [List.length_drop]; omega
                · refine NA (ON 20 (by kernel_rfl) rfl (PT rfl rfl rfl (NA (WA.done (by kernel_rfl) (TN (CF rfl (WC.exit (WQ.thenExit (WQ.thenExit (WQ.exitHere (TN (WC.exit (WQ.thenExit (WQ.exitHere ?_))))))))))))))
                  refine WQ.again1 (x) ⟨rfl, trivial⟩ ?_ ?_
                  · exact ⟨by omega, hvx, M, H.drop (List.nil_sublist _), hp⟩
                  · omega
              · refine NA (ON 3 (by kernel_rfl) rfl (MV rfl rfl (NA (WA.takeN (i := 4) rfl (by kernel_rfl) (by kernel_rfl) (by kernel_rfl) (wanted_g (b := false) rfl rfl rfl) rfl rfl (fun _ _ => rfl) (WA.takeN (i := 6) rfl (by kernel_rfl) (by kernel_rfl) (by kernel_rfl) (wanted_g (b := false) rfl rfl rfl) rfl rfl (fun _ _ => rfl) (WA.takeN (i := 7) rfl (by kernel_rfl) (by kernel_rfl) (by kernel_rfl) (wanted_g (b := false) rfl rfl rfl) rfl rfl (fun _ _ => rfl) (WA.takeN (i := 10) rfl (by kernel_rfl) (by kernel_rfl) (by kernel_rfl) (wanted_g (b := false) rfl rfl rfl) rfl rfl (fun _ _ => rfl) (WA.takeN (i := 11) rfl (by kernel_rfl) (by kernel_rfl) (by kernel_rfl) (wanted_g (b := false) rfl rfl rfl) rfl rfl (fun _ _ => rfl) (WA.takeN (i := 13) rfl (by kernel_rfl) (by kernel_rfl) (by kernel_rfl) (wanted_g (b := false) rfl rfl rfl) rfl rfl (fun _ _ => rfl) (WA.takeN (i := 14) rfl (by kernel_rfl) (by kernel_rfl) (by kernel_rfl) (wanted_g (b := false) rfl rfl rfl) rfl rfl (fun _ _ => rfl) ?_))))))))))
                refine ON 5 (by kernel_rfl) rfl (GF rfl rfl rfl (NA (ON 8 (by kernel_rfl) rfl (GF rfl rfl rfl (NA (WA.takeN (i := 9) rfl (by kernel_rfl) (by kernel_rfl) (by kernel_rfl) (wanted_g (b := false) rfl rfl rfl) rfl rfl (fun _ _ => rfl) (ON 12 (by kernel_rfl) rfl (GF rfl rfl rfl (NA (ON 15 (by kernel_rfl) rfl (GF rfl rfl rfl (NA (ON 16 (by kernel_rfl) rfl (GF rfl rfl rfl (NA (ON 17 (by kernel_rfl) rfl (GF rfl rfl rfl (NA (ON 18 (by kernel_rfl) rfl (GF rfl rfl rfl (NA (ON 19 (by kernel_rfl) rfl (GF rfl rfl rfl (NA (ON 20 (by kernel_rfl) rfl (PF rfl rfl rfl (NA (WA.done (by kernel_rfl) (TN (CF rfl (WC.exit (WQ.thenExit (WQ.thenExit (WQ.exitHere (TN (WC.exit (WQ.thenExit (WQ.exitHere ?_))))))))))))))))))))))))))))))))))))))
                refine WQ.again1 (x) ⟨rfl, trivial⟩ ?_ ?_
                · exact ⟨by omega, hvx, M, H.drop (List.nil_sublist _), hp⟩
                · omega
            · refine NA (ON 12 (by kernel_rfl) rfl (PT rfl rfl rfl (NA (WA.done (by kernel_rfl) (TN (CF rfl (SK (TN (WC.exit (WQ.thenExit (WQ.exitHere ?_)))))))))))
              refine WQ.again1 (u2) ⟨rfl, trivial⟩ ?_ ?_
              · exact ⟨by rw [hu2, hu, List.length_drop, List.length_drop]; omega, (by rw [hv, hv1, hv8, ← hu2]), M, H.drop (List.nil_sublist _), hp⟩
              · rw [hu2, hu, List.length_drop, List.length_drop]; omega
          · refine NA (ON 3 (by kernel_rfl) rfl (MV rfl rfl (NA (WA.takeN (i := 4) rfl (by kernel_rfl) (by kernel_rfl) (by kernel_rfl) (wanted_g (b := false) rfl rfl rfl) rfl rfl (fun _ _ => rfl) (WA.takeN (i := 6) rfl (by kernel_rfl) (by kernel_rfl) (by kernel_rfl) (wanted_g (b := false) rfl rfl rfl) rfl rfl (fun _ _ => rfl) (WA.takeN (i := 7) rfl (by kernel_rfl) (by kernel_rfl) (by kernel_rfl) (wanted_g (b := false) rfl rfl rfl) rfl rfl (fun _ _ => rfl) (ON 5 (by kernel_rfl) rfl (GF rfl rfl rfl (NA (ON 8 (by kernel_rfl) rfl (GF rfl rfl rfl (NA (ON 9 (by kernel_rfl) rfl (GF rfl rfl rfl (NA (ON 10 (by kernel_rfl) rfl (GF rfl rfl rfl (NA (ON 11 (by kernel_rfl) rfl (GF rfl rfl rfl (NA (ON 12 (by kernel_rfl) rfl (PF rfl rfl rfl (NA (WA.done (by kernel_rfl) (TN (CF rfl (SK (TN (WC.exit (WQ.thenExit (WQ.exitHere ?_))))))))))))))))))))))))))))))))
            refine WQ.again1 (u2) ⟨rfl, trivial⟩ ?_ ?_
            · exact ⟨by rw [hu2, hu, List.length_drop, List.length_drop]; omega, (by rw [hv, hv1, hv8, ← hu2]), M, H.drop (List.nil_sublist _), hp⟩
            · rw [hu2, hu, List.length_drop, List.length_drop]; omega
        · refine PT rfl rfl rfl (NL (TN (CF rfl (SK (TN (WC.exit (WQ.thenExit (WQ.exitHere ?_))))))))
          refine WQ.again1 (u) ⟨rfl, trivial⟩ ?_ ?_
          · exact ⟨by rw [hu, List.length_drop]; omega, (by rw [hv, hv1]), M, H.drop (List.nil_sublist _), hp⟩
          · rw [hu, List.length_drop]; omega
      · refine MV rfl rfl (GF rfl rfl rfl (GF rfl rfl rfl (GF rfl rfl rfl (GF rfl rfl rfl (PF rfl rfl rfl (NL (TN (CF rfl (SK (TN (WC.exit (WQ.thenExit (WQ.exitHere ?_)))))))))))))
        refine WQ.again1 (u) ⟨rfl, trivial⟩ ?_ ?_
        · exact ⟨by rw [hu, List.length_drop]; omega, (by rw [hv, hv1]), M, H.drop (List.nil_sublist _), hp⟩
        · rw [hu, List.length_drop]; omega
    · obtain ⟨sz, ai, lo, hi, hF, hsz, hai, hai16, hlo, hhi, hlo2, hhi2, hszs, hc1, hc2, hc3, hc4⟩ := first_facts c.toNat (by omega) (by omega)
      refine NL (TN (CF rfl (SK (TN (SQ (RG (MV rfl rfl (WR.stepE (v' := ptr 0 c.toNat) (Ex.idxArr Tryz.underlying66 Tryz.sizeOf5 rfl rfl (by omega)) (by rw [Nat.zero_add, Nat.mul_one]) (Wn.none rfl) rfl rfl ?_))))))))
      refine ST (Ex.loadCell rfl ((hp _ H.ag).1 c.toNat (by omega)) Tryz.isAgg5) rfl ?_
      refine AS rfl rfl (NL (TN (SQ (RG (MV rfl rfl (WR.stepE (v' := .int .u8 ((sz : Nat) : Int)) (Ex.andK (m := (Lib.firstT c.toNat)) (s := 7) rfl rfl (by show _ < 256; omega) (by decide)) (congrArg (Value.int .u8) (by rw [hsz]; exact u8_in (by omega))) (Wn.none rfl) rfl rfl ?_))))))
      first | refine WR.step (Ex.convB Tryz.underlying5 Tryz.underlying3 rfl) (Wn.none rfl) rfl rfl ?_ | refine WR.step (Ex.convI Tryz.underlying5 Tryz.underlying3 rfl (by omega)) (Wn.none rfl) rfl rfl ?_
      refine AS rfl rfl (NL (TN (SQ (RG (MV rfl rfl (WR.stepE (v' := .int .u8 ((ai : Nat) : Int)) (Ex.shrN (m := (Lib.firstT c.toNat)) (s := 4) rfl rfl (by first | (show _ ≤ 64; omega) | (show _ ≤ 8; omega) | decide)) (congrArg (Value.int .u8) (by rw [hai])) (Wn.none rfl) rfl rfl ?_))))))
      refine WR.stepE (v' := ptr 1 (2 * ai)) (Ex.idxArr Tryz.underlying69 Tryz.sizeOf68 rfl rfl (by omega)) (by rw [Nat.zero_add, Nat.mul_comm]) (Wn.none rfl) rfl rfl ?_
      refine ST (Ex.loadAggW (cs := [.int .u8 ((lo : Nat) : Int), .int .u8 ((hi : Nat) : Int)]) rfl (tab_acc (hp _ H.ag) hai16 hlo hhi) Tryz.isAgg68 Tryz.sizeOf68 rfl) rfl (WR.alloc [_, _] H Tryz.zeroValue68 rfl (Wn.none rfl) rfl ?_)
      intro b6 w H
      refine WR.store [_, _] H rfl rfl rfl (by repeat first | exact .head | apply Upd.tail) Tryz.sizeOf68 rfl (by rfl) (by rfl) (Wn.none rfl) ?_
      intro w H
      refine NL (TN (SQ (RG (MV rfl rfl (NL (TN (BL (SQ (RG ?_)))))))))
      refine WR.split (Ex.eql rfl rfl) (Wn.none rfl) rfl rfl (fun h16_0 => ?_) (fun h16_0 => ?_)
      · obtain ⟨hq1, hq2, hq3, hq4⟩ := hc2 (by omega)
        have hm := multi2 (t := t) (by rw [hcn]; exact ⟨hq1, hq2⟩)
        subst hq3 hq4
        refine AS rfl rfl (NL (TN (CT rfl (SQ (SQ (WC.draw (m := 17) rfl rfl H ?_))))))
        intro w H
        refine ON 0 (by kernel_rfl) rfl (MV rfl rfl (NA (ON 1 (by kernel_rfl) rfl (ST (Ex.lenStr Tryz.underlying9 rfl) rfl (NA (ON 2 (by kernel_rfl) rfl ?_))))))
        refine WR.split (Ex.lss rfl rfl) (Wn.none rfl) rfl rfl (fun h17_2 => ?_) (fun h17_2 => ?_)
        · have hbad := vld_bad hne (hm.2 (by omega))
          refine NA (ON 3 (by kernel_rfl) rfl (MV rfl rfl (NA (WA.takeN (i := 4) rfl (by kernel_rfl) (by kernel_rfl) (by kernel_rfl) (wanted_g (b := true) rfl rfl rfl) rfl rfl (fun _ _ => rfl) (WA.takeN (i := 5) rfl (by kernel_rfl) (by kernel_rfl) (by kernel_rfl) (wanted_g (b := true) rfl rfl rfl) rfl rfl (fun _ _ => rfl) (ON 6 (by kernel_rfl) rfl (GT rfl rfl rfl (NA (ON 7 (by kernel_rfl) rfl (GT rfl rfl rfl (NA (ON 8 (by kernel_rfl) rfl (GT rfl rfl rfl (NA (ON 9 (by kernel_rfl) rfl (PT rfl rfl rfl (NA (ON 10 (by kernel_rfl) rfl (MV rfl rfl (NA (WA.takeN (i := 11) rfl (by kernel_rfl) (by kernel_rfl) (by kernel_rfl) (wanted_g (b := true) rfl rfl rfl) rfl rfl (fun _ _ => rfl) (WA.takeN (i := 12) rfl (by kernel_rfl) (by kernel_rfl) (by kernel_rfl) (wanted_g (b := true) rfl rfl rfl) rfl rfl (fun _ _ => rfl) (ON 13 (by kernel_rfl) rfl (GT rfl rfl rfl (NA (ON 14 (by kernel_rfl) rfl (GT rfl rfl rfl ?_)))))))))))))))))))))))))))
          refine NA (ON 15 (by kernel_rfl) rfl (GT rfl rfl rfl (NA (ON 16 (by kernel_rfl) rfl (PT rfl rfl rfl (NA (WA.done (by kernel_rfl) (TN (CT rfl (SQ (RG (AS rfl rfl (NL (TN (RT ?_)))))))))))))))
          refine WQ.ret1 rfl rfl H.ext ?_
          exact by rw [hv, hbad]
        · obtain ⟨x1, hx1⟩ : ∃ x, t[1]? = some x := ⟨_, List.getElem?_eq_getElem (by omega)⟩
          have hnx1 := nat_of hx1
          have hxl1 := x1.toNat_lt
          refine NA (ON 3 (by kernel_rfl) rfl (MV rfl rfl (NA (WA.take (i := 4) rfl (by kernel_rfl) (by kernel_rfl) (by kernel_rfl) (fun _ => Ex.move rfl) (Wn.some rfl rfl rfl) rfl rfl (fun _ _ => rfl) (WA.take (i := 5) rfl (by kernel_rfl) (by kernel_rfl) (by kernel_rfl) (fun _ => Ex.idxStr Tryz.underlying9 rfl rfl (hx1)) (Wn.some rfl rfl rfl) rfl rfl (fun _ _ => rfl) (ON 6 (by kernel_rfl) rfl (SG (Ex.fieldAddr Tryz.underlying68 rfl Tryz.sizeOf5 (by decide) rfl) rfl rfl rfl (NA (ON 7 (by kernel_rfl) rfl ?_)))))))))
          first | refine WR.step (Ex.loadM H rfl (by assumption) Tryz.isAgg5) (Wn.some rfl rfl rfl) rfl rfl ?_ | refine WR.step (Ex.load1 H rfl (by repeat first | exact kMh | apply kMt) Tryz.isAgg5 (by rfl)) (Wn.some rfl rfl rfl) rfl rfl ?_
          refine NA (ON 8 (by kernel_rfl) rfl ?_)
          refine WR.split (Ex.lss rfl rfl) (Wn.some rfl rfl rfl) rfl rfl (fun h17_8 => ?_) (fun h17_8 => ?_)
          · have hbad := vld_bad hne (hm.2 (by omega))
            refine NA (ON 9 (by kernel_rfl) rfl (PF rfl rfl rfl (NA (ON 10 (by kernel_rfl) rfl (MV rfl rfl (NA (WA.takeN (i := 11) rfl (by kernel_rfl) (by kernel_rfl) (by kernel_rfl) (wanted_g (b := true) rfl rfl rfl) rfl rfl (fun _ _ => rfl) (WA.takeN (i := 12) rfl (by kernel_rfl) (by kernel_rfl) (by kernel_rfl) (wanted_g (b := true) rfl rfl rfl) rfl rfl (fun _ _ => rfl) (ON 13 (by kernel_rfl) rfl (GT rfl rfl rfl (NA (ON 14 (by kernel_rfl) rfl (GT rfl rfl rfl (NA (ON 15 (by kernel_rfl) rfl (GT rfl rfl rfl (NA (ON 16 (by kernel_rfl) rfl (PT rfl rfl rfl (NA (WA.done (by kernel_rfl) (TN (CT rfl (SQ (RG (AS rfl rfl (NL (TN (RT ?_)))))))))))))))))))))))))))))
            refine WQ.ret1 rfl rfl H.ext ?_
            exact by rw [hv, hbad]
          · refine NA (ON 9 (by kernel_rfl) rfl (PF rfl rfl rfl (NA (ON 10 (by kernel_rfl) rfl (MV rfl rfl (NA (WA.take (i := 11) rfl (by kernel_rfl) (by kernel_rfl) (by kernel_rfl) (fun _ => Ex.fieldAddr Tryz.underlying68 rfl Tryz.sizeOf5 (by decide) rfl) (Wn.some rfl rfl rfl) rfl rfl (fun _ _ => rfl) (WA.take (i := 13) rfl (by kernel_rfl) (by kernel_rfl) (by kernel_rfl) (fun _ => Ex.move rfl) (Wn.some rfl rfl rfl) rfl rfl (fun _ _ => rfl) (WA.take (i := 14) rfl (by kernel_rfl) (by kernel_rfl) (by kernel_rfl) (fun _ => Ex.idxStr Tryz.underlying9 rfl rfl (hx1)) (Wn.some rfl rfl rfl) rfl rfl (fun _ _ => rfl) (ON 12 (by kernel_rfl) rfl ?_))))))))))
            first | refine WR.step (Ex.loadM H rfl (by assumption) Tryz.isAgg5) (Wn.some rfl rfl rfl) rfl rfl ?_ | refine WR.step (Ex.load1 H rfl (by repeat first | exact kMh | apply kMt) Tryz.isAgg5 (by rfl)) (Wn.some rfl rfl rfl) rfl rfl ?_
            refine NA (ON 15 (by kernel_rfl) rfl ?_)
            refine WR.split (Ex.lss rfl rfl) (Wn.some rfl rfl rfl) rfl rfl (fun h17_15 => ?_) (fun h17_15 => ?_)
            · have hbad := vld_bad hne (hm.2 (by omega))
              refine NA (ON 16 (by kernel_rfl) rfl (PF rfl rfl rfl (NA (WA.done (by kernel_rfl) (TN (CT rfl (SQ (RG (AS rfl rfl (NL (TN (RT ?_))))))))))))
              refine WQ.ret1 rfl rfl H.ext ?_
              exact by rw [hv, hbad]
            · refine NA (ON 16 (by kernel_rfl) rfl (PF rfl rfl rfl (NA (WA.done (by kernel_rfl) (TN (CF rfl (SK (TN (RG (MV rfl rfl (WR.stepE (v' := S (t.drop 2)) (Ex.sliceStr (i := 2) (j := t.length) Tryz.underlying9 rfl (.inl ⟨_, rfl, rfl⟩) (.inr ⟨rfl, rfl⟩) (by omega) (by omega)) (by rw [List.take_length]) (Wn.none rfl) rfl rfl ?_)))))))))))
              refine AS rfl rfl (NL (IB (IB ?_)))
              refine WQ.again1 (t.drop 2) ⟨rfl, trivial⟩ ?_ ?_
              · exact ⟨by rw [List.length_drop]; omega, by rw [hv]; exact vld_good hne (hm.1 (by omega)), M, H.drop (List.nil_sublist _), hp⟩
              · rw [List.length_drop]; omega
      · refine AS rfl rfl (NL (TN (CF rfl (SQ (RG ?_)))))
        refine WR.split (Ex.eql rfl rfl) (Wn.none rfl) rfl rfl (fun h20_0 => ?_) (fun h20_0 => ?_)
        · obtain ⟨hq1, hq2, hq3, hq4⟩ := hc3 (by omega)
          have hm := multi3 (t := t) (lo := lo) (hi := hi) (by rw [hcn]; exact ⟨hq1, hq2⟩) (by rw [hcn]; exact hq3) (by rw [hcn]; exact hq4)
          refine AS rfl rfl (NL (TN (CT rfl (SQ (SQ (WC.draw (m := 27) rfl rfl H ?_))))))
          intro w H
          refine ON 0 (by kernel_rfl) rfl (MV rfl rfl (NA (ON 1 (by kernel_rfl) rfl (ST (Ex.lenStr Tryz.underlying9 rfl) rfl (NA (ON 2 (by kernel_rfl) rfl ?_))))))
          refine WR.split (Ex.lss rfl rfl) (Wn.none rfl) rfl rfl (fun h21_2 => ?_) (fun h21_2 => ?_)
          · have hbad := vld_bad hne (hm.2 (by omega))
            refine NA (ON 3 (by kernel_rfl) rfl (MV rfl rfl (NA (WA.takeN (i := 4) rfl (by kernel_rfl) (by kernel_rfl) (by kernel_rfl) (wanted_g (b := true) rfl rfl rfl) rfl rfl (fun _ _ => rfl) (WA.takeN (i := 5) rfl (by kernel_rfl) (by kernel_rfl) (by kernel_rfl) (wanted_g (b := true) rfl rfl rfl) rfl rfl (fun _ _ => rfl) (ON 6 (by kernel_rfl) rfl (GT rfl rfl rfl (NA (ON 7 (by kernel_rfl) rfl (GT rfl rfl rfl (NA (ON 8 (by kernel_rfl) rfl (GT rfl rfl rfl (NA (ON 9 (by kernel_rfl) rfl (PT rfl rfl rfl (NA (ON 10 (by kernel_rfl) rfl (MV rfl rfl (NA (WA.takeN (i := 11) rfl (by kernel_rfl) (by kernel_rfl) (by kernel_rfl) (wanted_g (b := true) rfl rfl rfl) rfl rfl (fun _ _ => rfl) (WA.takeN (i := 12) rfl (by kernel_rfl) (by kernel_rfl) (by kernel_rfl) (wanted_g (b := true) rfl rfl rfl) rfl rfl (fun _ _ => rfl) (ON 13 (by kernel_rfl) rfl (GT rfl rfl rfl (NA (ON 14 (by kernel_rfl) rfl (GT rfl rfl rfl ?_)))))))))))))))))))))))))))
            refine NA (ON 15 (by kernel_rfl) rfl (GT rfl rfl rfl (NA (ON 16 (by kernel_rfl) rfl (PT rfl rfl rfl (NA (ON 17 (by kernel_rfl) rfl (MV rfl rfl (NA (ON 18 (by kernel_rfl) rfl (GT rfl rfl rfl (NA (ON 19 (by kernel_rfl) rfl (GT rfl rfl rfl (NA (ON 20 (by kernel_rfl) rfl (GT rfl rfl rfl (NA (ON 21 (by kernel_rfl) rfl (PT rfl rfl rfl (NA (ON 22 (by kernel_rfl) rfl (MV rfl rfl (NA (ON 23 (by kernel_rfl) rfl (GT rfl rfl rfl (NA (ON 24 (by kernel_rfl) rfl (GT rfl rfl rfl (NA (ON 25 (by kernel_rfl) rfl (GT rfl rfl rfl (NA (ON 26 (by kernel_rfl) rfl (PT rfl rfl rfl (NA (WA.done (by kernel_rfl) (TN (CT rfl (SQ (RG (AS rfl rfl (NL (TN (RT ?_)))))))))))))))))))))))))))))))))))))))))))))
            refine WQ.ret1 rfl rfl H.ext ?_
            exact by rw [hv, hbad]
          · obtain ⟨x1, hx1⟩ : ∃ x, t[1]? = some x := ⟨_, List.getElem?_eq_getElem (by omega)⟩
            have hnx1 := nat_of hx1
            have hxl1 := x1.toNat_lt
            obtain ⟨x2, hx2⟩ : ∃ x, t[2]? = some x := ⟨_, List.getElem?_eq_getElem (by omega)⟩
            have hnx2 := nat_of hx2
            have hxl2 := x2.toNat_lt
            refine NA (ON 3 (by kernel_rfl) rfl (MV rfl rfl (NA (WA.take (i := 4) rfl (by kernel_rfl) (by kernel_rfl) (by kernel_rfl) (fun _ => Ex.move rfl) (Wn.some rfl rfl rfl) rfl rfl (fun _ _ => rfl) (WA.take (i := 5) rfl (by kernel_rfl) (by kernel_rfl) (by kernel_rfl) (fun _ => Ex.idxStr Tryz.underlying9 rfl rfl (hx1)) (Wn.some rfl rfl rfl) rfl rfl (fun _ _ => rfl) (ON 6 (by kernel_rfl) rfl (SG (Ex.fieldAddr Tryz.underlying68 rfl Tryz.sizeOf5 (by decide) rfl) rfl rfl rfl (NA (ON 7 (by kernel_rfl) rfl ?_)))))))))
            first | refine WR.step (Ex.loadM H rfl (by assumption) Tryz.isAgg5) (Wn.some rfl rfl rfl) rfl rfl ?_ | refine WR.step (Ex.load1 H rfl (by repeat first | exact kMh | apply kMt) Tryz.isAgg5 (by rfl)) (Wn.some rfl rfl rfl) rfl rfl ?_
            refine NA (ON 8 (by kernel_rfl) rfl ?_)
            refine WR.split (Ex.lss rfl rfl) (Wn.some rfl rfl rfl) rfl rfl (fun h21_8 => ?_) (fun h21_8 => ?_)
            · have hbad := vld_bad hne (hm.2 (by omega))
              refine NA (ON 9 (by kernel_rfl) rfl (PF rfl rfl rfl (NA (ON 10 (by kernel_rfl) rfl (MV rfl rfl (NA (WA.takeN (i := 11) rfl (by kernel_rfl) (by kernel_rfl) (by kernel_rfl) (wanted_g (b := true) rfl rfl rfl) rfl rfl (fun _ _ => rfl) (WA.takeN (i := 12) rfl (by kernel_rfl) (by kernel_rfl) (by kernel_rfl) (wanted_g (b := true) rfl rfl rfl) rfl rfl (fun _ _ => rfl) (ON 13 (by kernel_rfl) rfl (GT rfl rfl rfl (NA (ON 14 (by kernel_rfl) rfl (GT rfl rfl rfl (NA (ON 15 (by kernel_rfl) rfl (GT rfl rfl rfl (NA (ON 16 (by kernel_rfl) rfl (PT rfl rfl rfl (NA (ON 17 (by kernel_rfl) rfl (MV rfl rfl (NA (ON 18 (by kernel_rfl) rfl (GT rfl rfl rfl (NA (ON 19 (by kernel_rfl) rfl (GT rfl rfl rfl (NA (ON 20 (by kernel_rfl) rfl (GT rfl rfl rfl (NA (ON 21 (by kernel_rfl) rfl (PT rfl rfl rfl (NA (ON 22 (by kernel_rfl) rfl (MV rfl rfl (NA (ON 23 (by kernel_rfl) rfl (GT rfl rfl rfl ?_))))))))))))))))))))))))))))))))))))))))
              refine NA (ON 24 (by kernel_rfl) rfl (GT rfl rfl rfl (NA (ON 25 (by kernel_rfl) rfl (GT rfl rfl rfl (NA (ON 26 (by kernel_rfl) rfl (PT rfl rfl rfl (NA (WA.done (by kernel_rfl) (TN (CT rfl (SQ (RG (AS rfl rfl (NL (TN (RT ?_))))))))))))))))))
              refine WQ.ret1 rfl rfl H.ext ?_
              exact by rw [hv, hbad]
            · refine NA (ON 9 (by kernel_rfl) rfl (PF rfl rfl rfl (NA (ON 10 (by kernel_rfl) rfl (MV rfl rfl (NA (WA.take (i := 11) rfl (by kernel_rfl) (by kernel_rfl) (by kernel_rfl) (fun _ => Ex.fieldAddr Tryz.underlying68 rfl Tryz.sizeOf5 (by decide) rfl) (Wn.some rfl rfl rfl) rfl rfl (fun _ _ => rfl) (WA.take (i := 13) rfl (by kernel_rfl) (by kernel_rfl) (by kernel_rfl) (fun _ => Ex.move rfl) (Wn.some rfl rfl rfl) rfl rfl (fun _ _ => rfl) (WA.take (i := 14) rfl (by kernel_rfl) (by kernel_rfl) (by kernel_rfl) (fun _ => Ex.idxStr Tryz.underlying9 rfl rfl (hx1)) (Wn.some rfl rfl rfl) rfl rfl (fun _ _ => rfl) (ON 12 (by kernel_rfl) rfl ?_))))))))))
              first | refine WR.step (Ex.loadM H rfl (by assumption) Tryz.isAgg5) (Wn.some rfl rfl rfl) rfl rfl ?_ | refine WR.step (Ex.load1 H rfl (by repeat first | exact kMh | apply kMt) Tryz.isAgg5 (by rfl)) (Wn.some rfl rfl rfl) rfl rfl ?_
              refine NA (ON 15 (by kernel_rfl) rfl ?_)
              refine WR.split (Ex.lss rfl rfl) (Wn.some rfl rfl rfl) rfl rfl (fun h21_15 => ?_) (fun h21_15 => ?_)
              · have hbad := vld_bad hne (hm.2 (by omega))
                refine NA (ON 16 (by kernel_rfl) rfl (PF rfl rfl rfl (NA (ON 17 (by kernel_rfl) rfl (MV rfl rfl (NA (ON 18 (by kernel_rfl) rfl (GT rfl rfl rfl (NA (ON 19 (by kernel_rfl) rfl (GT rfl rfl rfl (NA (ON 20 (by kernel_rfl) rfl (GT rfl rfl rfl (NA (ON 21 (by kernel_rfl) rfl (PT rfl rfl rfl (NA (ON 22 (by kernel_rfl) rfl (MV rfl rfl (NA (ON 23 (by kernel_rfl) rfl (GT rfl rfl rfl (NA (ON 24 (by kernel_rfl) rfl (GT rfl rfl rfl (NA (ON 25 (by kernel_rfl) rfl (GT rfl rfl rfl (NA (ON 26 (by kernel_rfl) rfl (PT rfl rfl rfl (NA (WA.done (by kernel_rfl) (TN (CT rfl (SQ (RG (AS rfl rfl (NL (TN (RT ?_))))))))))))))))))))))))))))))))))))))))))
                refine WQ.ret1 rfl rfl H.ext ?_
                exact by rw [hv, hbad]
              · refine NA (ON 16 (by kernel_rfl) rfl (PF rfl rfl rfl (NA (ON 17 (by kernel_rfl) rfl (MV rfl rfl (NA (ON 18 (by kernel_rfl) rfl (SG (Ex.move rfl) rfl rfl rfl (NA (ON 19 (by kernel_rfl) rfl (SG (Ex.idxStr Tryz.underlying9 rfl rfl (hx2)) rfl rfl rfl (NA (ON 20 (by kernel_rfl) rfl ?_)))))))))))))
                refine WR.split (Ex.lss rfl rfl) (Wn.some rfl rfl rfl) rfl rfl (fun h21_20 => ?_) (fun h21_20 => ?_)
                · have hbad := vld_bad hne (hm.2 (by omega))
                  refine NA (ON 21 (by kernel_rfl) rfl (PF rfl rfl rfl (NA (ON 22 (by kernel_rfl) rfl (MV rfl rfl (NA (ON 23 (by kernel_rfl) rfl (GT rfl rfl rfl (NA (ON 24 (by kernel_rfl) rfl (GT rfl rfl rfl (NA (ON 25 (by kernel_rfl) rfl (GT rfl rfl rfl (NA (ON 26 (by kernel_rfl) rfl (PT rfl rfl rfl (NA (WA.done (by kernel_rfl) (TN (CT rfl (SQ (RG (AS rfl rfl (NL (TN (RT ?_)))))))))))))))))))))))))))
                  refine WQ.ret1 rfl rfl H.ext ?_
                  exact by rw [hv, hbad]
                · refine NA (ON 21 (by kernel_rfl) rfl (PF rfl rfl rfl (NA (ON 22 (by kernel_rfl) rfl (MV rfl rfl (NA (ON 23 (by kernel_rfl) rfl (SG (Ex.move rfl) rfl rfl rfl (NA (ON 24 (by kernel_rfl) rfl (SG (Ex.idxStr Tryz.underlying9 rfl rfl (hx2)) rfl rfl rfl (NA (ON 25 (by kernel_rfl) rfl ?_)))))))))))))
                  refine WR.split (Ex.lss rfl rfl) (Wn.some rfl rfl rfl) rfl rfl (fun h21_25 => ?_) (fun h21_25 => ?_)
                  · have hbad := vld_bad hne (hm.2 (by omega))
                    refine NA (ON 26 (by kernel_rfl) rfl (PF rfl rfl rfl (NA (WA.done (by kernel_rfl) (TN (CT rfl (SQ (RG (AS rfl rfl (NL (TN (RT ?_))))))))))))
                    refine WQ.ret1 rfl rfl H.ext ?_
                    exact by rw [hv, hbad]
                  · refine NA (ON 26 (by kernel_rfl) rfl (PF rfl rfl rfl (NA (WA.done (by kernel_rfl) (TN (CF rfl (SK (TN (RG (MV rfl rfl (WR.stepE (v' := S (t.drop 3)) (Ex.sliceStr (i := 3) (j := t.length) Tryz.underlying9 rfl (.inl ⟨_, rfl, rfl⟩) (.inr ⟨rfl, rfl⟩) (by omega) (by omega)) (by rw [List.take_length]) (Wn.none rfl) rfl rfl ?_)))))))))))
                    refine AS rfl rfl (NL (IB (IB ?_)))
                    refine WQ.again1 (t.drop 3) ⟨rfl, trivial⟩ ?_ ?_
                    · exact ⟨by rw [List.length_drop]; omega, by rw [hv]; exact vld_good hne (hm.1 (by omega)), M, H.drop (List.nil_sublist _), hp⟩
                    · rw [List.length_drop]; omega
        · refine AS rfl rfl (NL (TN (CF rfl (SQ (RG ?_)))))
          refine WR.split (Ex.eql rfl rfl) (Wn.none rfl) rfl rfl (fun h24_0 => ?_) (fun h24_0 => ?_)
          · obtain ⟨hq1, hq2, hq3, hq4⟩ := hc4 (by omega)
            have hm := multi4 (t := t) (lo := lo) (hi := hi) (by rw [hcn]; exact ⟨hq1, hq2⟩) (by rw [hcn]; exact hq3) (by rw [hcn]; exact hq4)
            refine AS rfl rfl (NL (TN (CT rfl (SQ (SQ (WC.draw (m := 37) rfl rfl H ?_))))))
            intro w H
            refine ON 0 (by kernel_rfl) rfl (MV rfl rfl (NA (ON 1 (by kernel_rfl) rfl (ST (Ex.lenStr Tryz.underlying9 rfl) rfl (NA (ON 2 (by kernel_rfl) rfl ?_))))))
            refine WR.split (Ex.lss rfl rfl) (Wn.none rfl) rfl rfl (fun h25_2 => ?_) (fun h25_2 => ?_)
            · have hbad := vld_bad hne (hm.2 (by omega))
              refine NA (ON 3 (by kernel_rfl) rfl (MV rfl rfl (NA (WA.takeN (i := 4) rfl (by kernel_rfl) (by kernel_rfl) (by kernel_rfl) (wanted_g (b := true) rfl rfl rfl) rfl rfl (fun _ _ => rfl) (WA.takeN (i := 5) rfl (by kernel_rfl) (by kernel_rfl) (by kernel_rfl) (wanted_g (b := true) rfl rfl rfl) rfl rfl (fun _ _ => rfl) (ON 6 (by kernel_rfl) rfl (GT rfl rfl rfl (NA (ON 7 (by kernel_rfl) rfl (GT rfl rfl rfl (NA (ON 8 (by kernel_rfl) rfl (GT rfl rfl rfl (NA (ON 9 (by kernel_rfl) rfl (PT rfl rfl rfl (NA (ON 10 (by kernel_rfl) rfl (MV rfl rfl (NA (WA.takeN (i := 11) rfl (by kernel_rfl) (by kernel_rfl) (by kernel_rfl) (wanted_g (b := true) rfl rfl rfl) rfl rfl (fun _ _ => rfl) (WA.takeN (i := 12) rfl (by kernel_rfl) (by kernel_rfl) (by kernel_rfl) (wanted_g (b := true) rfl rfl rfl) rfl rfl (fun _ _ => rfl) (ON 13 (by kernel_rfl) rfl (GT rfl rfl rfl (NA (ON 14 (by kernel_rfl) rfl (GT rfl rfl rfl ?_)))))))))))))))))))))))))))
              refine NA (ON 15 (by kernel_rfl) rfl (GT rfl rfl rfl (NA (ON 16 (by kernel_rfl) rfl (PT rfl rfl rfl (NA (ON 17 (by kernel_rfl) rfl (MV rfl rfl (NA (ON 18 (by kernel_rfl) rfl (GT rfl rfl rfl (NA (ON 19 (by kernel_rfl) rfl (GT rfl rfl rfl (NA (ON 20 (by kernel_rfl) rfl (GT rfl rfl rfl (NA (ON 21 (by kernel_rfl) rfl (PT rfl rfl rfl (NA (ON 22 (by kernel_rfl) rfl (MV rfl rfl (NA (ON 23 (by kernel_rfl) rfl (GT rfl rfl rfl (NA (ON 24 (by kernel_rfl) rfl (GT rfl rfl rfl (NA (ON 25 (by kernel_rfl) rfl (GT rfl rfl rfl (NA (ON 26 (by kernel_rfl) rfl (PT rfl rfl rfl (NA (ON 27 (by kernel_rfl) rfl (MV rfl rfl (NA (ON 28 (by kernel_rfl) rfl (GT rfl rfl rfl (NA (ON 29 (by kernel_rfl) rfl (GT rfl rfl rfl (NA (ON 30 (by kernel_rfl) rfl (GT rfl rfl rfl (NA (ON 31 (by kernel_rfl) rfl (PT rfl rfl rfl (NA (ON 32 (by kernel_rfl) rfl (MV rfl rfl (NA (ON 33 (by kernel_rfl) rfl ?_)))))))))))))))))))))))))))))))))))))))))))))))))))))))
              refine GT rfl rfl rfl (NA (ON 34 (by kernel_rfl) rfl (GT rfl rfl rfl (NA (ON 35 (by kernel_rfl) rfl (GT rfl rfl rfl (NA (ON 36 (by kernel_rfl) rfl (PT rfl rfl rfl (NA (WA.done (by kernel_rfl) (TN (CT rfl (SQ (RG (AS rfl rfl (NL (TN (RT ?_)))))))))))))))))))
              refine WQ.ret1 rfl rfl H.ext ?_
              exact by rw [hv, hbad]
            · obtain ⟨x1, hx1⟩ : ∃ x, t[1]? = some x := ⟨_, List.getElem?_eq_getElem (by omega)⟩
              have hnx1 := nat_of hx1
              have hxl1 := x1.toNat_lt
              obtain ⟨x2, hx2⟩ : ∃ x, t[2]? = some x := ⟨_, List.getElem?_eq_getElem (by omega)⟩
              have hnx2 := nat_of hx2
              have hxl2 := x2.toNat_lt
              obtain ⟨x3, hx3⟩ : ∃ x, t[3]? = some x := ⟨_, List.getElem?_eq_getElem (by omega)⟩
              have hnx3 := nat_of hx3
              have hxl3 := x3.toNat_lt
              refine NA (ON 3 (by kernel_rfl) rfl (MV rfl rfl (NA (WA.take (i := 4) rfl (by kernel_rfl) (by kernel_rfl) (by kernel_rfl) (fun _ => Ex.move rfl) (Wn.some rfl rfl rfl) rfl rfl (fun _ _ => rfl) (WA.take (i := 5) rfl (by kernel_rfl) (by kernel_rfl) (by kernel_rfl) (fun _ => Ex.idxStr Tryz.underlying9 rfl rfl (hx1)) (Wn.some rfl rfl rfl) rfl rfl (fun _ _ => rfl) (ON 6 (by kernel_rfl) rfl (SG (Ex.fieldAddr Tryz.underlying68 rfl Tryz.sizeOf5 (by decide) rfl) rfl rfl rfl (NA (ON 7 (by kernel_rfl) rfl ?_)))))))))
              first | refine WR.step (Ex.loadM H rfl (by assumption) Tryz.isAgg5) (Wn.some rfl rfl rfl) rfl rfl ?_ | refine WR.step (Ex.load1 H rfl (by repeat first | exact kMh | apply kMt) Tryz.isAgg5 (by rfl)) (Wn.some rfl rfl rfl) rfl rfl ?_
              refine NA (ON 8 (by kernel_rfl) rfl ?_)
              refine WR.split (Ex.lss rfl rfl) (Wn.some rfl rfl rfl) rfl rfl (fun h25_8 => ?_) (fun h25_8 => ?_)
              · have hbad := vld_bad hne (hm.2 (by omega))
                refine NA (ON 9 (by kernel_rfl) rfl (PF rfl rfl rfl (NA (ON 10 (by kernel_rfl) rfl (MV rfl rfl (NA (WA.takeN (i := 11) rfl (by kernel_rfl) (by kernel_rfl) (by kernel_rfl) (wanted_g (b := true) rfl rfl rfl) rfl rfl (fun _ _ => rfl) (WA.takeN (i := 12) rfl (by kernel_rfl) (by kernel_rfl) (by kernel_rfl) (wanted_g (b := true) rfl rfl rfl) rfl rfl (fun _ _ => rfl) (ON 13 (by kernel_rfl) rfl (GT rfl rfl rfl (NA (ON 14 (by kernel_rfl) rfl (GT rfl rfl rfl (NA (ON 15 (by kernel_rfl) rfl (GT rfl rfl rfl (NA (ON 16 (by kernel_rfl) rfl (PT rfl rfl rfl (NA (ON 17 (by kernel_rfl) rfl (MV rfl rfl (NA (ON 18 (by kernel_rfl) rfl (GT rfl rfl rfl (NA (ON 19 (by kernel_rfl) rfl (GT rfl rfl rfl (NA (ON 20 (by kernel_rfl) rfl (GT rfl rfl rfl (NA (ON 21 (by kernel_rfl) rfl (PT rfl rfl rfl (NA (ON 22 (by kernel_rfl) rfl (MV rfl rfl (NA (ON 23 (by kernel_rfl) rfl (GT rfl rfl rfl ?_))))))))))))))))))))))))))))))))))))))))
                refine NA (ON 24 (by kernel_rfl) rfl (GT rfl rfl rfl (NA (ON 25 (by kernel_rfl) rfl (GT rfl rfl rfl (NA (ON 26 (by kernel_rfl) rfl (PT rfl rfl rfl (NA (ON 27 (by kernel_rfl) rfl (MV rfl rfl (NA (ON 28 (by kernel_rfl) rfl (GT rfl rfl rfl (NA (ON 29 (by kernel_rfl) rfl (GT rfl rfl rfl (NA (ON 30 (by kernel_rfl) rfl (GT rfl rfl rfl (NA (ON 31 (by kernel_rfl) rfl (PT rfl rfl rfl (NA (ON 32 (by kernel_rfl) rfl (MV rfl rfl (NA (ON 33 (by kernel_rfl) rfl (GT rfl rfl rfl (NA (ON 34 (by kernel_rfl) rfl (GT rfl rfl rfl (NA (ON 35 (by kernel_rfl) rfl (GT rfl rfl rfl (NA (ON 36 (by kernel_rfl) rfl (PT rfl rfl rfl (NA (WA.done (by kernel_rfl) (TN (CT rfl (SQ (RG (AS rfl rfl (NL (TN (RT ?_))))))))))))))))))))))))))))))))))))))))))))))))
                refine WQ.ret1 rfl rfl H.ext ?_
                exact by rw [hv, hbad]
              · refine NA (ON 9 (by kernel_rfl) rfl (PF rfl rfl rfl (NA (ON 10 (by kernel_rfl) rfl (MV rfl rfl (NA (WA.take (i := 11) rfl (by kernel_rfl) (by kernel_rfl) (by kernel_rfl) (fun _ => Ex.fieldAddr Tryz.underlying68 rfl Tryz.sizeOf5 (by decide) rfl) (Wn.some rfl rfl rfl) rfl rfl (fun _ _ => rfl) (WA.take (i := 13) rfl (by kernel_rfl) (by kernel_rfl) (by kernel_rfl) (fun _ => Ex.move rfl) (Wn.some rfl rfl rfl) rfl rfl (fun _ _ => rfl) (WA.take (i := 14) rfl (by kernel_rfl) (by kernel_rfl) (by kernel_rfl) (fun _ => Ex.idxStr Tryz.underlying9 rfl rfl (hx1)) (Wn.some rfl rfl rfl) rfl rfl (fun _ _ => rfl) (ON 12 (by kernel_rfl) rfl ?_))))))))))
                first | refine WR.step (Ex.loadM H rfl (by assumption) Tryz.isAgg5) (Wn.some rfl rfl rfl) rfl rfl ?_ | refine WR.step (Ex.load1 H rfl (by repeat first | exact kMh | apply kMt) Tryz.isAgg5 (by rfl)) (Wn.some rfl rfl rfl) rfl rfl ?_
                refine NA (ON 15 (by kernel_rfl) rfl ?_)
                refine WR.split (Ex.lss rfl rfl) (Wn.some rfl rfl rfl) rfl rfl (fun h25_15 => ?_) (fun h25_15 => ?_)
                · have hbad := vld_bad hne (hm.2 (by omega))
                  refine NA (ON 16 (by kernel_rfl) rfl (PF rfl rfl rfl (NA (ON 17 (by kernel_rfl) rfl (MV rfl rfl (NA (ON 18 (by kernel_rfl) rfl (GT rfl rfl rfl (NA (ON 19 (by kernel_rfl) rfl (GT rfl rfl rfl (NA (ON 20 (by kernel_rfl) rfl (GT rfl rfl rfl (NA (ON 21 (by kernel_rfl) rfl (PT rfl rfl rfl (NA (ON 22 (by kernel_rfl) rfl (MV rfl rfl (NA (ON 23 (by kernel_rfl) rfl (GT rfl rfl rfl (NA (ON 24 (by kernel_rfl) rfl (GT rfl rfl rfl (NA (ON 25 (by kernel_rfl) rfl (GT rfl rfl rfl (NA (ON 26 (by kernel_rfl) rfl (PT rfl rfl rfl (NA (ON 27 (by kernel_rfl) rfl (MV rfl rfl (NA (ON 28 (by kernel_rfl) rfl (GT rfl rfl rfl (NA (ON 29 (by kernel_rfl) rfl (GT rfl rfl rfl (NA (ON 30 (by kernel_rfl) rfl (GT rfl rfl rfl (NA (ON 31 (by kernel_rfl) rfl (PT rfl rfl rfl (NA (ON 32 (by kernel_rfl) rfl (MV rfl rfl (NA (ON 33 (by kernel_rfl) rfl (GT rfl rfl rfl (NA (ON 34 (by kernel_rfl) rfl ?_)))))))))))))))))))))))))))))))))))))))))))))))))))))))
                  refine GT rfl rfl rfl (NA (ON 35 (by kernel_rfl) rfl (GT rfl rfl rfl (NA (ON 36 (by kernel_rfl) rfl (PT rfl rfl rfl (NA (WA.done (by kernel_rfl) (TN (CT rfl (SQ (RG (AS rfl rfl (NL (TN (RT ?_))))))))))))))))
                  refine WQ.ret1 rfl rfl H.ext ?_
                  exact by rw [hv, hbad]
                · refine NA (ON 16 (by kernel_rfl) rfl (PF rfl rfl rfl (NA (ON 17 (by kernel_rfl) rfl (MV rfl rfl (NA (ON 18 (by kernel_rfl) rfl (SG (Ex.move rfl) rfl rfl rfl (NA (ON 19 (by kernel_rfl) rfl (SG (Ex.idxStr Tryz.underlying9 rfl rfl (hx2)) rfl rfl rfl (NA (ON 20 (by kernel_rfl) rfl ?_)))))))))))))
                  refine WR.split (Ex.lss rfl rfl) (Wn.some rfl rfl rfl) rfl rfl (fun h25_20 => ?_) (fun h25_20 => ?_)
                  · have hbad := vld_bad hne (hm.2 (by omega))
                    refine NA (ON 21 (by kernel_rfl) rfl (PF rfl rfl rfl (NA (ON 22 (by kernel_rfl) rfl (MV rfl rfl (NA (ON 23 (by kernel_rfl) rfl (GT rfl rfl rfl (NA (ON 24 (by kernel_rfl) rfl (GT rfl rfl rfl (NA (ON 25 (by kernel_rfl) rfl (GT rfl rfl rfl (NA (ON 26 (by kernel_rfl) rfl (PT rfl rfl rfl (NA (ON 27 (by kernel_rfl) rfl (MV rfl rfl (NA (ON 28 (by kernel_rfl) rfl (GT rfl rfl rfl (NA (ON 29 (by kernel_rfl) rfl (GT rfl rfl rfl (NA (ON 30 (by kernel_rfl) rfl (GT rfl rfl rfl (NA (ON 31 (by kernel_rfl) rfl (PT rfl rfl rfl (NA (ON 32 (by kernel_rfl) rfl (MV rfl rfl (NA (ON 33 (by kernel_rfl) rfl (GT rfl rfl rfl (NA (ON 34 (by kernel_rfl) rfl (GT rfl rfl rfl (NA (ON 35 (by kernel_rfl) rfl (GT rfl rfl rfl (NA (ON 36 (by kernel_rfl) rfl (PT rfl rfl rfl (NA (WA.done (by kernel_rfl) (TN (CT rfl (SQ (RG (AS rfl rfl (NL (TN (RT ?_)))))))))))))))))))))))))))))))))))))))))))))))))))))))))
                    refine WQ.ret1 rfl rfl H.ext ?_
                    exact by rw [hv, hbad]
                  · refine NA (ON 21 (by kernel_rfl) rfl (PF rfl rfl rfl (NA (ON 22 (by kernel_rfl) rfl (MV rfl rfl (NA (ON 23 (by kernel_rfl) rfl (SG (Ex.move rfl) rfl rfl rfl (NA (ON 24 (by kernel_rfl) rfl (SG (Ex.idxStr Tryz.underlying9 rfl rfl (hx2)) rfl rfl rfl (NA (ON 25 (by kernel_rfl) rfl ?_)))))))))))))
                    refine WR.split (Ex.lss rfl rfl) (Wn.some rfl rfl rfl) rfl rfl (fun h25_25 => ?_) (fun h25_25 => ?_)
                    · have hbad := vld_bad hne (hm.2 (by omega))
                      refine NA (ON 26 (by kernel_rfl) rfl (PF rfl rfl rfl (NA (ON 27 (by kernel_rfl) rfl (MV rfl rfl (NA (ON 28 (by kernel_rfl) rfl (GT rfl rfl rfl (NA (ON 29 (by kernel_rfl) rfl (GT rfl rfl rfl (NA (ON 30 (by kernel_rfl) rfl (GT rfl rfl rfl (NA (ON 31 (by kernel_rfl) rfl (PT rfl rfl rfl (NA (ON 32 (by kernel_rfl) rfl (MV rfl rfl (NA (ON 33 (by kernel_rfl) rfl (GT rfl rfl rfl (NA (ON 34 (by kernel_rfl) rfl (GT rfl rfl rfl (NA (ON 35 (by kernel_rfl) rfl (GT rfl rfl rfl (NA (ON 36 (by kernel_rfl) rfl (PT rfl rfl rfl (NA (WA.done (by kernel_rfl) (TN (CT rfl (SQ (RG (AS rfl rfl (NL (TN (RT ?_))))))))))))))))))))))))))))))))))))))))))
                      refine WQ.ret1 rfl rfl H.ext ?_
                      exact by rw [hv, hbad]
                    · refine NA (ON 26 (by kernel_rfl) rfl (PF rfl rfl rfl (NA (ON 27 (by kernel_rfl) rfl (MV rfl rfl (NA (ON 28 (by kernel_rfl) rfl (SG (Ex.move rfl) rfl rfl rfl (NA (ON 29 (by kernel_rfl) rfl (SG (Ex.idxStr Tryz.underlying9 rfl rfl (hx3)) rfl rfl rfl (NA (ON 30 (by kernel_rfl) rfl ?_)))))))))))))
                      refine WR.split (Ex.lss rfl rfl) (Wn.some rfl rfl rfl) rfl rfl (fun h25_30 => ?_) (fun h25_30 => ?_)
                      · have hbad := vld_bad hne (hm.2 (by omega))
                        refine NA (ON 31 (by kernel_rfl) rfl (PF rfl rfl rfl (NA (ON 32 (by kernel_rfl) rfl (MV rfl rfl (NA (ON 33 (by kernel_rfl) rfl (GT rfl rfl rfl (NA (ON 34 (by kernel_rfl) rfl (GT rfl rfl rfl (NA (ON 35 (by kernel_rfl) rfl (GT rfl rfl rfl (NA (ON 36 (by kernel_rfl) rfl (PT rfl rfl rfl (NA (WA.done (by kernel_rfl) (TN (CT rfl (SQ (RG (AS rfl rfl (NL (TN (RT ?_)))))))))))))))))))))))))))
                        refine WQ.ret1 rfl rfl H.ext ?_
                        exact by rw [hv, hbad]
                      · refine NA (ON 31 (by kernel_rfl) rfl (PF rfl rfl rfl (NA (ON 32 (by kernel_rfl) rfl (MV rfl rfl (NA (ON 33 (by kernel_rfl) rfl (SG (Ex.move rfl) rfl rfl rfl (NA (ON 34 (by kernel_rfl) rfl (SG (Ex.idxStr Tryz.underlying9 rfl rfl (hx3)) rfl rfl rfl (NA (ON 35 (by kernel_rfl) rfl ?_)))))))))))))
                        refine WR.split (Ex.lss rfl rfl) (Wn.some rfl rfl rfl) rfl rfl (fun h25_35 => ?_) (fun h25_35 => ?_)
                        · have hbad := vld_bad hne (hm.2 (by omega))
                          refine NA (ON 36 (by kernel_rfl) rfl (PF rfl rfl rfl (NA (WA.done (by kernel_rfl) (TN (CT rfl (SQ (RG (AS rfl rfl (NL (TN (RT ?_))))))))))))
                          refine WQ.ret1 rfl rfl H.ext ?_
                          exact by rw [hv, hbad]
                        · refine NA (ON 36 (by kernel_rfl) rfl (PF rfl rfl rfl (NA (WA.done (by kernel_rfl) (TN (CF rfl (SK (TN (RG (MV rfl rfl (WR.stepE (v' := S (t.drop 4)) (Ex.sliceStr (i := 4) (j := t.length) Tryz.underlying9 rfl (.inl ⟨_, rfl, rfl⟩) (.inr ⟨rfl, rfl⟩) (by omega) (by omega)) (by rw [List.take_length]) (Wn.none rfl) rfl rfl ?_)))))))))))
                          refine AS rfl rfl (NL (IB (IB ?_)))
                          refine WQ.again1 (t.drop 4) ⟨rfl, trivial⟩ ?_ ?_
                          · exact ⟨by rw [List.length_drop]; omega, by rw [hv]; exact vld_good hne (hm.1 (by omega)), M, H.drop (List.nil_sublist _), hp⟩
                          · rw [List.length_drop]; omega
          · have hbad := vld_bad hne (multi1 (t := t) (by omega) (by rw [hcn]; exact hc1 (by omega)))
            refine AS rfl rfl (NL (TN (CF rfl (SQ (RG (AS rfl rfl (NL (TN (RT ?_)))))))))
            refine WQ.ret1 rfl rfl H.ext ?_
            exact by rw [hv, hbad]
  · have hr : vld l = true := by rw [hv, List.eq_nil_of_length_eq_zero (show t.length = 0 by omega)]; rfl
    refine NL (TN (CF rfl (WC.exit (WQ.thenExit (WQ.thenExit (WQ.exitHere (TN (SQ (RG (AS rfl rfl (NL (TN (RT ?_)))))))))))))
    refine WQ.ret1 rfl rfl H.ext ?_
    exact by rw [hr]
end Go.Proofs.YtegkhjbajijidaaGreatDoor
end
section
namespace Go.Ph
open Go Go.RowKit Pl
section
variable {C : Nat → Prop} {r : Option Nat} {P : Program} {ops : Array Oper} {Q : Exit → Act → World → Prop} {n : Nat} {D : List Deferred} {rest : List Oper} {e : Env} {w0 w : World} {M0 M : Mem} {L L' : List Item} {d : Nat} {v z : Value}
  {x y : Operand} {ty t ts tt : TypeId} {pos : String} {af : Array Edge} {g : Option (Nat × Bool)} {α : Type} {enc : α → List Value} {kk bytes : Nat} {l : List α} {M : Mem}
theorem Ex.eqlNilS {a : Option Addr} {nn c : Nat} {t' : TypeId} {dst : Option Tmp} (ht : P.underlying t = some (.slice t')) (hx : ev e x = some (.slice a nn c)) : Ex P ⟨dst, .binOp .eql t x (.const (.slice none 0 0)) tt, ty, pos, af, g⟩ e w (.bool a.isNone) w :=
  ⟨nofun, fun ρ hf => by
    have h2 : ρ (.const (.slice none 0 0)) = .slice none 0 0 := hf _ _ rfl
    simp [execOp, hf _ _ hx, h2, eqGuard, Go.run_eql_slice_nil w t t' a nn c ht]⟩
theorem Ex.sliceRow {A : Option Addr} {nn c i j : Nat} {t' : TypeId} {lo hi : Option Operand} {dst : Option Tmp} (ht : P.underlying t = some (.slice t')) (hz : ∀ w, (sizeOf t').run P w = .ok kk w) (hx : ev e x = some (.slice A nn c)) (hnc : nn ≤ c) (hij : i ≤ j) (hj : j ≤ nn)
    (hlo : (∃ o, lo = some o ∧ ev e o = some (I i)) ∨ (lo = none ∧ i = 0)) (hhi : (∃ o, hi = some o ∧ ev e o = some (I j)) ∨ (hi = none ∧ j = nn)) :
    Ex P ⟨dst, .slice t x lo hi none, ty, pos, af, g⟩ e w (.slice (if c = i then A else A.map (fun a => a.add (i * kk))) (j - i) (c - i)) w :=
  ⟨nofun, fun ρ hfi => by
    have hr := run_slice_partS (P := P) (w := w) (lo := lo.map ρ) (hi := hi.map ρ) ht hz A nn c hnc hij hj
      (by rcases hlo with ⟨o, rfl, ho⟩ | ⟨rfl, h⟩
          · exact .inl (by simp [hfi _ _ ho])
          · exact .inr ⟨rfl, h⟩)
      (by rcases hhi with ⟨o, rfl, ho⟩ | ⟨rfl, h⟩
          · exact .inl (by simp [hfi _ _ ho])
          · exact .inr ⟨rfl, h⟩)
    simp only [execOp, hfi _ _ hx, Option.map_none, Sem.run_bind, hr, Result.andThen_ok, Sem.run_pure]⟩
end
end Go.Ph
end
section
namespace Go.Ph
open Go Go.RowKit Pl
section
variable {C : Nat → Prop} {r : Option Nat} {P : Program} {ops : Array Oper} {Q : Exit → Act → World → Prop} {n : Nat} {D : List Deferred} {rest : List Oper} {e : Env} {w0 w : World} {M0 M : Mem} {L L' : List Item} {d : Nat} {v z : Value}
  {x y : Operand} {ty t t' ts tt T : TypeId} {pos : String} {af : Array Edge} {g : Option (Nat × Bool)}
def MethAt (P : Program) (t : TypeId) (v : Value) (name : String) (f : FuncId) (z : Value) : Prop := ∀ w, (method (P.types.size + Made.depth) t v name).run P w = .ok (f, z) w
theorem WR.callI {f : FuncId} {ar : List Operand} {vs : List Value} {tys : Array TypeId} {Pre : Mem → Prop} {R : Value → Mem → Prop} {name : String} (H : StX C w0 M0 M L w) (hs : Ct P f (z :: vs) Pre R) (hm : MethAt P t v name f z) (hx : ev e x = some (.iface t v)) (ha : evs e ar = some vs) (hp : Pre M)
    (hw : Wn ops n D e ⟨some d, .call ⟨.invoke x name, ar.toArray, tys⟩, ty, pos, af, g⟩) (hn : Nat.blt d n = true)
    (k : ∀ v M' w', StX C w0 M0 M' L w' → M.le M' → R v M' → WR r P ops Q n D rest ((d, v) :: e) w') :
    WR r P ops Q n D (⟨some d, .call ⟨.invoke x name, ar.toArray, tys⟩, ty, pos, af, g⟩ :: rest) e w := by
  intro a hsat
  unfold wpListIn
  rw [if_pos (hw a hsat)]
  refine ⟨fun _ _ => trivial, ?_⟩
  rw [Oper.semAt_eq _ _ _ (fun c h => by cases h)]
  have hv : ar.map a.eval = vs := hsat.fits.evs ha
  have hf : a.eval x = .iface t v := hsat.fits _ _ hx
  have hrun : (execOp a.eval ⟨some d, .call ⟨.invoke x name, ar.toArray, tys⟩, ty, pos, af, g⟩).run P w = .ok (.enter f (z :: vs).toArray) w := by
    have h1 : (#[Value.iface t v] ++ ar.toArray.map a.eval)[0]? = some (Value.iface t v) := by simp
    have h2 : (#[Value.iface t v] ++ ar.toArray.map a.eval).extract 1 (#[Value.iface t v] ++ ar.toArray.map a.eval).size = vs.toArray := by
      rw [List.map_toArray, hv]; apply Array.ext'; simp
    simp only [execOp, resolve, hf, Sem.run_bind, Sem.run_pure, Result.andThen_ok, invoke]
    rw [h1, h2]
    have h3 := hm w
    simp only [callMethod, Sem.run_bind, run_program, Result.andThen_ok, h3]
    rw [hs.enters]
    simp
  rw [hrun, Oper.uponIn_enter]
  refine ⟨fun h => (by cases h), callsIn_Wd.2 ((hs.calls w M H.ag hp).mono ?_)⟩
  rintro en w' ⟨rv, M', rfl, hx, hR⟩
  exact k rv M' w' (H.call hx) hx.le hR _ (hsat.put (Nat.le_of_ble_eq_true hn) rv)
theorem StX.setC {b o : Nat} {cs : Array Value} (H : StX C w0 M0 M L w) (hu : Upd L (.blk b (.cells cs T)) (.blk b (.cells (cs.setIfInBounds o v) T)) L') : StX C w0 M0 M L' (w.setCell ⟨b, o, none⟩ v) := by
  have hbk := H.blk hu.mem
  refine H.upd hu ⟨rfl, rfl, rfl, ?_, fun k _ hk => ?_⟩ ?_ (fun b' hb' => .inl hb')
  · simp [World.setCell]
  · simp only [World.setCell, Array.getElem?_modify]
    rw [if_neg]
    intro h; exact hk (by rw [← h]; rfl)
  · show (w.setCell _ _).heap[b]? = _
    simp only [World.setCell, Array.getElem?_modify, hbk, if_true]
    rfl
theorem Ex.makeFuncF {dst : Option Tmp} {f : FuncId} {cs : List Operand} {vs : List Value} (hc : evs e cs = some vs) : Ex P ⟨dst, .makeFunc (.func f) cs.toArray #[], ty, pos, af, g⟩ e w (.func (.func f) vs.toArray #[]) w :=
  ⟨nofun, fun ρ hfi => by simp [execOp, Instr.makeFunc, hfi.evs hc]⟩
theorem Ex.makeIface {dst : Option Tmp} {te : TypeId} (ht : P.underlying t = some (.pointer te)) (hx : ev e x = some v) : Ex P ⟨dst, .makeInterface t x, ty, pos, af, g⟩ e w (.iface t v) w :=
  ⟨nofun, fun ρ hfi => by simp [execOp, hfi _ _ hx, Instr.makeInterface, run_underlying ht]⟩
theorem StX.cellOf {b o : Nat} {cs : Array Value} (H : StX C w0 M0 M L w) (hm : Item.blk b (.cells cs T) ∈ L) (h : cs[o]? = some v) : w.cell? ⟨b, o, none⟩ = some v := by
  rw [Lib.cell_of_heap (H.blk hm)]; exact h
theorem StX.thawOf {b o : Nat} {cs : Array Value} (H : StX C w0 M0 M L w) (hm : Item.blk b (.cells cs T) ∈ L) : w.frozen? ⟨b, o, none⟩ = false := Lib.frozen_of_heap (H.blk hm) o
end
end Go.Ph
end
section
namespace Go.Ph
open Go Go.RowKit
namespace Pl
def frm {α : Type} (l : List α) (j : Int) : Option Int := if 0 ≤ j ∧ j ≤ (l.length : Int) then some j else none
def cpyO {α : Type} (l : List α) (j : Int) (s : List α) : Option (List α × Int) :=
  some (l.take j.toNat ++ s.take (l.length - j.toNat) ++ l.drop (j.toNat + (s.take (l.length - j.toNat)).length), ((s.take (l.length - j.toNat)).length : Int))
def idxO (l : List (Option (List UInt8))) (i : Int) : Option (Option (List UInt8)) := if 0 ≤ i ∧ i < 256 then l[i.toNat]? else none
end Pl
open Pl
theorem frm_some {α : Type} {l : List α} {j n : Int} (h : frm l j = some n) : j = n ∧ 0 ≤ j ∧ j ≤ (l.length : Int) := by
  unfold frm at h
  split at h
  · rename_i hb; cases h; exact ⟨rfl, hb⟩
  · cases h
def RSub (v : Value) (n j : Nat) (u : Value) : Prop := ∃ A c, v = .slice A n c ∧ j ≤ n ∧ n ≤ c ∧ u = .slice (if c = j then A else A.map (fun a => a.add (j * 1))) (n - j) (c - j)
section
variable {C : Nat → Prop} {r : Option Nat} {P : Program} {ops : Array Oper} {Q : Exit → Act → World → Prop} {n : Nat} {D : List Deferred} {rest : List Oper} {e : Env} {w0 w : World} {M0 M : Mem} {L L' : List Item} {d : Nat} {v z u : Value}
  {x y : Operand} {ty t t' ts tt te T : TypeId} {pos : String} {af : Array Edge} {g : Option (Nat × Bool)} {α : Type} {enc : α → Value} {l l2 s : List α} {dst : Option Tmp}
theorem WR.litR {ps : List (Nat × Operand)} {vs : List Value} {bytes len : Nat} (T : ElemTy P ts t z 1 bytes) (l : List α) (H : StX C w0 M0 M L w) (hp : evp e 0 ps = some vs) (hl : vs = l.map enc) (h1 : ∀ a, (enc a).cells = #[enc a]) (hlen : l.length = len) (hbig : Nat.ble len 16777216 = true)
    (hw : Wn ops n D e ⟨some d, .buildSlice ts len ps.toArray, ty, pos, af, g⟩) (hn : Nat.blt d n = true)
    (k : ∀ v w', StX C w0 M0 M (RowI t enc v l :: L) w' → WR r P ops Q n D rest ((d, v) :: e) w') :
    WR r P ops Q n D (⟨some d, .buildSlice ts len ps.toArray, ty, pos, af, g⟩ :: rest) e w := by
  have hbig := Nat.le_of_ble_eq_true hbig
  refine WR.step (w' := w.alloc (.cells vs.toArray t)) (v := .slice (some ⟨w.heap.size, 0, none⟩) len len) ⟨nofun, fun ρ hf => ?_⟩ hw rfl hn (k _ _ (H.new (it := RowI t enc (.slice (some ⟨w.heap.size, 0, none⟩) len len) l) (grownBy_alloc' w (.cells vs.toArray t)) ?_ (fun b hb => by cases hb; exact Nat.le_refl _)))
  · have := run_buildSlice (P := P) (w := w) hf T hp (fun v hv => by rw [hl] at hv; obtain ⟨a, _, rfl⟩ := List.mem_map.1 hv; exact h1 a) (len := len) (by rw [hl]; simpa using hlen) hbig
    simp only [execOp, Sem.run_bind, this, Result.andThen_ok, Sem.run_pure]
  · subst hl
    subst hlen
    exact ⟨by simp, .inr ⟨w.heap.size, l.length, (l.map enc).toArray, rfl, Nat.zero_le _, heap_alloc_new w _, Nat.le_refl _, by simp only [maxLen]; omega, by simp, by rw [Nat.mul_one]; exact List.take_of_length_le (by simp)⟩⟩
theorem WR.rowFrom {j j2 : Int} (ht : P.underlying ts = some (.slice t')) (hz : ∀ w, (sizeOf t').run P w = .ok 1 w) (H : StX C w0 M0 M L w) (hm : RowI t enc v l ∈ L) (hj : frm l j = some j2) (hx : ev e x = some v) (hy : ev e y = some (I j))
    (hw : Wn ops n D e ⟨some d, .slice ts x (some y) none none, ty, pos, af, g⟩) (hn : Nat.blt d n = true)
    (k : ∀ u, RSub v l.length j2.toNat u → WR r P ops Q n D rest ((d, u) :: e) w) :
    WR r P ops Q n D (⟨some d, .slice ts x (some y) none none, ty, pos, af, g⟩ :: rest) e w := by
  obtain ⟨rfl, h0, h1⟩ := frm_some hj
  obtain ⟨m, rfl⟩ := Int.eq_ofNat_of_zero_le h0
  have hrow := H.rowOf hm
  have hnc : ∃ A c, v = .slice A l.length c ∧ l.length ≤ c := by
    rcases hrow.2 with ⟨hv, hn0⟩ | ⟨g', cap, cur, hv, _, _, hc, _⟩
    · exact ⟨none, 0, by rw [hv, hn0], by omega⟩
    · exact ⟨_, cap, hv, hc⟩
  obtain ⟨A, c, rfl, hlc⟩ := hnc
  have hml : m ≤ l.length := by omega
  have hex := Ex.sliceRow (P := P) (w := w) (kk := 1) (i := m) (j := l.length) (dst := some d) (ty := ty) (pos := pos) (af := af) (g := g) (lo := some y) (hi := none) ht hz hx hlc hml (Nat.le_refl _) (.inl ⟨y, rfl, hy⟩) (.inr ⟨rfl, rfl⟩)
  exact WR.step hex hw rfl hn (k _ ⟨A, c, rfl, hml, hlc, rfl⟩)
theorem take_cpy {a : List Value} {b : List α} {j k' n : Nat} (h : a.take n = b.map enc) (hb : b.length = n) (s : List α) (hs : j + s.length ≤ n) (ha : n ≤ a.length) : (a.take j ++ s.map enc ++ a.drop (j + s.length)).take n = (b.take j ++ s ++ b.drop (j + s.length)).map enc := by
  have e1 : a.take j = (b.take j).map enc := by rw [List.map_take, ← h, List.take_take, Nat.min_eq_left (by omega)]
  have e2 : (a.drop (j + s.length)).take (n - (j + s.length)) = (b.drop (j + s.length)).map enc := by rw [List.map_drop, ← h, List.drop_take]
  have hx : (a.take j ++ s.map enc).length = j + s.length := by rw [List.length_append, List.length_take, List.length_map]; omega
  rw [List.take_append, List.take_of_length_le (l := a.take j ++ s.map enc) (by omega), hx, e2, e1, List.map_append, List.map_append]
theorem WR.copyC {j : Int} {m : Int} (hu : P.underlying ts = some (.slice te)) (hs : (P.info? te).map (·.size) = some 1) (h1 : ∀ a, (enc a).oneCell' = true) (H : StX C w0 M0 M L w) {L' : Item → List Item} (hU : ∀ it', Upd L (RowI t enc v l) it' (L' it')) (hr : RSub v l.length j.toNat u) (hsl : Sl M enc z s) (hc : cpyO l j s = some (l2, m)) (hx : ev e x = some u) (hy : ev e y = some z)
    (hw : Wn ops n D e ⟨some d, .call ⟨.builtin .copy, #[x, y], #[ts, tt]⟩, ty, pos, af, g⟩) (hn : Nat.blt d n = true)
    (k : ∀ w', StX C w0 M0 M (L' (RowI t enc v l2)) w' → WR r P ops Q n D rest ((d, I m) :: e) w') :
    WR r P ops Q n D (⟨some d, .call ⟨.builtin .copy, #[x, y], #[ts, tt]⟩, ty, pos, af, g⟩ :: rest) e w := by
  obtain ⟨i, hi⟩ : ∃ i, j.toNat = i := ⟨_, rfl⟩
  rw [hi] at hr
  unfold cpyO at hc
  rw [hi] at hc
  simp only [Option.some.injEq, Prod.mk.injEq] at hc
  obtain ⟨rfl, rfl⟩ := hc
  obtain ⟨A, c, rfl, hjn, hnc, rfl⟩ := hr
  have hsl0 := hsl
  obtain ⟨A2, c2, rfl, hs1, hs2, hs3⟩ := hsl
  have hm := (hU (RowI t enc (.slice A l.length c) l)).mem
  have hlen : (s.take (l.length - i)).length = Nat.min s.length (l.length - i) := by rw [List.length_take, Nat.min_comm]
  have step : ∀ w', (Builtin.copy_ #[ts, tt] ty #[.slice (if c = i then A else A.map (fun a => a.add (i * 1))) (l.length - i) (c - i), .slice A2 s.length c2]).run P w = .ok (goInt (s.take (l.length - i)).length) w' → StX C w0 M0 M (L' (RowI t enc (.slice A l.length c) (l.take i ++ s.take (l.length - i) ++ l.drop (i + (s.take (l.length - i)).length)))) w' → WR r P ops Q n D (⟨some d, .call ⟨.builtin .copy, #[x, y], #[ts, tt]⟩, ty, pos, af, g⟩ :: rest) e w := by
    intro w' hrun H'
    refine WR.step (v := I _) (w' := w') ⟨nofun, fun ρ hf => ?_⟩ hw rfl hn (k w' H')
    simp only [execOp, resolve, invoke, builtin, Sem.run_bind, Sem.run_pure, Result.andThen_ok, List.map_toArray, List.map_cons, List.map_nil, hf _ _ hx, hf _ _ hy, hrun]
    try rfl
  by_cases h0 : Nat.min s.length (l.length - i) = 0
  · have hk0 : s.take (l.length - i) = [] := List.eq_nil_of_length_eq_zero (by rw [hlen, h0])
    refine step w ?_ ?_
    · rw [hk0]; exact run_copy_none w ts tt ty te _ _ _ _ _ _ hu hs h0
    · rw [hk0, List.append_nil]
      simp only [List.length_nil, Nat.add_zero, List.take_append_drop]
      exact H.upd (hU _) (World.grownBy.refl _ _) (H.own _ hm).1 (fun b hb => .inl hb)
  · have hrow := H.rowOf hm
    rcases hrow.2 with ⟨hv, hn0⟩ | ⟨g', cap, cur, hv, _, hg, hcc, hcm, hcs, htk⟩
    · exact absurd (by rw [hn0]; show min s.length (0 - i) = 0; omega) h0
    · cases hv
      have hpos : 0 < s.length ∧ 0 < l.length - i := by
        have hmin : Nat.min s.length (l.length - i) = min s.length (l.length - i) := rfl
        rw [hmin] at h0; omega
      have hne : s ≠ [] := by rintro rfl; simp at hpos
      obtain ⟨b2, o2, cs2, t2, fz2, rfl, e2, e3⟩ := hs3 hne
      rw [Nat.mul_one] at hcs htk
      have hkl : (s.take (l.length - i)).length ≤ l.length - i := by rw [List.length_take]; omega
      have hrun := run_copy_row (P := P) w ts tt ty te g' i (l.length - i) (c - i) ⟨b2, o2, none⟩ s.length c2 cur t ((s.take (l.length - i)).map enc) hu hs hg (by rw [List.length_map, hlen]) (fun q x hq => by
        rw [List.getElem?_map] at hq
        obtain ⟨a, ha, rfl⟩ := Option.map_eq_some_iff.1 hq
        have ha' : s[q]? = some a := by
          rw [List.getElem?_take] at ha
          split at ha
          · exact ha
          · cases ha
        have hcell := e3 q a ha'
        rw [Addr.add_lit]
        unfold World.cell?
        rw [H.ag _ _ e2]
        simpa using hcell) (by rw [List.length_map]; omega) (fun x hx => by
        obtain ⟨a, _, rfl⟩ := List.mem_map.1 hx; exact h1 a)
      rw [List.length_map] at hrun
      have hcne : ¬ c = i := by omega
      refine step _ (by
        rw [if_neg hcne]
        simp only [Option.map_some, Addr.add_lit, Nat.zero_add, Nat.mul_one]
        exact hrun) (H.upd (hU _) (grownBy_setRow w g' _) ?_ (fun b hb => .inl hb))
      have hl2 : (l.take i ++ s.take (l.length - i) ++ l.drop (i + (s.take (l.length - i)).length)).length = l.length := by
        simp only [List.length_append, List.length_drop, List.length_take] at hkl ⊢
        omega
      refine ⟨by simp, .inr ⟨g', c, _, by rw [hl2], Nat.zero_le _, setRow_heap w g' cur _ t _ hg, by rw [hl2]; exact hcc, hcm, ?_, ?_⟩⟩
      · simp only [List.size_toArray, List.length_append, List.length_take, List.length_drop, List.length_map, Array.length_toList, Nat.mul_one] at hkl ⊢
        omega
      · rw [hl2, Nat.mul_one]
        have := take_cpy (k' := 0) (enc := enc) htk rfl (j := i) (s.take (l.length - i)) (by omega) (by simp; omega)
        simpa using this
def SlO (M : Mem) (v : Value) (o : Option (List UInt8)) : Prop := (o = none ∧ v = .slice none 0 0) ∨ ∃ l a c, o = some l ∧ v = .slice (some a) l.length c ∧ Sl M encB v l
theorem SlO.mono {M M' : Mem} {v : Value} {o : Option (List UInt8)} (h : SlO M v o) (hl : M.le M') : SlO M' v o := by
  rcases h with h | ⟨l, a, c, h1, h2, h3⟩
  · exact .inl h
  · exact .inr ⟨l, a, c, h1, h2, h3.mono hl⟩
theorem SlO.sl {v : Value} {o : Option (List UInt8)} (h : SlO M v o) : Sl M encB v (o.getD []) := by
  rcases h with ⟨rfl, rfl⟩ | ⟨l, a, c, rfl, _, h3⟩
  · exact Sl.nil _ _
  · exact h3
def TabO (M : Mem) (b T : Nat) (tb : List (Option (List UInt8))) (tr : List (List UInt8)) : Prop :=
  ∃ (vs : List Value) (vt : Value), PtM M b (.cells (vs ++ [vt]).toArray T) ∧ vs.length = 256 ∧ (∀ (i : Nat) (o : Option (List UInt8)), tb[i]? = some o → ∃ v, vs[i]? = some v ∧ SlO M v o) ∧ Sl M encS vt tr
theorem TabO.mono {M M' : Mem} {b T : Nat} {tb : List (Option (List UInt8))} {tr : List (List UInt8)} (h : TabO M b T tb tr) (hl : M.le M') : TabO M' b T tb tr := by
  obtain ⟨vs, vt, h1, h2, h3, h4⟩ := h
  exact ⟨vs, vt, h1.mono hl, h2, fun i o ho => by obtain ⟨v, hv, hs⟩ := h3 i o ho; exact ⟨v, hv, hs.mono hl⟩, h4.mono hl⟩
theorem TabO.at {b T : Nat} {tb : List (Option (List UInt8))} {tr : List (List UInt8)} {i : Int} {o : Option (List UInt8)} (h : TabO M b T tb tr) (hi : idxO tb i = some o) : ∃ v, CellM M ⟨b, 0 + i.toNat * 1, none⟩ v ∧ SlO M v o := by
  obtain ⟨vs, vt, h1, h2, h3, _⟩ := h
  unfold idxO at hi
  split at hi
  · obtain ⟨v, hv, hs⟩ := h3 _ _ hi
    refine ⟨v, ⟨rfl, _, _, _, h1, ?_⟩, hs⟩
    have hlt := (List.getElem?_eq_some_iff.1 hv).1
    show (vs ++ [vt]).toArray[0 + i.toNat * 1]? = some v
    rw [Nat.zero_add, Nat.mul_one, List.getElem?_toArray, List.getElem?_append_left hlt, hv]
  · cases hi
theorem TabO.tl {b T : Nat} {tb : List (Option (List UInt8))} {tr : List (List UInt8)} (h : TabO M b T tb tr) : ∃ v, CellM M ⟨b, 256, none⟩ v ∧ Sl M encS v tr := by
  obtain ⟨vs, vt, h1, h2, _, h4⟩ := h
  refine ⟨vt, ⟨rfl, _, _, _, h1, ?_⟩, h4⟩
  show (vs ++ [vt]).toArray[256]? = some vt
  rw [List.getElem?_toArray, List.getElem?_append_right (by omega), h2]; rfl
theorem Ex.idxArrO {b o : Nat} {i : Int} {t0 : TypeId} {k : IntKind} {tb : List (Option (List UInt8))} {q : Option (List UInt8)} (hs : P.underlying t = some (.array 256 t0)) (hz : ∀ w, (sizeOf t0).run P w = .ok 1 w) (hx : ev e x = some (ptr b o)) (hy : ev e y = some (.int k i)) (h : idxO tb i = some q) :
    Ex P ⟨dst, .indexAddr t x y, ty, pos, af, g⟩ e w (ptr b (o + i.toNat * 1)) w := by
  unfold idxO at h
  split at h
  · rename_i hb
    obtain ⟨m, rfl⟩ := Int.eq_ofNat_of_zero_le hb.1
    exact Ex.idxArr hs hz hx hy (by omega)
  · cases h
theorem Ex.neqNilO {o : Option (List UInt8)} (ht : P.underlying t = some (.slice t')) (h : SlO M v o) (hx : ev e x = some v) : Ex P ⟨dst, .binOp .neq t x (.const (.slice none 0 0)) tt, ty, pos, af, g⟩ e w (.bool o.isSome) w := by
  refine ⟨nofun, fun ρ hf => ?_⟩
  have h2 : ρ (.const (.slice none 0 0)) = .slice none 0 0 := hf _ _ rfl
  rcases h with ⟨rfl, rfl⟩ | ⟨l, a, c, rfl, rfl, _⟩
  · simp [execOp, hf _ _ hx, h2, eqGuard, Go.run_neq_slice_nil w t t' none 0 0 ht]
  · simp [execOp, hf _ _ hx, h2, eqGuard, Go.run_neq_slice_nil w t t' (some a) _ _ ht]
end
end Go.Ph
end
section
namespace Go.Ph
open Go Go.RowKit Pl
section
variable {C : Nat → Prop} {r : Option Nat} {P : Program} {ops : Array Oper} {Q : Exit → Act → World → Prop} {n : Nat} {D : List Deferred} {rest : List Oper} {e : Env} {w0 w w' : World} {M0 M : Mem} {L L' : List Item} {d : Nat} {v z : Value}
  {x y : Operand} {ty t t' ts tt T : TypeId} {pos : String} {af : Array Edge} {g : Option (Nat × Bool)}
theorem WR.callW {f : FuncId} {ar : List Operand} {vs : List Value} {tys : Array TypeId} {R : World → Prop} {v : Value} (hen : ∀ ar w, (callFunc f ar).run P w = .ok (.enter f ar) w) (hc : Calls P f vs.toArray w fun e w' => e = .returned v ∧ R w') (ha : evs e ar = some vs)
    (hw : Wn ops n D e ⟨some d, .call ⟨.value (.func f), ar.toArray, tys⟩, ty, pos, af, g⟩) (hn : Nat.blt d n = true)
    (k : ∀ w', R w' → WR r P ops Q n D rest ((d, v) :: e) w') :
    WR r P ops Q n D (⟨some d, .call ⟨.value (.func f), ar.toArray, tys⟩, ty, pos, af, g⟩ :: rest) e w := by
  intro a hsat
  unfold wpListIn
  rw [if_pos (hw a hsat)]
  refine ⟨fun _ _ => trivial, ?_⟩
  rw [Oper.semAt_eq _ _ _ (fun c h => by cases h)]
  have hv : ar.map a.eval = vs := hsat.fits.evs ha
  have hf : a.eval (.func f) = .func (.func f) #[] #[] := rfl
  have hrun : (execOp a.eval ⟨some d, .call ⟨.value (.func f), ar.toArray, tys⟩, ty, pos, af, g⟩).run P w = .ok (.enter f vs.toArray) w := by
    simp only [execOp, resolve, hf, Deferred.ofValue, Sem.run_bind, Sem.run_pure, Result.andThen_ok, invoke, List.map_toArray, hv, Array.append_empty, Array.empty_append, hen]
  rw [hrun, Oper.uponIn_enter]
  refine ⟨fun h => (by cases h), callsIn_Wd.2 (hc.mono ?_)⟩
  rintro en w' ⟨rfl, hR⟩
  exact k w' hR _ (hsat.put (Nat.le_of_ble_eq_true hn) v)
theorem StX.restart (H0 : St w0 M0 M0 [] w0) (H : St w0 M0 M L w) (hb : Below w0.heap.size w w') (hL : ∀ it ∈ L', it.holds w' ∧ ∀ b, it.foot = some b → w0.heap.size ≤ b) (hs : L'.Pairwise (fun x y => ∀ b, x.foot = some b → y.foot ≠ some b)) : St w0 M0 M0 L' w' := by
  have hblk : ∀ k, k < w0.heap.size → w'.heap[k]? = w.heap[k]? := fun k hk => hb.block k hk
  refine ⟨⟨⟨hb.os.trans H.ext.below.os, hb.tape.trans H.ext.below.tape, hb.output.trans H.ext.below.output, Nat.le_trans H.ext.below.size hb.size, fun k hk hn => (hblk k hk).trans (H.ext.below.block k hk hn)⟩, Mem.le.refl _, fun b o hbo => ?_, fun _ _ => rfl⟩, fun it hit => ⟨(hL it hit).1, fun b hf => ⟨?_, .inl ((hL it hit).2 b hf)⟩⟩, hs⟩
  · rw [hblk b (H0.ag.lt hbo)]
    exact H.ag _ _ (H.ext.le _ _ hbo)
  · exact H0.ag.none ((hL it hit).2 b hf)
theorem WR.appStrRoom {l l2 : List UInt8} {tx : TypeId} {gb cap : Nat} {L' : Item → List Item} (T : ElemTy P ts t z 1 1) (ht : P.underlying tx = some .string) (H : StX C w0 M0 M L w) (hx : ev e x = some (.slice (some ⟨gb, 0, none⟩) l.length cap)) (hu : ∀ it', Upd L (RowI t encB (.slice (some ⟨gb, 0, none⟩) l.length cap) l) it' (L' it')) (hy : ev e y = some (S l2))
    (hroom : l.length + l2.length ≤ cap)
    (hw : Wn ops n D e ⟨some d, .call ⟨.builtin .append, #[x, y], #[ts, tx]⟩, ty, pos, af, g⟩) (hn : Nat.blt d n = true)
    (k : ∀ w', StX C w0 M0 M (L' (RowI t encB (.slice (some ⟨gb, 0, none⟩) (l ++ l2).length cap) (l ++ l2))) w' → WR r P ops Q n D rest ((d, .slice (some ⟨gb, 0, none⟩) (l ++ l2).length cap) :: e) w') :
    WR r P ops Q n D (⟨some d, .call ⟨.builtin .append, #[x, y], #[ts, tx]⟩, ty, pos, af, g⟩ :: rest) e w := by
  have hm := (hu (RowI t encB (.slice (some ⟨gb, 0, none⟩) l.length cap) l)).mem
  have hs : Src P 1 tx (S l2) l2.length (l2.map encB) w := srcStr ht
  obtain ⟨i, hi, hz, hsz, hby⟩ := T.info
  rcases (H.rowOf hm).2 with ⟨hv, _⟩ | ⟨g', cap', cur, hv, _, hg, hnc, hcm, hcs, htk⟩
  · cases hv
  · cases hv
    rw [Nat.mul_one] at hcs htk
    have hl := hs.newsLen
    have hfit : l.length + (l2.map encB).length ≤ cur.size := by rw [List.length_map, hcs]; exact hroom
    have hst := run_storeCells_at P gb l.length t (l2.map encB) 0 cur w hg (by simpa using hfit) hs.one
    simp only [Nat.add_zero] at hst
    have hun := T.under
    have hr : (Builtin.append_ #[ts, tx] ty #[.slice (some ⟨gb, 0, none⟩) l.length cap, S l2]).run P w = .ok (.slice (some ⟨gb, 0, none⟩) (l.length + l2.length) cap) (w.setRow gb (cur.toList.take l.length ++ l2.map encB ++ cur.toList.drop (l.length + (l2.map encB).length)).toArray) := by
      rcases hs.kind with ⟨e', hk⟩ | hk <;> simp [Builtin.append_, run_underlying hun, run_underlying hk, sizeOf, typeInfo, hi, hsz, hs.len, hroom, hs.cells, Addr.add_lit, hst]
    rw [← List.length_append] at hr
    refine WR.step (w' := w.setRow gb (cur.toList.take l.length ++ l2.map encB ++ cur.toList.drop (l.length + (l2.map encB).length)).toArray) ⟨nofun, fun ρ hfi => ?_⟩ hw rfl hn (k _ (H.upd (hu _) (grownBy_setRow w gb _) ?_ (fun b hb => .inl hb)))
    · simp only [execOp, resolve, invoke, builtin, Sem.run_bind, Sem.run_pure, Result.andThen_ok, List.map_toArray, List.map_cons, List.map_nil, hfi _ _ hx, hfi _ _ hy, hr]
    · refine ⟨by simp, .inr ⟨gb, cap, _, rfl, Nat.zero_le _, setRow_heap w gb cur _ t _ hg, by rw [List.length_append]; exact hroom, hcm, ?_, ?_⟩⟩
      · simp only [List.size_toArray, List.length_append, List.length_take, List.length_drop, Array.length_toList, List.length_map, Nat.mul_one] at hfit ⊢
        omega
      · rw [htk, List.length_append, Nat.mul_one, ← List.map_append, List.take_append, List.length_map, List.length_append, List.take_of_length_le (by simp)]
        simp
end
end Go.Ph
end
section
namespace Go.Proofs.YtegkhjbajijidaaGreatDoor
open Go
theorem oDisable (w : World) : (callFunc 159 #[]).run Tryz.prog w = .ok (.value (.tuple #[])) w := run_call_mark0 Tryz.func159 (by kernel_rfl) (by kernel_rfl) (by kernel_rfl) .disable (by kernel_rfl) w
theorem oEnable (w : World) : (callFunc 161 #[]).run Tryz.prog w = .ok (.value (.tuple #[])) w := run_call_mark0 Tryz.func161 (by kernel_rfl) (by kernel_rfl) (by kernel_rfl) .enable (by kernel_rfl) w
theorem oAcquire (a : Addr) (w : World) : (callFunc 162 #[.pointer (some a)]).run Tryz.prog w = .ok (.value (.tuple #[])) w := run_call_marked Tryz.func162 (by kernel_rfl) (by kernel_rfl) (by kernel_rfl) .acquire (by kernel_rfl) a w
theorem oRelease (a : Addr) (w : World) : (callFunc 164 #[.pointer (some a)]).run Tryz.prog w = .ok (.value (.tuple #[])) w := run_call_marked Tryz.func164 (by kernel_rfl) (by kernel_rfl) (by kernel_rfl) .releaseMerge (by kernel_rfl) a w
set_option maxRecDepth 100000 in
set_option maxHeartbeats 1600000 in
theorem oStore (a : Addr) (x : Value) (u : FrameMode) (w : World) (hc : w.cell? a = some x) (hz : w.frozen? a = false) :
    CallsD Tryz.prog 104 #[.pointer (some a), .bool true] u w fun e u' w' => u' = u ∧ (e = .returned (.tuple #[]) ∧ w' = w.drew.setCell a (.int .u32 1)) := by
  have hc' : w.drew.cell? a = some x := by go_simp
  have hz' : w.drew.frozen? a = false := by go_simp
  have hst := run_call_store (P := Tryz.prog) Tryz.func128 (by kernel_rfl) (by kernel_rfl) (by kernel_rfl) (by kernel_rfl) (k := .u32) (y := 1) hc' hz'
  go_enter_d Tryz.func104, Tryz.ntmps104
  go_wp2
  go_region_calls
  all_goals (go_end0; exact ⟨rfl, rfl⟩)
set_option maxRecDepth 100000 in
set_option maxHeartbeats 1600000 in
theorem oUnlock (a : Addr) (u : FrameMode) (w : World) (hc : w.cell? a = some (.int .i32 1)) (hz : w.frozen? a = false) :
    CallsD Tryz.prog 103 #[.pointer (some a)] u w fun e u' w' => u' = u ∧ (e = .returned (.tuple #[]) ∧ w' = w.setCell a (.int .i32 0)) := by
  have hd := oDisable
  have he := oEnable
  have hr := oRelease
  have hadd := run_call_add (P := Tryz.prog) Tryz.func165 (by kernel_rfl) (by kernel_rfl) (by kernel_rfl) .i32 (by kernel_rfl) (y := -1) (s := 0) hc hz (by simp [go_sem]; rfl)
  have hcv := run_convert_to_unsafe (P := Tryz.prog) (src := 215) (dst := 219) Tryz.underlying215 Tryz.underlying219 (by kernel_rfl) hc
  go_enter_d Tryz.func103, Tryz.ntmps103
  go_wp2
  go_end0
  go_wp2
  go_end0
  exact ⟨rfl, rfl⟩
set_option maxRecDepth 100000 in
set_option maxHeartbeats 1600000 in
theorem oLock (a : Addr) (w : World) (hc : w.cell? a = some (.int .i32 0)) (hz : w.frozen? a = false) :
    Calls Tryz.prog 102 #[.pointer (some a)] w fun e w' => e = .returned (.tuple #[]) ∧ w' = w.setCell a (.int .i32 1) := by
  have hd := oDisable
  have he := oEnable
  have ha := oAcquire
  have hcas := run_call_cas_hit (P := Tryz.prog) Tryz.func160 (by kernel_rfl) (by kernel_rfl) (by kernel_rfl) .i32 (by kernel_rfl) (y := 1) hc hz
  have hc' : (w.setCell a (.int .i32 1)).cell? a = some (.int .i32 1) := World.cell?_setCell_same w a _ hc
  have hcv := run_convert_to_unsafe (P := Tryz.prog) (src := 215) (dst := 219) Tryz.underlying215 Tryz.underlying219 (by kernel_rfl) hc'
  go_enter Tryz.func102, Tryz.ntmps102
  go_wp2
  first | go_end0 | (simp only [Exit.inBlock, Exit.then]; refine bodyPost_ret (results_none rfl _ _ _) rfl ?_) | refine bodyPost_ret (results_none rfl _ _ _) rfl ?_
  go_wp2
  go_end0
  exact ⟨rfl, rfl⟩
set_option maxRecDepth 100000 in
set_option maxHeartbeats 1600000 in
theorem oSlow (b : Nat) (w : World) (R : World → Prop)
    (h0 : w.cell? ⟨b, 0, none⟩ = some (.int .u32 0)) (h1 : w.cell? ⟨b, 1, none⟩ = some (.int .i32 0)) (f0 : w.frozen? ⟨b, 0, none⟩ = false) (f1 : w.frozen? ⟨b, 1, none⟩ = false)
    (hf : Calls Tryz.prog 69 #[.pointer (some ⟨b, 0, none⟩)] (w.setCell ⟨b, 1, none⟩ (.int .i32 1)) fun e w2 => e = .returned (.tuple #[]) ∧ R w2)
    (hR : ∀ w2, R w2 → w2.cell? ⟨b, 0, none⟩ = some (.int .u32 0) ∧ w2.cell? ⟨b, 1, none⟩ = some (.int .i32 1) ∧ w2.frozen? ⟨b, 0, none⟩ = false ∧ w2.frozen? ⟨b, 1, none⟩ = false) :
    Calls Tryz.prog 84 #[.pointer (some ⟨b, 0, none⟩), .func (.func 69) #[.pointer (some ⟨b, 0, none⟩)] #[]] w fun e w' => e = .returned (.tuple #[]) ∧ ∃ w2, R w2 ∧ w' = ((w2.drew.setCell ⟨b, 0, none⟩ (.int .u32 1)).setCell ⟨b, 1, none⟩ (.int .i32 0)) := by
  have hl := run_call_load (P := Tryz.prog) Tryz.func101 (by kernel_rfl) (by kernel_rfl) (by kernel_rfl) .u32 (by kernel_rfl) (w := w.setCell ⟨b, 1, none⟩ (.int .i32 1)) (a := ⟨b, 0, none⟩) (x := 0) ((World.cell?_setCell_other _ ⟨b, 1, none⟩ ⟨b, 0, none⟩ _ (by simp)).trans h0)
  have hnot : ∀ (x : Bool) (w : World), (Op.unary .not (.bool x)).run Tryz.prog w = .ok (.bool (!x)) w := fun _ _ => rfl
  go_enter_defers Tryz.func84, Tryz.ntmps84
  go_wp2_with (first | (go_at_call 102; refine (oLock ⟨b, 1, none⟩ _ (by go_simp) (by go_simp)).mono ?_; rintro e w' ⟨rfl, rfl⟩) | (go_at_call 83; go_in) | (go_at_call 69; refine hf.mono ?_; rintro e w2 ⟨rfl, hw2⟩))
  obtain ⟨r0, r1, r2, r3⟩ := hR _ hw2
  -- two deferred calls, the last laid first
  refine leaves_cons (f := 104) (args := #[.pointer (some ⟨b, 0, none⟩), .bool true]) (by simp) (by simp [go_sem]) ?_
  refine (oStore ⟨b, 0, none⟩ (.int .u32 0) .returning _ r0 r2).mono ?_
  rintro e u' w'' ⟨rfl, rfl, rfl⟩
  refine leaves_cons (f := 103) (args := #[.pointer (some ⟨b, 1, none⟩)]) (by simp [settle]) (by simp [go_sem]) ?_
  refine (oUnlock ⟨b, 1, none⟩ _ _ ?_ ?_).mono ?_
  · refine (World.cell?_setCell_other _ ⟨b, 0, none⟩ ⟨b, 1, none⟩ _ (by simp)).trans ?_
    rw [World.cell?_drew]; exact r1
  · simp [r3]
  rintro e u' w'' ⟨rfl, rfl, rfl⟩
  simp only [Leaves, settle, results, Tryz.results84]
  exact ⟨_, by simp, rfl, w2, hw2, rfl⟩
set_option maxRecDepth 100000 in
set_option maxHeartbeats 1600000 in
theorem oFirst (b : Nat) (w : World) (R : World → Prop)
    (h0 : w.cell? ⟨b, 0, none⟩ = some (.int .u32 0)) (h1 : w.cell? ⟨b, 1, none⟩ = some (.int .i32 0)) (f0 : w.frozen? ⟨b, 0, none⟩ = false) (f1 : w.frozen? ⟨b, 1, none⟩ = false)
    (hf : Calls Tryz.prog 69 #[.pointer (some ⟨b, 0, none⟩)] (w.setCell ⟨b, 1, none⟩ (.int .i32 1)) fun e w2 => e = .returned (.tuple #[]) ∧ R w2)
    (hR : ∀ w2, R w2 → w2.cell? ⟨b, 0, none⟩ = some (.int .u32 0) ∧ w2.cell? ⟨b, 1, none⟩ = some (.int .i32 1) ∧ w2.frozen? ⟨b, 0, none⟩ = false ∧ w2.frozen? ⟨b, 1, none⟩ = false) :
    Calls Tryz.prog 68 #[.pointer (some ⟨b, 0, none⟩), .func (.func 69) #[.pointer (some ⟨b, 0, none⟩)] #[]] w fun e w' => e = .returned (.tuple #[]) ∧ ∃ w2, R w2 ∧ w' = ((w2.drew.setCell ⟨b, 0, none⟩ (.int .u32 1)).setCell ⟨b, 1, none⟩ (.int .i32 0)) := by
  have hl := run_call_load (P := Tryz.prog) Tryz.func101 (by kernel_rfl) (by kernel_rfl) (by kernel_rfl) .u32 (by kernel_rfl) h0
  have hnot : ∀ (x : Bool) (w : World), (Op.unary .not (.bool x)).run Tryz.prog w = .ok (.bool (!x)) w := fun _ _ => rfl
  go_enter Tryz.func68, Tryz.ntmps68
  go_wp2_with (first | (go_at_call 84; refine (oSlow b _ R h0 h1 f0 f1 hf hR).mono ?_; rintro e w' ⟨rfl, w2, hw2, rfl⟩) | (go_at_call 83; go_in))
  go_end0
  exact ⟨rfl, w2, hw2, rfl⟩
set_option maxRecDepth 100000 in
theorem oAgain (a : Addr) (d : Int) (hd : ¬ d = 0) (fv : Value) (w : World) (h0 : w.cell? a = some (.int .u32 d)) :
    Calls Tryz.prog 68 #[.pointer (some a), fv] w fun e w' => e = .returned (.tuple #[]) ∧ w' = w := by
  have hl := run_call_load (P := Tryz.prog) Tryz.func101 (by kernel_rfl) (by kernel_rfl) (by kernel_rfl) .u32 (by kernel_rfl) h0
  have hnot : ∀ (x : Bool) (w : World), (Op.unary .not (.bool x)).run Tryz.prog w = .ok (.bool (!x)) w := fun _ _ => rfl
  have hd' : (d != 0) = true := by simp [hd]
  go_enter Tryz.func68, Tryz.ntmps68
  go_wp2
  go_end0
  exact ⟨rfl, rfl⟩
end Go.Proofs.YtegkhjbajijidaaGreatDoor
end
section
namespace Go.Ph.Pf
def pcOk (p : List UInt8 × Int × Bool × List UInt8) : Prop := -1 ≤ p.2.1 ∧ p.2.1 ≤ 1099511627776
instance (p : List UInt8 × Int × Bool × List UInt8) : Decidable (pcOk p) := by unfold pcOk; infer_instance
def PcB : Type := { p : List UInt8 × Int × Bool × List UInt8 // pcOk p }
instance : Inhabited PcB := ⟨⟨([], 0, false, []), by decide⟩⟩
def mkB (p : List UInt8 × Int × Bool × List UInt8) : PcB := if h : pcOk p then ⟨p, h⟩ else default
def ltB (x y : PcB) : Bool := decide (x.1.2.1 - y.1.2.1 < 0)
def sortP (l : List (List UInt8 × Int × Bool × List UInt8)) : List (List UInt8 × Int × Bool × List UInt8) := (Sort.pdq ltB (l.map mkB).toArray 0 l.length (Lib.bitLen l.length) true true).toList.map (fun x => x.1)
def insP (x : List UInt8 × Int × Bool × List UInt8) : List (List UInt8 × Int × Bool × List UInt8) → List (List UInt8 × Int × Bool × List UInt8)
  | [] => [x]
  | y :: r => if x.2.1 < y.2.1 then x :: y :: r else y :: insP x r
def isoP : List (List UInt8 × Int × Bool × List UInt8) → List (List UInt8 × Int × Bool × List UInt8)
  | [] => []
  | x :: r => insP x (isoP r)
def slices_SortFunc_piece (p0 : List (List UInt8 × Int × Bool × List UInt8)) : Option (List (List UInt8 × Int × Bool × List UInt8)) :=
  if (∀ p ∈ p0, pcOk p) ∧ p0.length ≤ 1000000 ∧ p0 ≠ [] then (if (p0.map fun p => p.2.1).Nodup then some (isoP p0) else some (sortP p0)) else none
end Go.Ph.Pf
end
section
namespace Go.Ph.Pf
open Go
abbrev Pce : Type := List UInt8 × Int × Bool × List UInt8
theorem swoB : Sort.SWO ltB := by
  refine ⟨fun x => ?_, fun x y z => ?_, fun x y z => ?_⟩
  · unfold ltB; simp
  · unfold ltB; simp only [decide_eq_true_eq]; omega
  · unfold ltB; simp only [decide_eq_false_iff_not]; omega
theorem mkB_val {p : Pce} (h : pcOk p) : (mkB p).1 = p := by
  have h1 : mkB p = ⟨p, h⟩ := dif_pos h
  rw [h1]
theorem map_mkB {l : List Pce} (h : ∀ p ∈ l, pcOk p) : (l.map mkB).map (fun x => x.1) = l := by
  rw [List.map_map]
  conv => rhs; rw [← List.map_id l]
  exact List.map_congr_left fun p hp => mkB_val (h p hp)
theorem pdqB (d : Array PcB) : (Sort.pdq ltB d 0 d.size (Lib.bitLen d.size) true true).size = d.size ∧ (Sort.pdq ltB d 0 d.size (Lib.bitLen d.size) true true).toList.Perm d.toList ∧ Sort.SortedIn ltB 0 d.size (Sort.pdq ltB d 0 d.size (Lib.bitLen d.size) true true) := by
  have h := Sort.pdq_sorts ltB swoB d 0 d.size (Lib.bitLen d.size) true true (Nat.zero_le _) (Nat.le_refl _) (Or.inl rfl)
  obtain ⟨⟨h1, _, h2⟩, h3⟩ := h
  refine ⟨h1, ?_, h3⟩
  revert h1 h2
  generalize Sort.pdq ltB d 0 d.size (Lib.bitLen d.size) true true = X
  intro h1 h2
  have e1 : X.extract 0 d.size = X := by rw [← h1]; simp
  have e2 : d.extract 0 d.size = d := by simp
  rw [e1, e2] at h2
  exact h2
def leP (a b : Pce) : Prop := a.2.1 ≤ b.2.1
theorem sortP_perm {l : List Pce} (h : ∀ p ∈ l, pcOk p) : (sortP l).Perm l := by
  have h1 := (pdqB (l.map mkB).toArray).2.1
  simp only [List.size_toArray, List.length_map] at h1
  have h2 := h1.map (fun x : PcB => x.1)
  rw [map_mkB h] at h2
  exact h2
theorem sortP_sorted {l : List Pce} (h : ∀ p ∈ l, pcOk p) : (sortP l).Pairwise leP := by
  have h0 := pdqB (l.map mkB).toArray
  simp only [List.size_toArray, List.length_map] at h0
  obtain ⟨h1, _, h3⟩ := h0
  unfold sortP
  revert h1 h3
  generalize Sort.pdq ltB (l.map mkB).toArray 0 l.length (Lib.bitLen l.length) true true = X
  intro h1 h3
  rw [List.pairwise_iff_getElem]
  intro i j hi hj hij
  simp only [List.length_map, Array.length_toList] at hi hj
  have := h3 i j (Nat.zero_le _) hij (by omega)
  rw [getElem!_pos _ i (by omega), getElem!_pos _ j (by omega)] at this
  unfold ltB at this
  simp only [decide_eq_false_iff_not] at this
  simp only [List.getElem_map, Array.getElem_toList]
  unfold leP
  omega
theorem insP_perm (x : Pce) : ∀ l, (insP x l).Perm (x :: l)
  | [] => List.Perm.refl _
  | y :: r => by
    rw [insP]
    split
    · exact List.Perm.refl _
    · exact ((insP_perm x r).cons y).trans (List.Perm.swap x y r)
theorem isoP_perm : ∀ l, (isoP l).Perm l
  | [] => List.Perm.refl _
  | x :: r => (insP_perm x (isoP r)).trans ((isoP_perm r).cons x)
theorem insP_sorted (x : Pce) : ∀ l, l.Pairwise leP → (insP x l).Pairwise leP
  | [], _ => by rw [insP]; exact List.pairwise_singleton _ _
  | y :: r, h => by
    obtain ⟨h1, h2⟩ := List.pairwise_cons.1 h
    rw [insP]
    split
    · rename_i hlt
      refine List.pairwise_cons.2 ⟨fun z hz => ?_, h⟩
      unfold leP at h1 ⊢
      rcases List.mem_cons.1 hz with rfl | hz
      · omega
      · have := h1 z hz; omega
    · rename_i hlt
      refine List.pairwise_cons.2 ⟨fun z hz => ?_, insP_sorted x r h2⟩
      unfold leP at h1 ⊢
      rcases List.mem_cons.1 ((insP_perm x r).mem_iff.1 hz) with rfl | hz
      · omega
      · exact h1 z hz
theorem isoP_sorted : ∀ l, (isoP l).Pairwise leP
  | [] => List.Pairwise.nil
  | x :: r => insP_sorted x _ (isoP_sorted r)
theorem nodup_inj : ∀ {l : List Pce}, (l.map fun p => p.2.1).Nodup → ∀ a ∈ l, ∀ b ∈ l, a.2.1 = b.2.1 → a = b
  | [], _, a, ha, _, _, _ => by cases ha
  | x :: r, h, a, ha0, b, hb0, e => by
    rw [List.map_cons, List.nodup_cons] at h
    rcases List.mem_cons.1 ha0 with h1 | h1
    · rcases List.mem_cons.1 hb0 with h2 | h2
      · rw [h1, h2]
      · rw [h1] at e; exact absurd (List.mem_map.2 ⟨b, h2, e.symm⟩) h.1
    · rcases List.mem_cons.1 hb0 with h2 | h2
      · rw [h2] at e; exact absurd (List.mem_map.2 ⟨a, h1, e⟩) h.1
      · exact nodup_inj h.2 a h1 b h2 e
theorem uniqP : ∀ {a b : List Pce}, a.Perm b → a.Pairwise leP → b.Pairwise leP → (a.map fun p => p.2.1).Nodup → a = b
  | [], b, hp, _, _, _ => by rw [List.nil_perm.1 hp]
  | x :: r, [], hp, _, _, _ => absurd hp.length_eq (by simp)
  | x :: r, y :: s, hp, ha, hb, hn => by
    obtain ⟨a1, a2⟩ := List.pairwise_cons.1 ha
    obtain ⟨b1, b2⟩ := List.pairwise_cons.1 hb
    have hx : x ∈ y :: s := hp.mem_iff.1 List.mem_cons_self
    have hy : y ∈ x :: r := hp.mem_iff.2 List.mem_cons_self
    have hxy : x = y := by
      refine nodup_inj hn x List.mem_cons_self y hy ?_
      unfold leP at a1 b1
      rcases List.mem_cons.1 hx with e | e
      · rw [e]
      · rcases List.mem_cons.1 hy with e' | e'
        · rw [e']
        · have h1 := b1 x e; have h2 := a1 y e'; omega
    subst hxy
    rw [List.map_cons, List.nodup_cons] at hn
    rw [uniqP ((List.perm_cons x).1 hp) a2 b2 hn.2]
theorem sort_some {p0 r : List Pce} (h : slices_SortFunc_piece p0 = some r) : (∀ p ∈ p0, pcOk p) ∧ p0.length ≤ 1000000 ∧ p0 ≠ [] ∧ r = sortP p0 := by
  unfold slices_SortFunc_piece at h
  split at h
  · rename_i hb
    refine ⟨hb.1, hb.2.1, hb.2.2, ?_⟩
    split at h
    · rename_i hn
      cases h
      exact (uniqP ((sortP_perm hb.1).trans (isoP_perm p0).symm) (sortP_sorted hb.1) (isoP_sorted p0) (((sortP_perm hb.1).map _).nodup_iff.2 hn)).symm
    · cases h; rfl
  · cases h
end Go.Ph.Pf
end
section
namespace Go.Ph
open Go Go.RowKit Go.Sort Go.Proofs
variable {α : Type} [Inhabited α] {enc : α → List Value} {k : Nat}
theorem flatK_list (h0 : ∀ x, (enc x).length = k) (hk : 0 < k) (l : List α) : (flatK enc k l.toArray).toList = l.flatMap enc := by
  apply List.ext_getElem?
  intro t
  by_cases ht : t < l.length * k
  · have hi : t / k < l.length := Nat.div_lt_of_lt_mul (by rw [Nat.mul_comm]; exact ht)
    have hj : t % k < k := Nat.mod_lt _ hk
    have h1 : l[t / k]? = some (l[t / k]'hi) := List.getElem?_eq_getElem _
    have h2 : (enc (l[t / k]'hi))[t % k]? = some ((enc (l[t / k]'hi))[t % k]'(by rw [h0]; exact hj)) := List.getElem?_eq_getElem _
    have h3 := flat_at h0 l _ _ _ _ h1 h2
    rw [show t / k * k + t % k = t by rw [Nat.mul_comm]; exact Nat.div_add_mod t k] at h3
    rw [h3, Array.getElem?_toList]
    have hs : t < (flatK enc k l.toArray).size := by simpa using ht
    rw [Array.getElem?_eq_getElem hs]
    have h4 := get_flatK enc k l.toArray t (by simpa using ht)
    rw [getElem!_pos _ t hs] at h4
    rw [h4]
    have h5 : l.toArray[t / k]! = l[t / k]'hi := by rw [getElem!_pos _ _ (by simpa using hi)]; simp
    rw [h5, getElem!_pos _ _ (by rw [h0]; exact hj)]
  · rw [List.getElem?_eq_none (by simpa using Nat.le_of_not_lt ht), List.getElem?_eq_none (by rw [flat_len h0]; omega)]
theorem holdsK_row {w : World} {g : Nat} {cur : Array Value} {e : TypeId} {l : List α} (h0 : ∀ x, (enc x).length = k) (hk : 0 < k) (hb : w.heap[g]? = some (.cells cur e (0, 0))) (ht : cur.toList.take (l.length * k) = l.flatMap enc) : HoldsK enc k w g 0 l.toArray := by
  intro j hj
  have hj' : j < l.length * k := by simpa using hj
  refine ⟨?_, by simp [World.frozen?, hb]⟩
  have h1 : (cur.toList.take (l.length * k))[j]? = (flatK enc k l.toArray).toList[j]? := by rw [ht, flatK_list h0 hk]
  rw [List.getElem?_take_of_lt hj'] at h1
  simp only [World.cell?, hb, Nat.zero_add]
  simp only [Option.isSome_none, Bool.false_eq_true, if_false]
  rw [← Array.getElem?_toList, h1, Array.getElem?_toList, Array.getElem?_eq_getElem hj]
  rw [getElem!_pos (flatK enc k l.toArray) j hj]; rfl
theorem sortWorldK_heap {w : World} {g n : Nat} {os : Array Obj} {cur : Array Value} {e : TypeId} {fr : Nat × Nat} (d : Array α) (hb : w.heap[g]? = some (.cells cur e fr)) :
    (sortWorldK enc k w g 0 n d os).heap[g]? = some (.cells (putCells id 0 (flatK enc k d) cur) e fr) := by
  have hg : g < w.heap.size := (Array.getElem?_eq_some_iff.1 hb).1
  unfold sortWorldK putRowK
  rw [heap_grow_old _ _ (by simpa using hg)]
  simp [putRow, mapBlock, Sort.ahead, Array.getElem?_modify, hb, onCells]
theorem grownBy_sortedK {w : World} {g n : Nat} {os : Array Obj} (d : Array α) : w.grownBy (sortWorldK enc k w g 0 n d os) (some g) := by
  unfold sortWorldK putRowK
  refine ⟨rfl, rfl, rfl, by simp, fun q hq hne => ?_⟩
  rw [heap_grow_old _ _ (by simpa using hq)]
  have : g ≠ q := fun e => hne (by rw [e])
  simp [putRow, mapBlock, Sort.ahead, Array.getElem?_modify, this]
theorem take_putCellsK (cur F : Array Value) (h : F.size ≤ cur.size) : (putCells id 0 F cur).toList.take F.size = F.toList := by
  apply List.ext_getElem?
  intro j
  by_cases hj : j < F.size
  · rw [List.getElem?_take_of_lt hj, Array.getElem?_toList]
    simp [putCells, hj, show j < cur.size by omega]
  · rw [List.getElem?_take_eq_none (by omega), List.getElem?_eq_none (by simp; omega)]
theorem StX.sorted {C : Nat → Prop} {w0 w : World} {M0 M : Mem} {L L' : List Item} {β : Type} {encB : β → List Value} {t : TypeId} {g cap n : Nat} {os : Array Obj} {l l' : List β} {d : List α} (H : StX C w0 M0 M L w) (h0 : ∀ x, (enc x).length = k) (hb0 : ∀ x, (encB x).length = k) (hk : 0 < k)
    (hu : Upd L (RowS t k encB (.slice (some ⟨g, 0, none⟩) l.length cap) l) (RowS t k encB (.slice (some ⟨g, 0, none⟩) l.length cap) l') L') (hl : l'.length = l.length) (hd : d.flatMap enc = l'.flatMap encB) (hdl : d.length = l.length) :
    StX C w0 M0 M L' (sortWorldK enc k w g 0 n d.toArray os) := by
  have hrow := H.rowOf hu.mem
  rcases hrow.2 with ⟨hv, _⟩ | ⟨g', cap', cur, hv, _, hg, hnc, hcm, hcs, _⟩
  · cases hv
  · cases hv
    refine H.upd hu (grownBy_sortedK _) ?_ (fun b hb => .inl hb)
    have hF : (flatK enc k d.toArray).size = l.length * k := by simp [hdl]
    refine ⟨by rw [flat_len hb0], .inr ⟨g, cap, _, by rw [hl], Nat.zero_le _, sortWorldK_heap _ hg, by rw [hl]; exact hnc, hcm, by simp [putCells, hcs], ?_⟩⟩
    rw [hl, ← hF, take_putCellsK _ _ (by rw [hF, hcs]; exact Nat.mul_le_mul_right _ hnc), flatK_list h0 hk, hd]
end Go.Ph
end
section
namespace Go.Proofs
open Go.Shelf
def Tryz.lsort_ren : Go.Shelf.Ren := ⟨fun | 6 => 96 | 15 => 119 | 14 => 118 | 28 => 155 | 29 => 133 | 20 => 147 | 21 => 148 | 22 => 149 | 23 => 150 | 24 => 151 | 25 => 152 | 26 => 153 | 27 => 154 | 46 => 176 | 47 => 177 | 48 => 178 | 49 => 179 | 50 => 180 | 57 => 193 | n => n, fun | 22 => 83 | 24 => 85 | 25 => 143 | 3 => 3 | 39 => 70 | 0 => 0 | 53 => 100 | 55 => 96 | 4 => 4 | 46 => 207 | 45 => 206 | 50 => 120 | 5 => 5 | 9 => 9 | 66 => 234 | 70 => 238 | 76 => 250 | 77 => 71 | n => n, fun | n => n⟩
theorem Tryz.lsort : Go.Proofs.SlLaysF0.n6 Tryz.prog Tryz.lsort_ren := {
  mixed := by kernel_rfl
  f6 := ⟨Tryz.f96.name, by decide, Tryz.func96.trans (congrArg some (by kernel_rfl))⟩
  f14 := ⟨Tryz.f118.name, by decide, Tryz.func118.trans (congrArg some (by kernel_rfl))⟩
  f15 := Tryz.func119.trans (congrArg some (by kernel_rfl))
  f20 := ⟨Tryz.f147.name, by decide, Tryz.func147.trans (congrArg some (by kernel_rfl))⟩
  f21 := ⟨Tryz.f148.name, by decide, Tryz.func148.trans (congrArg some (by kernel_rfl))⟩
  f22 := ⟨Tryz.f149.name, by decide, Tryz.func149.trans (congrArg some (by kernel_rfl))⟩
  f23 := ⟨Tryz.f150.name, by decide, Tryz.func150.trans (congrArg some (by kernel_rfl))⟩
  f24 := ⟨Tryz.f151.name, by decide, Tryz.func151.trans (congrArg some (by kernel_rfl))⟩
  f25 := ⟨Tryz.f152.name, by decide, Tryz.func152.trans (congrArg some (by kernel_rfl))⟩
  f26 := ⟨Tryz.f153.name, by decide, Tryz.func153.trans (congrArg some (by kernel_rfl))⟩
  f27 := ⟨Tryz.f154.name, by decide, Tryz.func154.trans (congrArg some (by kernel_rfl))⟩
  f28 := Tryz.func155.trans (congrArg some (by kernel_rfl))
  f29 := Tryz.func133.trans (congrArg some (by kernel_rfl))
  f46 := ⟨Tryz.f176.name, by decide, Tryz.func176.trans (congrArg some (by kernel_rfl))⟩
  f47 := Tryz.func177.trans (congrArg some (by kernel_rfl))
  f48 := Tryz.func178.trans (congrArg some (by kernel_rfl))
  f49 := ⟨Tryz.f179.name, by decide, Tryz.func179.trans (congrArg some (by kernel_rfl))⟩
  f50 := ⟨Tryz.f180.name, by decide, Tryz.func180.trans (congrArg some (by kernel_rfl))⟩
  f57 := ⟨Tryz.f193.name, by decide, Tryz.func193.trans (congrArg some (by kernel_rfl))⟩
  t0 := Tryz.underlying0
  a0 := Tryz.isAgg0
  z0 := Tryz.sizeOf0
  v0 := Tryz.zeroValue0
  t3 := Tryz.underlying3
  a3 := Tryz.isAgg3
  z3 := Tryz.sizeOf3
  v3 := Tryz.zeroValue3
  t4 := Tryz.underlying4
  a4 := Tryz.isAgg4
  z4 := Tryz.sizeOf4
  v4 := Tryz.zeroValue4
  t5 := Tryz.underlying5
  a5 := Tryz.isAgg5
  z5 := Tryz.sizeOf5
  v5 := Tryz.zeroValue5
  t9 := Tryz.underlying9
  a9 := Tryz.isAgg9
  z9 := Tryz.sizeOf9
  v9 := Tryz.zeroValue9
  t22 := Tryz.underlying83
  a22 := Tryz.isAgg83
  z22 := Tryz.sizeOf83
  v22 := Tryz.zeroValue83
  t25 := Tryz.underlying143
  a25 := Tryz.isAgg143
  z25 := Tryz.sizeOf143
  v25 := Tryz.zeroValue143
  t39 := Tryz.underlying70
  a39 := Tryz.isAgg70
  z39 := Tryz.sizeOf70
  v39 := Tryz.zeroValue70
  t45 := Tryz.underlying206
  a45 := Tryz.isAgg206
  z45 := Tryz.sizeOf206
  v45 := Tryz.zeroValue206
  t46 := Tryz.underlying207
  a46 := Tryz.isAgg207
  z46 := Tryz.sizeOf207
  v46 := Tryz.zeroValue207
  t50 := Tryz.underlying120
  a50 := Tryz.isAgg120
  z50 := Tryz.sizeOf120
  v50 := Tryz.zeroValue120
  t53 := Tryz.underlying100
  a53 := Tryz.isAgg100
  z53 := Tryz.sizeOf100
  v53 := Tryz.zeroValue100
  t55 := Tryz.underlying96
  a55 := Tryz.isAgg96
  z55 := Tryz.sizeOf96
  v55 := Tryz.zeroValue96
  t66 := Tryz.underlying234
  a66 := Tryz.isAgg234
  z66 := Tryz.sizeOf234
  v66 := Tryz.zeroValue234
  t70 := Tryz.underlying238
  a70 := Tryz.isAgg238
  z70 := Tryz.sizeOf238
  v70 := Tryz.zeroValue238
  t76 := Tryz.underlying250
  a76 := Tryz.isAgg250
  z76 := Tryz.sizeOf250
  v76 := Tryz.zeroValue250
  t77 := Tryz.underlying71
  a77 := Tryz.isAgg71
  z77 := Tryz.sizeOf71
  v77 := Tryz.zeroValue71 }
end Go.Proofs
end
section
namespace Go.Proofs.YtegkhjbajijidaaGreatDoor
open Go Go.RowKit Go.Ph Go.Ph.Pl Go.Ph.Pf Go.Sort Go.Proofs
abbrev encPc (p : Pce) : List Value := [S p.1, I p.2.1, Value.bool p.2.2.1, S p.2.2.2]
abbrev encPB (x : PcB) : List Value := encPc x.1
def cfB (x y : PcB) : Int := x.1.2.1 - y.1.2.1
set_option maxRecDepth 100000 in
set_option maxHeartbeats 1600000 in
theorem cmpRaw (s1 v1 s2 v2 : Value) (f1 f2 : Bool) (n1 n2 : Int) (hr : IntKind.i64.wrap (n1 - n2) = n1 - n2) (h1 : s1.oneCell' = true) (h2 : v1.oneCell' = true) (h3 : s2.oneCell' = true) (h4 : v2.oneCell' = true) (W : World) : Calls Tryz.prog 97 #[.agg #[s1, .int .i64 n1, .bool f1, v1], .agg #[s2, .int .i64 n2, .bool f2, v2]] W fun e w' => e = .returned (.int .i64 (n1 - n2)) ∧ ∃ q os', w' = grow (W.drewN q) os' := by
  go_enter Tryz.func97, Tryz.ntmps97
  go_wp2
  go_ret
  refine ⟨?_, 0, _, by rw [alloc_eq_grow, alloc_eq_grow, grow_grow]; rfl⟩
  first | rw [hr] | simp [hr] | rfl
theorem cmpP (x y : PcB) (W : World) : Calls Tryz.prog 97 (#[.agg (encPB x).toArray, .agg (encPB y).toArray] ++ #[]) W fun e w' => e = .returned (.int .i64 (cfB x y)) ∧ ∃ q os', w' = grow (W.drewN q) os' := by
  have hx := x.2
  have hy := y.2
  unfold pcOk at hx hy
  exact cmpRaw _ _ _ _ _ _ _ _ (by simp [IntKind.wrap, IntKind.bits, IntKind.signed]; omega) rfl rfl rfl rfl W
theorem swoC : SWO (ltOf cfB) := swoB
theorem onePB : ∀ (x : PcB), ∀ v ∈ encPB x, v.oneCell' = true := by
  intro x v hv
  simp only [List.mem_cons, List.not_mem_nil, or_false] at hv
  rcases hv with rfl | rfl | rfl | rfl <;> rfl
theorem sortPiece_ct {p0 r : List Pce} {vp0 : Value} (h : slices_SortFunc_piece p0 = some r) : CtX Tryz.prog 96 [vp0, .func (.func 97) #[] #[]] [RowS 85 4 encPc vp0 p0] (fun _ => True) (fun v M its => v = .tuple #[] ∧ its = [RowS 85 4 encPc vp0 r]) := by
  obtain ⟨hok, hlen, hne, rfl⟩ := sort_some h
  refine ⟨enters Tryz.func96 (by kernel_rfl) rfl, fun w M H _ => ?_⟩
  rcases (H.rowOf (List.Mem.head _)).2 with ⟨_, hn⟩ | ⟨g, cap, cur, rfl, hb0, hg, hnc, hcm, hcs, htk⟩
  · exact absurd (List.eq_nil_of_length_eq_zero hn) hne
  · have hfl : (p0.map mkB).flatMap encPB = p0.flatMap encPc := by
      rw [List.flatMap_map]
      have : ∀ (l : List Pce), (∀ p ∈ l, pcOk p) → l.flatMap (fun a => encPB (mkB a)) = l.flatMap encPc := by
        intro l
        induction l with
        | nil => intro _; rfl
        | cons a l ih =>
          intro hl
          rw [List.flatMap_cons, List.flatMap_cons, ih (fun p hp => hl p (List.mem_cons_of_mem _ hp))]
          show encPc (mkB a).1 ++ _ = _
          rw [mkB_val (hl a List.mem_cons_self)]
      exact this p0 hok
    have hs : (p0.map mkB).toArray.size = p0.length := by simp
    have hH : HoldsK encPB 4 w g 0 (p0.map mkB).toArray := holdsK_row (fun _ => rfl) (by decide) hg (by rw [List.length_map, htk, hfl])
    have eg : ∀ args w, (callFunc 97 args).run Tryz.prog w = .ok (.enter 97 args) w := enters_of Tryz.func97 (by kernel_rfl) rfl
    have hlt : g < w.heap.size := (Array.getElem?_eq_some_iff.1 hg).1
    have hc := AnyQ.slices_SortFunc_eq Tryz.lsort 4 Tryz.isAgg85 Tryz.sizeOf85 encPB (fun _ => rfl) onePB cfB swoC 97 #[] g 0 cap (p0.map mkB).toArray w eg (fun m os dk _ x y => cmpP x y _) hH hlt (by rw [hs]; omega)
    have hp := pdqB (p0.map mkB).toArray
    rw [hs] at hc hp
    change Calls Tryz.prog 96 _ _ _ at hc
    have hsort : sortP p0 = (pdq ltB (p0.map mkB).toArray 0 p0.length (Lib.bitLen p0.length) true true).toList.map (fun x => x.1) := rfl
    have hsame : pdq (ltOf cfB) (p0.map mkB).toArray 0 p0.length (Lib.bitLen p0.length) true true = pdq ltB (p0.map mkB).toArray 0 p0.length (Lib.bitLen p0.length) true true := rfl
    rw [hsame] at hc
    revert hp hsort hc
    generalize pdq ltB (p0.map mkB).toArray 0 p0.length (Lib.bitLen p0.length) true true = X
    intro hp hc hsort
    refine hc.mono ?_
    rintro e w' ⟨rfl, n, os, rfl⟩
    refine ⟨_, M, _, rfl, ?_, rfl, rfl⟩
    have hX : X.toList.length = p0.length := by rw [Array.length_toList]; exact hp.1
    have := H.sorted (enc := encPB) (k := 4) (encB := encPc) (n := n) (os := os) (l' := sortP p0) (d := X.toList) (fun _ => rfl) (fun _ => rfl) (by decide) Upd.head (by rw [hsort, List.length_map]; exact hX) (by rw [hsort, List.flatMap_map]) hX
    simpa using this
end Go.Proofs.YtegkhjbajijidaaGreatDoor
end
section
namespace Go.Ph.Pl
theorem u8_lit (c n : UInt8) : c = n ↔ c.toNat = n.toNat := UInt8.toNat_inj.symm
theorem drop_cons {α : Type} {l : List α} {i : Nat} (h : i < l.length) : l.drop i = l[i] :: l.drop (i + 1) := List.drop_eq_getElem_cons h
theorem scanL {α β : Type} (L : Nat → Int → Option β) (l : List α) (p : α → Bool) (stop r : β) (hend : ∀ m, L (m + 1) (l.length : Int) = some stop)
    (hstep : ∀ m i (h : i < l.length), L (m + 1) (i : Int) = if p l[i] = true then some r else L m ((i + 1 : Nat) : Int)) :
    ∀ (k i m : Nat), l.length - i ≤ k → k < m → i ≤ l.length → L m (i : Int) = some (if (l.drop i).any p = true then r else stop)
  | 0, i, m, h1, h2, h3 => by
    obtain ⟨m, rfl⟩ : ∃ k, m = k + 1 := ⟨m - 1, by omega⟩
    obtain rfl : i = l.length := by omega
    rw [hend, List.drop_length]; rfl
  | k + 1, i, m, h1, h2, h3 => by
    obtain ⟨m, rfl⟩ : ∃ k, m = k + 1 := ⟨m - 1, by omega⟩
    by_cases hi : i < l.length
    · rw [hstep m i hi, drop_cons hi, List.any_cons]
      by_cases hp : p l[i] = true
      · rw [if_pos hp, hp]; rfl
      · rw [if_neg hp, scanL L l p stop r hend hstep k (i + 1) m (by omega) (by omega) (by omega)]
        have : p l[i] = false := by simpa using hp
        rw [this]; rfl
    · obtain rfl : i = l.length := by omega
      rw [hend, List.drop_length]; rfl
theorem scan0 {α β : Type} {L : Nat → Int → Option β} {l : List α} {p : α → Bool} {stop r : β} {m : Nat} (hm : l.length < m) (hend : ∀ m, L (m + 1) (l.length : Int) = some stop)
    (hstep : ∀ m i (h : i < l.length), L (m + 1) (i : Int) = if p l[i] = true then some r else L m ((i + 1 : Nat) : Int)) : L m 0 = some (if l.any p = true then r else stop) := by
  have := scanL L l p stop r hend hstep l.length 0 m (by omega) hm (by omega)
  simpa using this
theorem scanP {α β : Type} (L : Nat → Int → Option β) (l : List α) (p : Nat → α → Option β) (stop : β) (hend : ∀ m, L (m + 1) (l.length : Int) = some stop)
    (hstep : ∀ m i (h : i < l.length), L (m + 1) (i : Int) = match p i l[i] with | some r => some r | none => L m ((i + 1 : Nat) : Int)) :
    ∀ (k i m : Nat), l.length - i ≤ k → k < m → i ≤ l.length →
      (∃ (j : Nat) (hj : j < l.length) (r : β), i ≤ j ∧ p j l[j] = some r ∧ (∀ (a : Nat) (ha : a < l.length), i ≤ a → a < j → p a l[a] = none) ∧ L m (i : Int) = some r) ∨
      ((∀ (a : Nat) (ha : a < l.length), i ≤ a → p a l[a] = none) ∧ L m (i : Int) = some stop)
  | 0, i, m, h1, h2, h3 => by
    obtain ⟨m, rfl⟩ : ∃ k, m = k + 1 := ⟨m - 1, by omega⟩
    obtain rfl : i = l.length := by omega
    exact .inr ⟨fun a ha hi => by omega, hend m⟩
  | k + 1, i, m, h1, h2, h3 => by
    obtain ⟨m, rfl⟩ : ∃ k, m = k + 1 := ⟨m - 1, by omega⟩
    by_cases hi : i < l.length
    · cases hp : p i l[i] with
      | some r => exact .inl ⟨i, hi, r, Nat.le_refl _, hp, fun a ha h1 h2 => by omega, by rw [hstep m i hi, hp]⟩
      | none =>
        rw [hstep m i hi, hp]
        rcases scanP L l p stop hend hstep k (i + 1) m (by omega) (by omega) (by omega) with ⟨j, hj, r, a1, a2, a3, a4⟩ | ⟨a1, a2⟩
        · refine .inl ⟨j, hj, r, by omega, a2, fun a ha h1 h2 => ?_, a4⟩
          rcases Nat.eq_or_lt_of_le h1 with rfl | h1
          · exact hp
          · exact a3 a ha h1 h2
        · refine .inr ⟨fun a ha h1 => ?_, a2⟩
          rcases Nat.eq_or_lt_of_le h1 with rfl | h1
          · exact hp
          · exact a1 a ha h1
    · obtain rfl : i = l.length := by omega
      exact .inr ⟨fun a ha hi => by omega, hend m⟩
theorem FU_gt {n : Nat} (h : n ≤ 9223372036854775807) : n < FU := by rw [FU_eq]; omega
end Go.Ph.Pl
end
