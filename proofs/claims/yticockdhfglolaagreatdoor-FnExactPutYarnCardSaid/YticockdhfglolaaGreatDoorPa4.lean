/- The walks and laws of this claim: Shelf Lb Dp Dc Rd Sq Sc Jl Ch Nm Nl Ve Vt Vr Vi Vx. -/
import Derived.Shelf.Strings.Builder1
import Derived.Shelf.Strings.Builder2
import Derived.Shelf.Strings.OnBuilder
import Derived.Shelf.Strings.Trim
import Derived.Shelf.Small.Utf8
import Derived.Shelf.Small.Bits
import Derived.Shelf.Small.Strs
import Derived.Shelf.Small.Wraps
import Derived.Shelf.Strings.BuilderF
import Derived.Shelf.Strings.BuilderK
import Derived.Shelf.Utf8.RuneCount
import Derived.Shelf.Strings.Builder2Cap
import Derived.Shelf.Strconv.Atoi
import Derived.Shelf.Strconv.Itoa0
import Derived.Shelf.Strconv.Itoa1
import Derived.Shelf.LaysM
import Derived.Shelf.Strconv.Itoa2
import Derived.Shelf.Strconv.Itoa3
import Derived.Shelf.Strconv.AtoiErrFast
import Derived.Shelf.Strconv.ParseIntEmpty
import Derived.Shelf.Strconv.AtoiFail
import Derived.Shelf.Strconv.Clone
import Derived.Shelf.Strconv.SyntaxError
import Derived.Shelf.LaysC
import Derived.Shelf.Strconv.ToError
import Derived.Shelf.Strconv.AtoiErr
import Derived.Shelf.Strconv.ErrVar
import Derived.Shelf.Strconv.Lower
import Derived.Shelf.Strconv.ParseUint10
import Derived.Shelf.Strconv.ParseUint10Empty
import Derived.Shelf.Strconv.ParseUint10Any
import Derived.Shelf.Strconv.ParseInt10
import Derived.Shelf.Strconv.AtoiLong
import Derived.Shelf.Strconv.AtoiInnerAll
import Derived.Shelf.Strconv.RangeError
import Derived.Shelf.Strconv.ToErrorRange
import Derived.Shelf.Strconv.AtoiAll
import Derived.Shelf.Strconv.ErrVarAll
import Derived.Shelf.Strconv.ParseUintEmpty
import Derived.Shelf.Strconv.ParseUint10b64
import Derived.Shelf.Strconv.ParseUint10b32
import Derived.Shelf.Strconv.ParseUint10b16
import Derived.Shelf.Strconv.ParseUint10b8
import Derived.Shelf.Strconv.ParseUint10At
import Derived.Shelf.Strconv.ParseInt10At64
import Derived.Shelf.Strconv.ParseInt10At32
import Derived.Shelf.Strconv.ParseInt10At16
import Derived.Shelf.Strconv.ParseInt10At8
import Derived.Shelf.Strconv.ParseInt10All
import Derived.Shelf.Strings.Search1
import Derived.Shelf.Strings.Search2
import Derived.Shelf.Strings.Search3
import Derived.Shelf.Strings.Cut
import Derived.Shelf.Strings.Count
import Derived.Shelf.Strings.Shaped
import Derived.Shelf.Strings.Prefix
import Derived.Shelf.Strings.Split
import Derived.Shelf.Strings.SplitShaped
import Derived.Shelf.Unicode.Decode
import Derived.Shelf.Strings.Runes
import Derived.Shelf.Strings.RuneCount
import Derived.Shelf.Strings.AsciiSet
import Derived.Shelf.Strings.Explode
import Derived.Shelf.Unicode.DecodeSlow
import Derived.Shelf.Unicode.DecodeAny
import Derived.Shelf.Unicode.DecodeLast
import Derived.Shelf.Strings.BuilderCap
import Derived.Ground.Names2Prog
import Derived.Shelf.Slices.Clone
import Derived.Shelf.Slices.CompactS
import Derived.Shelf.Slices.Cells
import Derived.Test.YticockdhfglolaaGreatDoorProg
import Derived.WalkKit
import Derived.BigCall
import Derived.Lib.AppendIntMem
import Derived.Lib.AtoiErrMem
import Derived.Lib.SplitLaws
import Derived.Test.YticockdhfglolaaGreatDoorPa3
namespace Go.Proofs
open Go.Shelf
def Tryz.lays156_ren : Go.Shelf.Ren := ⟨fun | 156 => 54 | 165 => 95 | 166 => 96 | 169 => 97 | 240 => 150 | 241 => 151 | 276 => 200 | 277 => 201 | n => n, fun | 31 => 22 | 9 => 9 | 3 => 3 | 4 => 4 | 0 => 0 | 20 => 20 | 72 => 118 | 76 => 122 | 70 => 116 | 37 => 95 | 75 => 121 | 127 => 170 | 164 => 194 | 5 => 5 | 80 => 74 | n => n, fun | n => n⟩
theorem Tryz.lays156 : Go.Proofs.Lays.n156 Tryz.prog Tryz.lays156_ren := {
  mixed := by kernel_rfl
  f156 := Tryz.func54.trans (congrArg some (by kernel_rfl))
  f165 := Tryz.func95.trans (congrArg some (by kernel_rfl))
  f166 := Tryz.func96.trans (congrArg some (by kernel_rfl))
  f169 := Tryz.func97.trans (congrArg some (by kernel_rfl))
  f240 := Tryz.func150.trans (congrArg some (by kernel_rfl))
  f241 := Tryz.func151.trans (congrArg some (by kernel_rfl))
  f276 := Tryz.func200.trans (congrArg some (by kernel_rfl))
  f277 := Tryz.func201.trans (congrArg some (by kernel_rfl))
  t0 := Tryz.underlying0
  a0 := Tryz.isAgg0
  z0 := Tryz.sizeOf0
  v0 := Tryz.zeroValue0
  t3 := Tryz.underlying3
  a3 := Tryz.isAgg3
  z3 := Tryz.sizeOf3
  v3 := Tryz.zeroValue3
  t4 := Tryz.underlying4
  a4 := Tryz.isAgg4
  z4 := Tryz.sizeOf4
  v4 := Tryz.zeroValue4
  t9 := Tryz.underlying9
  a9 := Tryz.isAgg9
  z9 := Tryz.sizeOf9
  v9 := Tryz.zeroValue9
  t20 := Tryz.underlying20
  a20 := Tryz.isAgg20
  z20 := Tryz.sizeOf20
  v20 := Tryz.zeroValue20
  t31 := Tryz.underlying22
  a31 := Tryz.isAgg22
  z31 := Tryz.sizeOf22
  v31 := Tryz.zeroValue22
  t37 := Tryz.underlying95
  a37 := Tryz.isAgg95
  z37 := Tryz.sizeOf95
  v37 := Tryz.zeroValue95
  t70 := Tryz.underlying116
  a70 := Tryz.isAgg116
  z70 := Tryz.sizeOf116
  v70 := Tryz.zeroValue116
  t72 := Tryz.underlying118
  a72 := Tryz.isAgg118
  z72 := Tryz.sizeOf118
  v72 := Tryz.zeroValue118
  t75 := Tryz.underlying121
  a75 := Tryz.isAgg121
  z75 := Tryz.sizeOf121
  v75 := Tryz.zeroValue121
  t76 := Tryz.underlying122
  a76 := Tryz.isAgg122
  z76 := Tryz.sizeOf122
  v76 := Tryz.zeroValue122
  t127 := Tryz.underlying170
  a127 := Tryz.isAgg170
  z127 := Tryz.sizeOf170
  v127 := Tryz.zeroValue170
  t164 := Tryz.underlying194
  a164 := Tryz.isAgg194
  z164 := Tryz.sizeOf194
  v164 := Tryz.zeroValue194 }
theorem Tryz.Builder_Extra_156 : Builder.Extra Tryz.prog Tryz.lays156_ren := {
  sizeBuilder := by kernel_rfl
  liesBuilder := by kernel_rfl
  t5 := Tryz.underlying5
  a5 := Tryz.isAgg5
  z5 := Tryz.sizeOf5
  v5 := Tryz.zeroValue5
  infoByte := by kernel_rfl
  cellsByte := by kernel_rfl
  sizeByte := by kernel_rfl
  neB5 := by decide }
open Go.RowKit in
theorem Tryz.strings_Join_none (a : Option Addr) (c : Nat) (sep : ByteArray) (w : World) :
    Calls Tryz.prog 54 #[.slice a 0 c, .string sep] w fun e w' => e = .returned (.string ⟨#[]⟩) ∧ w' = w := Any.strings_Join_none Tryz.lays156 Tryz.Builder_Extra_156 a c sep w
open Go.RowKit in
theorem Tryz.strings_Join (bk o c : Nat) (xs : List ByteArray) (sep : ByteArray) (w : World) (hcells : ∀ (j : Nat) x, xs[j]? = some x → w.cell? ⟨bk, o + j, none⟩ = some (.string x)) (hbk : bk < w.heap.size) (hN : xs.length ≤ 140737488355328) (hcap : xs.length ≤ c) (hlen : (Lib.join (xs.map (·.data.toList)) sep.data.toList).length ≤ 140737488355328) :
    Calls Tryz.prog 54 #[.slice (some ⟨bk, o, none⟩) xs.length c, .string sep] w fun e w' => e = .returned (.string ⟨(Lib.join (xs.map (·.data.toList)) sep.data.toList).toArray⟩) ∧ Below w.heap.size w w' := Any.strings_Join Tryz.lays156 Tryz.Builder_Extra_156 bk o c xs sep w hcells hbk hN hcap hlen
def Tryz.lays161_ren : Go.Shelf.Ren := ⟨fun | 161 => 210 | 231 => 233 | 227 => 221 | 233 => 234 | 235 => 235 | 228 => 244 | 197 => 239 | 151 => 246 | 260 => 255 | 152 => 258 | 137 => 198 | 119 => 263 | 224 => 242 | 225 => 241 | 217 => 224 | 266 => 247 | n => n, fun | 9 => 9 | 4 => 4 | 3 => 3 | 5 => 5 | 117 => 207 | 116 => 206 | 0 => 0 | 124 => 210 | 105 => 214 | 21 => 21 | 119 => 233 | 46 => 103 | 139 => 236 | 138 => 235 | n => n, fun | 3 => 3 | 4 => 4 | n => n⟩
theorem Tryz.lays161 : Go.Proofs.Lays.n161 Tryz.prog Tryz.lays161_ren := {
  mixed := by kernel_rfl
  f119 := Tryz.func263.trans (congrArg some (by kernel_rfl))
  f137 := Tryz.func198.trans (congrArg some (by kernel_rfl))
  f151 := Tryz.func246.trans (congrArg some (by kernel_rfl))
  f152 := Tryz.func258.trans (congrArg some (by kernel_rfl))
  f161 := Tryz.func210.trans (congrArg some (by kernel_rfl))
  f197 := Tryz.func239.trans (congrArg some (by kernel_rfl))
  f217 := Tryz.func224.trans (congrArg some (by kernel_rfl))
  f224 := Tryz.func242.trans (congrArg some (by kernel_rfl))
  f225 := Tryz.func241.trans (congrArg some (by kernel_rfl))
  f227 := Tryz.func221.trans (congrArg some (by kernel_rfl))
  f228 := Tryz.func244.trans (congrArg some (by kernel_rfl))
  f231 := Tryz.func233.trans (congrArg some (by kernel_rfl))
  f233 := Tryz.func234.trans (congrArg some (by kernel_rfl))
  f235 := Tryz.func235.trans (congrArg some (by kernel_rfl))
  f260 := Tryz.func255.trans (congrArg some (by kernel_rfl))
  f266 := Tryz.func247.trans (congrArg some (by kernel_rfl))
  t0 := Tryz.underlying0
  a0 := Tryz.isAgg0
  z0 := Tryz.sizeOf0
  v0 := Tryz.zeroValue0
  t3 := Tryz.underlying3
  a3 := Tryz.isAgg3
  z3 := Tryz.sizeOf3
  v3 := Tryz.zeroValue3
  t4 := Tryz.underlying4
  a4 := Tryz.isAgg4
  z4 := Tryz.sizeOf4
  v4 := Tryz.zeroValue4
  t5 := Tryz.underlying5
  a5 := Tryz.isAgg5
  z5 := Tryz.sizeOf5
  v5 := Tryz.zeroValue5
  t9 := Tryz.underlying9
  a9 := Tryz.isAgg9
  z9 := Tryz.sizeOf9
  v9 := Tryz.zeroValue9
  t21 := Tryz.underlying21
  a21 := Tryz.isAgg21
  z21 := Tryz.sizeOf21
  v21 := Tryz.zeroValue21
  t46 := Tryz.underlying103
  a46 := Tryz.isAgg103
  z46 := Tryz.sizeOf103
  v46 := Tryz.zeroValue103
  t105 := Tryz.underlying214
  a105 := Tryz.isAgg214
  z105 := Tryz.sizeOf214
  v105 := Tryz.zeroValue214
  t116 := Tryz.underlying206
  a116 := Tryz.isAgg206
  z116 := Tryz.sizeOf206
  t117 := Tryz.underlying207
  a117 := Tryz.isAgg207
  z117 := Tryz.sizeOf207
  v117 := Tryz.zeroValue207
  t119 := Tryz.underlying233
  a119 := Tryz.isAgg233
  z119 := Tryz.sizeOf233
  t124 := Tryz.underlying210
  a124 := Tryz.isAgg210
  z124 := Tryz.sizeOf210
  v124 := Tryz.zeroValue210
  t138 := Tryz.underlying235
  a138 := Tryz.isAgg235
  z138 := Tryz.sizeOf235
  v138 := Tryz.zeroValue235
  t139 := Tryz.underlying236
  a139 := Tryz.isAgg236
  z139 := Tryz.sizeOf236
  v139 := Tryz.zeroValue236
  g3 := by kernel_rfl
  g4 := by kernel_rfl }
open Go.RowKit in
theorem Tryz.strings_TrimLeft_one (s : ByteArray) (c : UInt8) (hc : c.toNat < 128) (w : World) :
    Calls Tryz.prog 210 #[.string s, .string ⟨#[c]⟩] w fun e w' => e = .returned (.string ⟨(Lib.trimLeftB s.data.toList c).toArray⟩) ∧ w' = w := Any.strings_TrimLeft_one Tryz.lays161 s c hc w
def Tryz.lays162_ren : Go.Shelf.Ren := ⟨fun | 162 => 197 | 232 => 220 | 227 => 221 | 234 => 222 | 236 => 223 | 228 => 244 | 271 => 245 | 151 => 246 | 120 => 257 | 197 => 239 | 152 => 258 | 260 => 255 | 137 => 198 | 119 => 263 | 224 => 242 | 225 => 241 | 217 => 224 | 266 => 247 | n => n, fun | 9 => 9 | 4 => 4 | 3 => 3 | 5 => 5 | 117 => 207 | 116 => 206 | 0 => 0 | 124 => 210 | 21 => 21 | 105 => 214 | 46 => 103 | 119 => 233 | 139 => 236 | 138 => 235 | n => n, fun | 3 => 3 | 4 => 4 | n => n⟩
theorem Tryz.lays162 : Go.Proofs.Lays.n162 Tryz.prog Tryz.lays162_ren := {
  mixed := by kernel_rfl
  f119 := Tryz.func263.trans (congrArg some (by kernel_rfl))
  f120 := Tryz.func257.trans (congrArg some (by kernel_rfl))
  f137 := Tryz.func198.trans (congrArg some (by kernel_rfl))
  f151 := Tryz.func246.trans (congrArg some (by kernel_rfl))
  f152 := Tryz.func258.trans (congrArg some (by kernel_rfl))
  f162 := Tryz.func197.trans (congrArg some (by kernel_rfl))
  f197 := Tryz.func239.trans (congrArg some (by kernel_rfl))
  f217 := Tryz.func224.trans (congrArg some (by kernel_rfl))
  f224 := Tryz.func242.trans (congrArg some (by kernel_rfl))
  f225 := Tryz.func241.trans (congrArg some (by kernel_rfl))
  f227 := Tryz.func221.trans (congrArg some (by kernel_rfl))
  f228 := Tryz.func244.trans (congrArg some (by kernel_rfl))
  f232 := Tryz.func220.trans (congrArg some (by kernel_rfl))
  f234 := Tryz.func222.trans (congrArg some (by kernel_rfl))
  f236 := Tryz.func223.trans (congrArg some (by kernel_rfl))
  f260 := Tryz.func255.trans (congrArg some (by kernel_rfl))
  f266 := Tryz.func247.trans (congrArg some (by kernel_rfl))
  f271 := Tryz.func245.trans (congrArg some (by kernel_rfl))
  t0 := Tryz.underlying0
  a0 := Tryz.isAgg0
  z0 := Tryz.sizeOf0
  v0 := Tryz.zeroValue0
  t3 := Tryz.underlying3
  a3 := Tryz.isAgg3
  z3 := Tryz.sizeOf3
  v3 := Tryz.zeroValue3
  t4 := Tryz.underlying4
  a4 := Tryz.isAgg4
  z4 := Tryz.sizeOf4
  v4 := Tryz.zeroValue4
  t5 := Tryz.underlying5
  a5 := Tryz.isAgg5
  z5 := Tryz.sizeOf5
  v5 := Tryz.zeroValue5
  t9 := Tryz.underlying9
  a9 := Tryz.isAgg9
  z9 := Tryz.sizeOf9
  v9 := Tryz.zeroValue9
  t21 := Tryz.underlying21
  a21 := Tryz.isAgg21
  z21 := Tryz.sizeOf21
  v21 := Tryz.zeroValue21
  t46 := Tryz.underlying103
  a46 := Tryz.isAgg103
  z46 := Tryz.sizeOf103
  v46 := Tryz.zeroValue103
  t105 := Tryz.underlying214
  a105 := Tryz.isAgg214
  z105 := Tryz.sizeOf214
  v105 := Tryz.zeroValue214
  t116 := Tryz.underlying206
  a116 := Tryz.isAgg206
  z116 := Tryz.sizeOf206
  t117 := Tryz.underlying207
  a117 := Tryz.isAgg207
  z117 := Tryz.sizeOf207
  v117 := Tryz.zeroValue207
  t119 := Tryz.underlying233
  a119 := Tryz.isAgg233
  z119 := Tryz.sizeOf233
  t124 := Tryz.underlying210
  a124 := Tryz.isAgg210
  z124 := Tryz.sizeOf210
  v124 := Tryz.zeroValue210
  t138 := Tryz.underlying235
  a138 := Tryz.isAgg235
  z138 := Tryz.sizeOf235
  v138 := Tryz.zeroValue235
  t139 := Tryz.underlying236
  a139 := Tryz.isAgg236
  z139 := Tryz.sizeOf236
  v139 := Tryz.zeroValue236
  g3 := by kernel_rfl
  g4 := by kernel_rfl }
open Go.RowKit in
theorem Tryz.strings_TrimRight_one (s : ByteArray) (c : UInt8) (hc : c.toNat < 128) (w : World) (hs : s.size ≤ 9223372036854775807) :
    Calls Tryz.prog 197 #[.string s, .string ⟨#[c]⟩] w fun e w' => e = .returned (.string ⟨(Lib.trimRightB s.data.toList c).toArray⟩) ∧ w' = w := Any.strings_TrimRight_one Tryz.lays162 s c hc w hs
def Tryz.lays106_ren : Go.Shelf.Ren := ⟨fun | 106 => 211 | 213 => 236 | 265 => 254 | n => n, fun | 9 => 9 | 3 => 3 | n => n, fun | n => n⟩
theorem Tryz.lays106 : Go.Proofs.Lays.n106 Tryz.prog Tryz.lays106_ren := {
  mixed := by kernel_rfl
  f106 := Tryz.func211.trans (congrArg some (by kernel_rfl))
  f213 := Tryz.func236.trans (congrArg some (by kernel_rfl))
  f265 := Tryz.func254.trans (congrArg some (by kernel_rfl))
  t3 := Tryz.underlying3
  a3 := Tryz.isAgg3
  z3 := Tryz.sizeOf3
  v3 := Tryz.zeroValue3
  t9 := Tryz.underlying9
  a9 := Tryz.isAgg9
  z9 := Tryz.sizeOf9
  v9 := Tryz.zeroValue9 }
open Go.RowKit in
theorem Tryz.strings_Compare (a b : ByteArray) (w : World) :
    Calls Tryz.prog 211 #[.string a, .string b] w fun e w' => e = .returned (.int .i64 (Lib.compareBytes a.data.toList b.data.toList)) ∧ w' = w := Any.strings_Compare Tryz.lays106 a b w
def Tryz.lays137_ren : Go.Shelf.Ren := ⟨fun | 137 => 198 | 217 => 224 | 266 => 247 | n => n, fun | 9 => 9 | 5 => 5 | 3 => 3 | n => n, fun | n => n⟩
theorem Tryz.lays137 : Go.Proofs.Lays.n137 Tryz.prog Tryz.lays137_ren := {
  mixed := by kernel_rfl
  f137 := Tryz.func198.trans (congrArg some (by kernel_rfl))
  f217 := Tryz.func224.trans (congrArg some (by kernel_rfl))
  f266 := Tryz.func247.trans (congrArg some (by kernel_rfl))
  t3 := Tryz.underlying3
  a3 := Tryz.isAgg3
  z3 := Tryz.sizeOf3
  v3 := Tryz.zeroValue3
  t5 := Tryz.underlying5
  a5 := Tryz.isAgg5
  z5 := Tryz.sizeOf5
  v5 := Tryz.zeroValue5
  t9 := Tryz.underlying9
  a9 := Tryz.isAgg9
  z9 := Tryz.sizeOf9
  v9 := Tryz.zeroValue9 }
open Go.RowKit in
theorem Tryz.strings_IndexByte (s : ByteArray) (c : Int) (w : World) :
    Calls Tryz.prog 198 #[.string s, .int .u8 c] w fun e w' => e = .returned (.int .i64 (Lib.indexByte s.data.toList c.toNat.toUInt8)) ∧ w' = w := Any.strings_IndexByte Tryz.lays137 s c w
def Tryz.lays103_ren : Go.Shelf.Ren := ⟨fun | 103 => 192 | 210 => 218 | 206 => 195 | n => n, fun | 9 => 9 | 4 => 4 | 24 => 160 | 3 => 3 | n => n, fun | n => n⟩
theorem Tryz.lays103 : Go.Proofs.Lays.n103 Tryz.prog Tryz.lays103_ren := {
  mixed := by kernel_rfl
  f103 := Tryz.func192.trans (congrArg some (by kernel_rfl))
  f206 := Tryz.func195.trans (congrArg some (by kernel_rfl))
  f210 := Tryz.func218.trans (congrArg some (by kernel_rfl))
  t3 := Tryz.underlying3
  a3 := Tryz.isAgg3
  z3 := Tryz.sizeOf3
  v3 := Tryz.zeroValue3
  t4 := Tryz.underlying4
  a4 := Tryz.isAgg4
  z4 := Tryz.sizeOf4
  v4 := Tryz.zeroValue4
  t9 := Tryz.underlying9
  a9 := Tryz.isAgg9
  z9 := Tryz.sizeOf9
  v9 := Tryz.zeroValue9
  t24 := Tryz.underlying160
  a24 := Tryz.isAgg160
  z24 := Tryz.sizeOf160
  v24 := Tryz.zeroValue160 }
open Go.RowKit in
theorem Tryz.strings_CutPrefix (s p : ByteArray) (w : World) :
    Calls Tryz.prog 192 #[.string s, .string p] w fun e w' => e = .returned (.tuple #[.string ⟨(Lib.trimPrefix s.data.toList p.data.toList).toArray⟩, .bool (Lib.hasPrefix s.data.toList p.data.toList)]) ∧ w' = w := Any.strings_CutPrefix Tryz.lays103 s p w
def Tryz.laysM171_ren : Go.Shelf.Ren := ⟨fun | 171 => 229 | 243 => 253 | 246 => 262 | 283 => 266 | 284 => 267 | 285 => 268 | 286 => 269 | 129 => 127 | 317 => 270 | 318 => 271 | 319 => 272 | 320 => 273 | 337 => 274 | 338 => 275 | n => n, fun | 3 => 3 | 9 => 9 | 2 => 2 | 4 => 4 | 171 => 242 | 0 => 0 | 53 => 150 | 37 => 95 | 5 => 5 | 173 => 244 | 212 => 247 | 51 => 148 | 20 => 20 | 213 => 248 | 46 => 103 | 232 => 250 | 233 => 251 | n => n, fun | 17 => 5 | 18 => 6 | 19 => 7 | n => n⟩
theorem Tryz.laysM171 : Go.Proofs.LaysM.n171 Tryz.prog Tryz.laysM171_ren := {
  mixed := by kernel_rfl
  f129 := Tryz.func127.trans (congrArg some (by kernel_rfl))
  f171 := Tryz.func229.trans (congrArg some (by kernel_rfl))
  f243 := Tryz.func253.trans (congrArg some (by kernel_rfl))
  f246 := Tryz.func262.trans (congrArg some (by kernel_rfl))
  f283 := Tryz.func266.trans (congrArg some (by kernel_rfl))
  f284 := Tryz.func267.trans (congrArg some (by kernel_rfl))
  f285 := Tryz.func268.trans (congrArg some (by kernel_rfl))
  f286 := Tryz.func269.trans (congrArg some (by kernel_rfl))
  f317 := Tryz.func270.trans (congrArg some (by kernel_rfl))
  f318 := Tryz.func271.trans (congrArg some (by kernel_rfl))
  f319 := Tryz.func272.trans (congrArg some (by kernel_rfl))
  f320 := Tryz.func273.trans (congrArg some (by kernel_rfl))
  f337 := Tryz.func274.trans (congrArg some (by kernel_rfl))
  f338 := Tryz.func275.trans (congrArg some (by kernel_rfl))
  t0 := Tryz.underlying0
  a0 := Tryz.isAgg0
  z0 := Tryz.sizeOf0
  v0 := Tryz.zeroValue0
  t2 := Tryz.underlying2
  a2 := Tryz.isAgg2
  z2 := Tryz.sizeOf2
  v2 := Tryz.zeroValue2
  t3 := Tryz.underlying3
  a3 := Tryz.isAgg3
  z3 := Tryz.sizeOf3
  v3 := Tryz.zeroValue3
  t4 := Tryz.underlying4
  a4 := Tryz.isAgg4
  z4 := Tryz.sizeOf4
  v4 := Tryz.zeroValue4
  t5 := Tryz.underlying5
  a5 := Tryz.isAgg5
  z5 := Tryz.sizeOf5
  v5 := Tryz.zeroValue5
  t9 := Tryz.underlying9
  a9 := Tryz.isAgg9
  z9 := Tryz.sizeOf9
  v9 := Tryz.zeroValue9
  t20 := Tryz.underlying20
  a20 := Tryz.isAgg20
  z20 := Tryz.sizeOf20
  v20 := Tryz.zeroValue20
  t37 := Tryz.underlying95
  a37 := Tryz.isAgg95
  z37 := Tryz.sizeOf95
  v37 := Tryz.zeroValue95
  t46 := Tryz.underlying103
  a46 := Tryz.isAgg103
  z46 := Tryz.sizeOf103
  v46 := Tryz.zeroValue103
  t51 := Tryz.underlying148
  a51 := Tryz.isAgg148
  z51 := Tryz.sizeOf148
  v51 := Tryz.zeroValue148
  t53 := Tryz.underlying150
  a53 := Tryz.isAgg150
  z53 := Tryz.sizeOf150
  v53 := Tryz.zeroValue150
  t171 := Tryz.underlying242
  a171 := Tryz.isAgg242
  z171 := Tryz.sizeOf242
  v171 := Tryz.zeroValue242
  t173 := Tryz.underlying244
  a173 := Tryz.isAgg244
  z173 := Tryz.sizeOf244
  v173 := Tryz.zeroValue244
  t212 := Tryz.underlying247
  a212 := Tryz.isAgg247
  z212 := Tryz.sizeOf247
  v212 := Tryz.zeroValue247
  t213 := Tryz.underlying248
  a213 := Tryz.isAgg248
  z213 := Tryz.sizeOf248
  t232 := Tryz.underlying250
  a232 := Tryz.isAgg250
  z232 := Tryz.sizeOf250
  v232 := Tryz.zeroValue250
  t233 := Tryz.underlying251
  a233 := Tryz.isAgg251
  z233 := Tryz.sizeOf251
  v233 := Tryz.zeroValue251
  g17 := by kernel_rfl
  g18 := by kernel_rfl
  g19 := by kernel_rfl
  i0 := by kernel_rfl
  i2 := by kernel_rfl
  i3 := by kernel_rfl
  i4 := by kernel_rfl
  i5 := by kernel_rfl
  i9 := by kernel_rfl
  i20 := by kernel_rfl
  i37 := by kernel_rfl
  i46 := by kernel_rfl
  i51 := by kernel_rfl
  i53 := by kernel_rfl
  i171 := by kernel_rfl
  i173 := by kernel_rfl
  i212 := by kernel_rfl
  i232 := by kernel_rfl
  i233 := by kernel_rfl
  m17 := by kernel_rfl
  m18 := by kernel_rfl
  m19 := by kernel_rfl }
open Go.RowKit Go.Sort Go.Lib in
theorem Tryz.strconv_Itoa (n : Int) (h0 : -9223372036854775808 ≤ n) (h1 : n ≤ 9223372036854775807) (w : World) (htab : Lib.TabIs Tryz.prog w "internal/strconv.uint64pow10" .u64 Lib.pow10Tab) :
    Calls Tryz.prog 229 #[.int .i64 n] w fun e w' => e = .returned (.string ⟨(Lib.itoa n).toArray⟩) ∧ ∃ k os, w' = grow (w.drewN k) os := Any.strconv_Itoa Tryz.laysM171 n h0 h1 w htab
def Tryz.laysC172_ren : Go.Shelf.Ren := ⟨fun | 172 => 203 | 244 => 227 | 245 => 228 | 247 => 248 | 279 => 249 | 280 => 250 | 281 => 251 | 282 => 252 | 287 => 259 | 316 => 260 | 171 => 229 | 205 => 261 | 321 => 264 | 322 => 265 | 243 => 253 | 246 => 262 | 283 => 266 | 284 => 267 | 285 => 268 | 286 => 269 | 129 => 127 | 317 => 270 | 318 => 271 | 319 => 272 | 320 => 273 | 337 => 274 | 338 => 275 | n => n, fun | 9 => 9 | 3 => 3 | 75 => 121 | 76 => 122 | 4 => 4 | 5 => 5 | 167 => 218 | 37 => 95 | 0 => 0 | 85 => 219 | 2 => 2 | 168 => 221 | 53 => 150 | 175 => 227 | 46 => 103 | 210 => 230 | 127 => 170 | 145 => 241 | 143 => 239 | 21 => 21 | 171 => 242 | 173 => 244 | 212 => 247 | 51 => 148 | 20 => 20 | 213 => 248 | 232 => 250 | 233 => 251 | 80 => 74 | n => n, fun | 15 => 1 | 16 => 2 | 17 => 5 | 18 => 6 | 19 => 7 | n => n⟩
theorem Tryz.laysC172 : Go.Proofs.LaysC.n172 Tryz.prog Tryz.laysC172_ren := {
  mixed := by kernel_rfl
  f129 := Tryz.func127.trans (congrArg some (by kernel_rfl))
  f171 := Tryz.func229.trans (congrArg some (by kernel_rfl))
  f172 := Tryz.func203.trans (congrArg some (by kernel_rfl))
  f205 := Tryz.func261.trans (congrArg some (by kernel_rfl))
  f243 := Tryz.func253.trans (congrArg some (by kernel_rfl))
  f244 := Tryz.func227.trans (congrArg some (by kernel_rfl))
  f245 := Tryz.func228.trans (congrArg some (by kernel_rfl))
  f246 := Tryz.func262.trans (congrArg some (by kernel_rfl))
  f247 := Tryz.func248.trans (congrArg some (by kernel_rfl))
  f279 := Tryz.func249.trans (congrArg some (by kernel_rfl))
  f280 := Tryz.func250.trans (congrArg some (by kernel_rfl))
  f281 := Tryz.func251.trans (congrArg some (by kernel_rfl))
  f282 := Tryz.func252.trans (congrArg some (by kernel_rfl))
  f283 := Tryz.func266.trans (congrArg some (by kernel_rfl))
  f284 := Tryz.func267.trans (congrArg some (by kernel_rfl))
  f285 := Tryz.func268.trans (congrArg some (by kernel_rfl))
  f286 := Tryz.func269.trans (congrArg some (by kernel_rfl))
  f287 := Tryz.func259.trans (congrArg some (by kernel_rfl))
  f316 := Tryz.func260.trans (congrArg some (by kernel_rfl))
  f317 := Tryz.func270.trans (congrArg some (by kernel_rfl))
  f318 := Tryz.func271.trans (congrArg some (by kernel_rfl))
  f319 := Tryz.func272.trans (congrArg some (by kernel_rfl))
  f320 := Tryz.func273.trans (congrArg some (by kernel_rfl))
  f321 := Tryz.func264.trans (congrArg some (by kernel_rfl))
  f322 := Tryz.func265.trans (congrArg some (by kernel_rfl))
  f337 := Tryz.func274.trans (congrArg some (by kernel_rfl))
  f338 := Tryz.func275.trans (congrArg some (by kernel_rfl))
  t0 := Tryz.underlying0
  a0 := Tryz.isAgg0
  z0 := Tryz.sizeOf0
  v0 := Tryz.zeroValue0
  t2 := Tryz.underlying2
  a2 := Tryz.isAgg2
  z2 := Tryz.sizeOf2
  v2 := Tryz.zeroValue2
  t3 := Tryz.underlying3
  a3 := Tryz.isAgg3
  z3 := Tryz.sizeOf3
  v3 := Tryz.zeroValue3
  t4 := Tryz.underlying4
  a4 := Tryz.isAgg4
  z4 := Tryz.sizeOf4
  v4 := Tryz.zeroValue4
  t5 := Tryz.underlying5
  a5 := Tryz.isAgg5
  z5 := Tryz.sizeOf5
  v5 := Tryz.zeroValue5
  t9 := Tryz.underlying9
  a9 := Tryz.isAgg9
  z9 := Tryz.sizeOf9
  v9 := Tryz.zeroValue9
  t20 := Tryz.underlying20
  a20 := Tryz.isAgg20
  z20 := Tryz.sizeOf20
  v20 := Tryz.zeroValue20
  t21 := Tryz.underlying21
  a21 := Tryz.isAgg21
  z21 := Tryz.sizeOf21
  v21 := Tryz.zeroValue21
  t37 := Tryz.underlying95
  a37 := Tryz.isAgg95
  z37 := Tryz.sizeOf95
  v37 := Tryz.zeroValue95
  t46 := Tryz.underlying103
  a46 := Tryz.isAgg103
  z46 := Tryz.sizeOf103
  v46 := Tryz.zeroValue103
  t51 := Tryz.underlying148
  a51 := Tryz.isAgg148
  z51 := Tryz.sizeOf148
  v51 := Tryz.zeroValue148
  t53 := Tryz.underlying150
  a53 := Tryz.isAgg150
  z53 := Tryz.sizeOf150
  v53 := Tryz.zeroValue150
  t75 := Tryz.underlying121
  a75 := Tryz.isAgg121
  z75 := Tryz.sizeOf121
  v75 := Tryz.zeroValue121
  t76 := Tryz.underlying122
  a76 := Tryz.isAgg122
  z76 := Tryz.sizeOf122
  v76 := Tryz.zeroValue122
  t85 := Tryz.underlying219
  a85 := Tryz.isAgg219
  z85 := Tryz.sizeOf219
  v85 := Tryz.zeroValue219
  t127 := Tryz.underlying170
  a127 := Tryz.isAgg170
  z127 := Tryz.sizeOf170
  v127 := Tryz.zeroValue170
  t143 := Tryz.underlying239
  a143 := Tryz.isAgg239
  z143 := Tryz.sizeOf239
  v143 := Tryz.zeroValue239
  t145 := Tryz.underlying241
  a145 := Tryz.isAgg241
  z145 := Tryz.sizeOf241
  v145 := Tryz.zeroValue241
  t167 := Tryz.underlying218
  a167 := Tryz.isAgg218
  z167 := Tryz.sizeOf218
  v167 := Tryz.zeroValue218
  t168 := Tryz.underlying221
  a168 := Tryz.isAgg221
  z168 := Tryz.sizeOf221
  v168 := Tryz.zeroValue221
  t171 := Tryz.underlying242
  a171 := Tryz.isAgg242
  z171 := Tryz.sizeOf242
  v171 := Tryz.zeroValue242
  t173 := Tryz.underlying244
  a173 := Tryz.isAgg244
  z173 := Tryz.sizeOf244
  v173 := Tryz.zeroValue244
  t175 := Tryz.underlying227
  a175 := Tryz.isAgg227
  z175 := Tryz.sizeOf227
  v175 := Tryz.zeroValue227
  t210 := Tryz.underlying230
  a210 := Tryz.isAgg230
  z210 := Tryz.sizeOf230
  v210 := Tryz.zeroValue230
  t212 := Tryz.underlying247
  a212 := Tryz.isAgg247
  z212 := Tryz.sizeOf247
  v212 := Tryz.zeroValue247
  t213 := Tryz.underlying248
  a213 := Tryz.isAgg248
  z213 := Tryz.sizeOf248
  t232 := Tryz.underlying250
  a232 := Tryz.isAgg250
  z232 := Tryz.sizeOf250
  v232 := Tryz.zeroValue250
  t233 := Tryz.underlying251
  a233 := Tryz.isAgg251
  z233 := Tryz.sizeOf251
  v233 := Tryz.zeroValue251
  g15 := by kernel_rfl
  g16 := by kernel_rfl
  g17 := by kernel_rfl
  g18 := by kernel_rfl
  g19 := by kernel_rfl
  t80 := Tryz.underlying74
  a80 := Tryz.isAgg74
  z80 := Tryz.sizeOf74
  v80 := Tryz.zeroValue74
  i0 := by kernel_rfl
  i2 := by kernel_rfl
  i3 := by kernel_rfl
  i4 := by kernel_rfl
  i5 := by kernel_rfl
  i9 := by kernel_rfl
  i20 := by kernel_rfl
  i21 := by kernel_rfl
  i37 := by kernel_rfl
  i46 := by kernel_rfl
  i51 := by kernel_rfl
  i53 := by kernel_rfl
  i75 := by kernel_rfl
  i76 := by kernel_rfl
  i80 := by kernel_rfl
  i85 := by kernel_rfl
  i127 := by kernel_rfl
  i143 := by kernel_rfl
  i145 := by kernel_rfl
  i167 := by kernel_rfl
  i168 := by kernel_rfl
  i171 := by kernel_rfl
  i173 := by kernel_rfl
  i175 := by kernel_rfl
  i210 := by kernel_rfl
  i212 := by kernel_rfl
  i232 := by kernel_rfl
  i233 := by kernel_rfl
  m15 := by kernel_rfl
  m16 := by kernel_rfl
  m17 := by kernel_rfl
  m18 := by kernel_rfl
  m19 := by kernel_rfl
  c0 := by kernel_rfl
  c2 := by kernel_rfl
  c3 := by kernel_rfl
  c4 := by kernel_rfl
  c5 := by kernel_rfl
  c9 := by kernel_rfl
  c20 := by kernel_rfl
  c21 := by kernel_rfl
  c37 := by kernel_rfl
  c46 := by kernel_rfl
  c51 := by kernel_rfl
  c53 := by kernel_rfl
  c75 := by kernel_rfl
  c76 := by kernel_rfl
  c80 := by kernel_rfl
  c85 := by kernel_rfl
  c127 := by kernel_rfl
  c143 := by kernel_rfl
  c145 := by kernel_rfl
  c167 := by kernel_rfl
  c168 := by kernel_rfl
  c171 := by kernel_rfl
  c173 := by kernel_rfl
  c175 := by kernel_rfl
  c210 := by kernel_rfl
  c212 := by kernel_rfl
  c213 := by kernel_rfl
  c232 := by kernel_rfl
  c233 := by kernel_rfl }
open Go.RowKit in
theorem Tryz.strconv_Atoi_ok (s : ByteArray) (hmax : s.size ≤ 9223372036854775806) (v : Int) (h : Lib.atoiAll s.data.toList = .ok v) (w : World) :
    Calls Tryz.prog 203 #[.string s] w fun e w' => e = .returned (.tuple #[.int .i64 v, .nilIface]) ∧ (w' = w ∨ ∃ t, w' = Lib.bytesWorld w 5 t) := Any.strconv_Atoi_ok Tryz.laysC172 s hmax v h w
open Go.RowKit in
theorem Tryz.strconv_Atoi_range (s : ByteArray) (hlim : s.size ≤ 281474976710656) (h : Lib.atoiAll s.data.toList = .range) (ev : Value) (w : World) (hv : w.cell? ⟨2, 0, none⟩ = some ev) (hev : ev = .nilIface ∨ ∃ te pe, ev = .iface te pe) :
    Calls Tryz.prog 203 #[.string s] w fun e w' => ∃ N, e = .returned (.tuple #[.int .i64 (Lib.atoiSat s.data.toList), .iface 221 (.pointer (some ⟨N, 0, none⟩))]) ∧ w.heap.size ≤ N ∧ w'.heap[N]? = some (.cells #[.string ⟨#[65, 116, 111, 105]⟩, .string s, ev] 230 (0, 0)) ∧ Below w.heap.size w w' := Any.strconv_Atoi_range Tryz.laysC172 s hlim h ev w hv hev
open Go.RowKit Go.Lib in
open Go.RowKit Go.Lib in
def Tryz.lays145_ren : Go.Shelf.Ren := ⟨fun | 145 => 143 | 220 => 196 | 219 => 219 | 217 => 224 | 225 => 241 | 224 => 242 | 267 => 243 | 266 => 247 | 314 => 256 | n => n, fun | 9 => 9 | 4 => 4 | 59 => 165 | 3 => 3 | 5 => 5 | 46 => 103 | 146 => 224 | 51 => 148 | n => n, fun | 1 => 0 | n => n⟩
theorem Tryz.lays145 : Go.Proofs.Lays.n145 Tryz.prog Tryz.lays145_ren := {
  mixed := by kernel_rfl
  f145 := Tryz.func143.trans (congrArg some (by kernel_rfl))
  f217 := Tryz.func224.trans (congrArg some (by kernel_rfl))
  f219 := Tryz.func219.trans (congrArg some (by kernel_rfl))
  f220 := Tryz.func196.trans (congrArg some (by kernel_rfl))
  f224 := Tryz.func242.trans (congrArg some (by kernel_rfl))
  f225 := Tryz.func241.trans (congrArg some (by kernel_rfl))
  f266 := Tryz.func247.trans (congrArg some (by kernel_rfl))
  f267 := Tryz.func243.trans (congrArg some (by kernel_rfl))
  f314 := Tryz.func256.trans (congrArg some (by kernel_rfl))
  t3 := Tryz.underlying3
  a3 := Tryz.isAgg3
  z3 := Tryz.sizeOf3
  v3 := Tryz.zeroValue3
  t4 := Tryz.underlying4
  a4 := Tryz.isAgg4
  z4 := Tryz.sizeOf4
  v4 := Tryz.zeroValue4
  t5 := Tryz.underlying5
  a5 := Tryz.isAgg5
  z5 := Tryz.sizeOf5
  v5 := Tryz.zeroValue5
  t9 := Tryz.underlying9
  a9 := Tryz.isAgg9
  z9 := Tryz.sizeOf9
  v9 := Tryz.zeroValue9
  t46 := Tryz.underlying103
  a46 := Tryz.isAgg103
  z46 := Tryz.sizeOf103
  v46 := Tryz.zeroValue103
  t51 := Tryz.underlying148
  a51 := Tryz.isAgg148
  z51 := Tryz.sizeOf148
  v51 := Tryz.zeroValue148
  t59 := Tryz.underlying165
  a59 := Tryz.isAgg165
  z59 := Tryz.sizeOf165
  v59 := Tryz.zeroValue165
  t146 := Tryz.underlying224
  a146 := Tryz.isAgg224
  z146 := Tryz.sizeOf224
  v146 := Tryz.zeroValue224
  g1 := by kernel_rfl }
open Go.RowKit Go.Lib in
theorem Tryz.strings_Cut (s sep : ByteArray) (m : Int) (w : World) (hs : s.size < 4294967281) (hm : w.cell? ⟨0, 0, none⟩ = some (.int .i64 m)) :
    Calls Tryz.prog 143 #[.string s, .string sep] w fun e w' => e = .returned (.tuple #[.string ⟨(Lib.cut s.data.toList sep.data.toList).1.toArray⟩, .string ⟨(Lib.cut s.data.toList sep.data.toList).2.1.toArray⟩, .bool (Lib.cut s.data.toList sep.data.toList).2.2]) ∧ ∃ n, w' = w.drewN n := Any.strings_Cut Tryz.lays145 s sep m w hs hm
open Go.RowKit Go.Lib in
def Tryz.lays99_ren : Go.Shelf.Ren := ⟨fun | 99 => 140 | 206 => 195 | n => n, fun | 9 => 9 | 4 => 4 | 3 => 3 | n => n, fun | n => n⟩
theorem Tryz.lays99 : Go.Proofs.Lays.n99 Tryz.prog Tryz.lays99_ren := {
  mixed := by kernel_rfl
  f99 := Tryz.func140.trans (congrArg some (by kernel_rfl))
  f206 := Tryz.func195.trans (congrArg some (by kernel_rfl))
  t3 := Tryz.underlying3
  a3 := Tryz.isAgg3
  z3 := Tryz.sizeOf3
  v3 := Tryz.zeroValue3
  t4 := Tryz.underlying4
  a4 := Tryz.isAgg4
  z4 := Tryz.sizeOf4
  v4 := Tryz.zeroValue4
  t9 := Tryz.underlying9
  a9 := Tryz.isAgg9
  z9 := Tryz.sizeOf9
  v9 := Tryz.zeroValue9 }
open Go.RowKit Go.Lib in
theorem Tryz.strings_HasPrefix (s p : ByteArray) (w : World) :
    Calls Tryz.prog 140 #[.string s, .string p] w fun e w' => e = .returned (.bool (Lib.hasPrefix s.data.toList p.data.toList)) ∧ w' = w := Any.strings_HasPrefix Tryz.lays99 s p w
def Tryz.lays101_ren : Go.Shelf.Ren := ⟨fun | 101 => 172 | 208 => 213 | 206 => 195 | n => n, fun | 9 => 9 | 4 => 4 | 3 => 3 | n => n, fun | n => n⟩
theorem Tryz.lays101 : Go.Proofs.Lays.n101 Tryz.prog Tryz.lays101_ren := {
  mixed := by kernel_rfl
  f101 := Tryz.func172.trans (congrArg some (by kernel_rfl))
  f206 := Tryz.func195.trans (congrArg some (by kernel_rfl))
  f208 := Tryz.func213.trans (congrArg some (by kernel_rfl))
  t3 := Tryz.underlying3
  a3 := Tryz.isAgg3
  z3 := Tryz.sizeOf3
  v3 := Tryz.zeroValue3
  t4 := Tryz.underlying4
  a4 := Tryz.isAgg4
  z4 := Tryz.sizeOf4
  v4 := Tryz.zeroValue4
  t9 := Tryz.underlying9
  a9 := Tryz.isAgg9
  z9 := Tryz.sizeOf9
  v9 := Tryz.zeroValue9 }
open Go.RowKit Go.Lib in
theorem Tryz.strings_TrimPrefix (s p : ByteArray) (w : World) :
    Calls Tryz.prog 172 #[.string s, .string p] w fun e w' => e = .returned (.string ⟨(Lib.trimPrefix s.data.toList p.data.toList).toArray⟩) ∧ w' = w := Any.strings_TrimPrefix Tryz.lays101 s p w
def Tryz.lays146_ren : Go.Shelf.Ren := ⟨fun | 146 => 138 | 221 => 191 | 268 => 215 | 138 => 216 | 143 => 217 | 195 => 238 | 197 => 239 | 218 => 240 | 219 => 219 | 260 => 255 | 217 => 224 | 225 => 241 | 224 => 242 | 267 => 243 | 266 => 247 | 314 => 256 | n => n, fun | 9 => 9 | 31 => 22 | 3 => 3 | 4 => 4 | 0 => 0 | 105 => 214 | 21 => 21 | 5 => 5 | 46 => 103 | 119 => 233 | 139 => 236 | 138 => 235 | 146 => 224 | 51 => 148 | n => n, fun | 1 => 0 | 3 => 3 | 4 => 4 | n => n⟩
theorem Tryz.lays146 : Go.Proofs.Lays.n146 Tryz.prog Tryz.lays146_ren := {
  mixed := by kernel_rfl
  f138 := Tryz.func216.trans (congrArg some (by kernel_rfl))
  f143 := Tryz.func217.trans (congrArg some (by kernel_rfl))
  f146 := Tryz.func138.trans (congrArg some (by kernel_rfl))
  f195 := Tryz.func238.trans (congrArg some (by kernel_rfl))
  f197 := Tryz.func239.trans (congrArg some (by kernel_rfl))
  f217 := Tryz.func224.trans (congrArg some (by kernel_rfl))
  f218 := Tryz.func240.trans (congrArg some (by kernel_rfl))
  f219 := Tryz.func219.trans (congrArg some (by kernel_rfl))
  f221 := Tryz.func191.trans (congrArg some (by kernel_rfl))
  f224 := Tryz.func242.trans (congrArg some (by kernel_rfl))
  f225 := Tryz.func241.trans (congrArg some (by kernel_rfl))
  f260 := Tryz.func255.trans (congrArg some (by kernel_rfl))
  f266 := Tryz.func247.trans (congrArg some (by kernel_rfl))
  f267 := Tryz.func243.trans (congrArg some (by kernel_rfl))
  f268 := Tryz.func215.trans (congrArg some (by kernel_rfl))
  f314 := Tryz.func256.trans (congrArg some (by kernel_rfl))
  t0 := Tryz.underlying0
  a0 := Tryz.isAgg0
  z0 := Tryz.sizeOf0
  v0 := Tryz.zeroValue0
  t3 := Tryz.underlying3
  a3 := Tryz.isAgg3
  z3 := Tryz.sizeOf3
  v3 := Tryz.zeroValue3
  t4 := Tryz.underlying4
  a4 := Tryz.isAgg4
  z4 := Tryz.sizeOf4
  v4 := Tryz.zeroValue4
  t5 := Tryz.underlying5
  a5 := Tryz.isAgg5
  z5 := Tryz.sizeOf5
  v5 := Tryz.zeroValue5
  t9 := Tryz.underlying9
  a9 := Tryz.isAgg9
  z9 := Tryz.sizeOf9
  v9 := Tryz.zeroValue9
  t21 := Tryz.underlying21
  a21 := Tryz.isAgg21
  z21 := Tryz.sizeOf21
  v21 := Tryz.zeroValue21
  t31 := Tryz.underlying22
  a31 := Tryz.isAgg22
  z31 := Tryz.sizeOf22
  v31 := Tryz.zeroValue22
  t46 := Tryz.underlying103
  a46 := Tryz.isAgg103
  z46 := Tryz.sizeOf103
  v46 := Tryz.zeroValue103
  t51 := Tryz.underlying148
  a51 := Tryz.isAgg148
  z51 := Tryz.sizeOf148
  v51 := Tryz.zeroValue148
  t105 := Tryz.underlying214
  a105 := Tryz.isAgg214
  z105 := Tryz.sizeOf214
  v105 := Tryz.zeroValue214
  t119 := Tryz.underlying233
  a119 := Tryz.isAgg233
  z119 := Tryz.sizeOf233
  t138 := Tryz.underlying235
  a138 := Tryz.isAgg235
  z138 := Tryz.sizeOf235
  v138 := Tryz.zeroValue235
  t139 := Tryz.underlying236
  a139 := Tryz.isAgg236
  z139 := Tryz.sizeOf236
  v139 := Tryz.zeroValue236
  t146 := Tryz.underlying224
  a146 := Tryz.isAgg224
  z146 := Tryz.sizeOf224
  v146 := Tryz.zeroValue224
  g1 := by kernel_rfl
  g3 := by kernel_rfl
  g4 := by kernel_rfl }
open Go.RowKit Go.Lib in
theorem Tryz.strings_Split (s sep : ByteArray) (m : Int) (w : World) (hs : s.size < 4294967281) (hm : w.cell? ⟨0, 0, none⟩ = some (.int .i64 m)) (h1 : 1 ≤ sep.size) :
    Calls Tryz.prog 138 #[.string s, .string sep] w fun e w' =>
      e = .returned (.slice (some ⟨w.heap.size, 0, none⟩) (Lib.countB s sep + 1) (Lib.countB s sep + 1)) ∧ w' = w.alloc (.cells ((Lib.splitB sep 0 (Lib.countB s sep) s).map Value.string).toArray 9) := Any.strings_Split Tryz.lays146 (by kernel_rfl) s sep m w hs hm h1
end Go.Proofs
namespace Go.Proofs.YticockdhfglolaaGreatDoor.Vm
open Go Go.RowKit
set_option linter.unusedVariables false
set_option linter.unusedSimpArgs false
/-- what the library's functions ask of the memory: tables and errors that stand as they were laid -/
structure KZ (w : World) : Prop where
  pow : Lib.TabIs Go.Proofs.Tryz.prog w "internal/strconv.uint64pow10" .u64 Lib.pow10Tab
  maxl : ∃ m, w.cell? ⟨0, 0, none⟩ = some (.int .i64 m)
  esyn : ∃ t p, w.cell? ⟨1, 0, none⟩ = some (.iface t p)
  erng : ∃ t p, w.cell? ⟨2, 0, none⟩ = some (.iface t p)
/-- the library's one setting, wherever it stands -/
def KM (w : World) : Prop := ∃ m, w.cell? ⟨0, 0, none⟩ = some (.int .i64 m)
theorem KZ.km {w : World} (h : KZ w) : KM w := h.maxl
theorem gPow : Go.Proofs.Tryz.prog.globalNamed "internal/strconv.uint64pow10" = some 5 := by kernel_rfl
theorem KZ.size {w : World} (h : KZ w) : 5 + 1 ≤ w.heap.size := by
  have h1 := h.pow
  unfold Lib.TabIs World.var? at h1
  rw [gPow] at h1
  simp only [Option.bind_some] at h1
  rcases Nat.lt_or_ge 5 w.heap.size with h2 | h2
  · exact h2
  · rw [Array.getElem?_eq_none h2] at h1
    cases h1
theorem KZ.keep {w w' : World} (hk : ∀ k, k < 5 + 1 → w'.heap[k]? = w.heap[k]?) (h : KZ w) : KZ w' := by
  refine ⟨?_, ?_, ?_, ?_⟩
  · have h1 := h.pow
    unfold Lib.TabIs World.var? at h1 ⊢
    rw [gPow] at h1 ⊢
    simp only [Option.bind_some] at h1 ⊢
    rw [hk _ (by decide)]
    exact h1
  · obtain ⟨m, hm⟩ := h.maxl
    exact ⟨m, (World.cell?_of_block (w := w) (hk _ (by decide))).trans hm⟩
  · obtain ⟨t, p, hm⟩ := h.esyn
    exact ⟨t, p, (World.cell?_of_block (w := w) (hk _ (by decide))).trans hm⟩
  · obtain ⟨t, p, hm⟩ := h.erng
    exact ⟨t, p, (World.cell?_of_block (w := w) (hk _ (by decide))).trans hm⟩
theorem KZ.below {w w' : World} (hb : Below w.heap.size w w') (h : KZ w) : KZ w' := h.keep fun k hk => hb.block k (by have := h.size; omega)
theorem args_lit {x : X} {base : Nat} {args : List Value} {vs : Array Value} (hl : vs.size = args.length) (hr : ∀ (i : Nat) (v : Value) (c : AV), vs[i]? = some v → (args.map AV.lit)[i]? = some c → Rel x base v c) : vs = args.toArray := by
  apply Array.ext
  · simpa using hl
  · intro i h1 h2
    have h3 : i < args.length := by simpa using h2
    have := hr i vs[i] (.lit args[i]) (Array.getElem?_eq_getElem h1) (by rw [List.getElem?_map, List.getElem?_eq_getElem h3]; rfl)
    simpa using this.lit_inv
/-- A contract of values alone. -/
theorem Fx_res {E : Env} {f : Nat} {args : List Value} {r : Value} {a : AV} (hok : resOk a = true) (hr : ∀ x base, Rel x base r a) (h : ∀ w, E.K w → Calls E.P f args.toArray w fun e w' => e = .returned r ∧ Below w.heap.size w w') : Fx E f [] (args.map .lit) [] a := by
  refine ⟨rfl, hok, fun x w vs hK htl hng hj hvs hargs hag hbx hinj hnm => ?_⟩
  obtain rfl := args_lit (by simpa using hvs) hargs
  refine (h w hK).mono ?_
  rintro e w' ⟨rfl, hb⟩
  refine ⟨r, x, rfl, hr _ _, fun _ _ _ h => h, fun _ _ _ h _ => h, fun b o v hv => ?_, ⟨hb.os, hb.tape, hb.output, hb.size, fun k hk _ => hb.block k hk⟩, fun n hn => ⟨rfl, rfl⟩, fun n l hl => (by simp at hl), ⟨fun c b e t ht => (by rw [htl] at ht; cases ht), fun c c' b e t e' t' ht => (by rw [htl] at ht; cases ht)⟩, fun b o ho => ?_, fun b o v c ty fz hb' hv hh => ?_, fun _ _ => rfl, fun k b hk => hk.elim, fun k k' b h1 h2 => hnm.2.1 k k' b h1 h2, fun k c b e t ht => (by rw [htl] at ht; cases ht)⟩
  · obtain ⟨c, ty, fz, e1, e2⟩ := hag b o v hv
    exact ⟨c, ty, fz, (hb.block b (agree_lt hag hv)).trans e1, e2⟩
  · obtain ⟨vs', ty, q1, q2⟩ := hj.1 b o ho
    exact ⟨vs', ty, (hb.block b (Array.getElem?_eq_some_iff.1 q1).1).trans q1, q2⟩
  · have := agree_lt hag hv; omega
theorem Fx_lit {E : Env} {f : Nat} {args : List Value} {r : Value} (hr : r.oneCell' = true) (h : ∀ w, E.K w → Calls E.P f args.toArray w fun e w' => e = .returned r ∧ Below w.heap.size w w') : Fx E f [] (args.map .lit) [] (.lit r) := Fx_res rfl (fun _ _ => .lit _ hr) h
/-- A contract that takes a row of texts. -/
theorem Fx_row {E : Env} {f : Nat} {xs : List ByteArray} {args : List Value} {r : Value} (hr : r.oneCell' = true) (h0 : ∀ (A : Option Addr) (cap : Nat) (w : World), E.K w → xs = [] → Calls E.P f (.slice A 0 cap :: args).toArray w fun e w' => e = .returned r ∧ Below w.heap.size w w')
    (h : ∀ (b o cap : Nat) (w : World), E.K w → b < w.heap.size → xs.length ≤ cap → (∀ (j : Nat) y, xs[j]? = some y → w.cell? ⟨b, o + j, none⟩ = some (.string y)) → Calls E.P f (.slice (some ⟨b, o, none⟩) xs.length cap :: args).toArray w fun e w' => e = .returned r ∧ Below w.heap.size w w') : Fx E f [] (.sl ro 1 (xs.map fun x => .lit (.string x)) :: args.map .lit) [] (.lit r) := by
  refine ⟨rfl, rfl, fun x w vs hK htl hng hj hvs hargs hag hbx hinj hnm => ?_⟩
  have hlt : 0 < vs.size := by rw [hvs]; simp
  have h1 := hargs 0 vs[0] _ (Array.getElem?_eq_getElem hlt) rfl
  have hvs' : vs.toList.drop 1 = args := by
    apply List.ext_getElem?
    intro i
    rw [List.getElem?_drop, Array.getElem?_toList]
    cases ha : args[i]? with
    | none =>
      have := List.getElem?_eq_none_iff.1 ha
      exact Array.getElem?_eq_none (by rw [hvs]; simp; omega)
    | some a =>
      have hi := (List.getElem?_eq_some_iff.1 ha).1
      have hlt' : 1 + i < vs.size := by rw [hvs]; simp; omega
      have := hargs (1 + i) vs[1 + i] (.lit a) (Array.getElem?_eq_getElem hlt') (by rw [show 1 + i = i + 1 by omega]; simp [ha])
      rw [Array.getElem?_eq_getElem hlt', this.lit_inv]
  have hvs2 : vs = (vs[0] :: args).toArray := by
    apply Array.toList_inj.1
    rw [← hvs']
    apply List.ext_getElem?
    intro i
    cases i with
    | zero => simp [Array.getElem?_toList, Array.getElem?_eq_getElem hlt]
    | succ i => simp [Nat.add_comm]
  have post : ∀ (e : Ending) (w' : World), (e = Ending.returned r ∧ Below w.heap.size w w') → ∃ v x', e = .returned v ∧ Rel x' w.heap.size v (.lit r) ∧ x.G.le x'.G ∧ (∀ b o v, x'.G b o = some v → b < w.heap.size → x.G b o = some v) ∧ Agree x'.G w' ∧
      Fr w.heap.size (SBx ([] : List (List AV)).length x) w w' ∧ (∀ n, n < ([] : List (List AV)).length → x'.bx n = x.bx n ∧ x'.bz n = x.bz n) ∧
      (∀ (n : Nat) (l : List AV), ([] : List (List AV))[n]? = some l → BoxAt x' w.heap.size w' n l ∧ ∀ o, x'.G (x.bx n) o = none) ∧ Tails x' w.heap.size w' ∧ JOk x.J w' ∧ New00 x'.G w.heap.size w' ∧ NmPost (fun _ => False) x x' w w' := by
    rintro e w' ⟨rfl, hb⟩
    refine ⟨r, x, rfl, .lit _ hr, fun _ _ _ h => h, fun _ _ _ h _ => h, fun b o v hv => ?_, ⟨hb.os, hb.tape, hb.output, hb.size, fun k hk _ => hb.block k hk⟩, fun n hn => ⟨rfl, rfl⟩, fun n l hl => (by simp at hl), ⟨fun c b e t ht => (by rw [htl] at ht; cases ht), fun c c' b e t e' t' ht => (by rw [htl] at ht; cases ht)⟩, fun b o ho => ?_, fun b o v c ty fz hb' hv hh => ?_, fun _ _ => rfl, fun k b hk => hk.elim, fun k k' b h1 h2 => hnm.2.1 k k' b h1 h2, fun k c b e t ht => (by rw [htl] at ht; cases ht)⟩
    · obtain ⟨c, ty, fz, e1, e2⟩ := hag b o v hv
      exact ⟨c, ty, fz, (hb.block b (agree_lt hag hv)).trans e1, e2⟩
    · obtain ⟨vs', ty, q1, q2⟩ := hj.1 b o ho
      exact ⟨vs', ty, (hb.block b (Array.getElem?_eq_some_iff.1 q1).1).trans q1, q2⟩
    · have := agree_lt hag hv; omega
  rw [hvs2]
  generalize vs[0] = v0 at h1
  cases h1 with
  | sl _ _ _ _ hrep _ _ =>
    cases hrep with
    | sl A n cap _ _ _ b o g e1 e2 e3 e4 e5 e6 =>
      by_cases hx : xs = []
      · subst hx
        obtain rfl : n = 0 := by simpa using e1
        exact (h0 A cap w hK rfl).mono post
      · obtain rfl := e3 (by simpa using hx)
        obtain rfl : n = xs.length := by simpa using e1
        have hcell : ∀ (j : Nat) y, xs[j]? = some y → x.G b (o + j) = some (.string y) := by
          intro j y hy
          have a1 := e5 j (.lit (.string y)) 0 (.lit (.string y)) (by simp [hy]) rfl
          have a2 := e6 j (.lit (.string y)) 0 (.lit (.string y)) (by simp [hy]) rfl
          have a3 : g j 0 = .string y := by
            generalize g j 0 = q at a2
            cases a2; rfl
          rw [a3] at a1
          simpa using a1.1
        obtain ⟨y, hy⟩ : ∃ y, xs[0]? = some y := by cases xs with | nil => exact absurd rfl hx | cons a l => exact ⟨a, rfl⟩
        refine (h b o cap w hK (agree_lt hag (hcell 0 y hy)) e2 fun j y hy => ?_).mono post
        obtain ⟨c, ty, fz, q1, q2⟩ := hag b (o + j) _ (hcell j y hy)
        simp only [World.cell?, q1]
        exact q2
theorem Fin_ret2 {K : Nat → Prop} {rs : List VR} {r r1 r2 : AV} {ks : List Nat} {s : AS} (h : resVs s rs = some [r1, r2]) (h2 : r = reC ks (.tup [r1, r2])) : FinK K rs r ks .ret s := ⟨.inr rfl, s, .refl _, _, h, h2⟩
theorem Fin_wk2' {K : Nat → Prop} {rs : List VR} {r r1 r2 : AV} {ks : List Nat} {s s1 : AS} (hw : Wk K s1 s) (h : resVs s1 rs = some [r1, r2]) (h2 : r = reC ks (.tup [r1, r2])) : FinK K rs r ks .ret s := ⟨.inr rfl, s1, hw, _, h, h2⟩
theorem wkV_no (ap : Ap) (b : Bool) (sz : Nat) (xs : List AV) : wkV (.sl ⟨.no, b⟩ sz xs) (.sl ⟨ap, b⟩ sz xs) := .inr (.inr ⟨_, _, _, _, _, rfl, rfl, id, .inl ⟨rfl, .inl rfl⟩⟩)
theorem Xa_b2s {E : EnvK} {s : AS} {d : Option Nat} {x : Od} {Q : AS → Prop} {lk : Lk Q} {m : Mk} {l : List UInt8} (h : s.val x = .sl m 1 (l.map fun b : UInt8 => .lit (.int .u8 b.toNat))) (hQ : Q (s.putO d (.lit (.string ⟨l.toArray⟩)))) : Xa E s d (.b2s x) Q lk := ⟨m, 1, _, l, h, .inl rfl, rfl, hQ⟩
/-- cuts of texts and rows -/
theorem wh_ll {s : AS} {n : Nat} {lo hi : Od} {k k' : IntKind} {l h : Int} {K : Nat × Nat → Prop} {lk : Lk K} (h1 : s.val lo = .lit (.int k l)) (h2 : s.val hi = .lit (.int k' h)) (c1 : 0 ≤ l) (c2 : l ≤ h) (c3 : h ≤ n) (hK : K (l.toNat, h.toNat)) : wh (cutB s n (some lo) (some hi)) K lk := by
  have e : cutB s n (some lo) (some hi) = some (l.toNat, h.toNat) := by
    unfold cutB
    simp only [h1, h2]
    rw [if_pos ⟨by omega, c3⟩]
    simp only
    rw [if_pos ⟨c1, by omega⟩]
  exact wh_of e hK
theorem wh_l {s : AS} {n : Nat} {lo : Od} {k : IntKind} {l : Int} {K : Nat × Nat → Prop} {lk : Lk K} (h1 : s.val lo = .lit (.int k l)) (c1 : 0 ≤ l) (c2 : l ≤ n) (hK : K (l.toNat, n)) : wh (cutB s n (some lo) none) K lk := by
  have e : cutB s n (some lo) none = some (l.toNat, n) := by
    unfold cutB
    simp only [h1]
    rw [if_pos ⟨c1, c2⟩]
  exact wh_of e hK
theorem wh_h {s : AS} {n : Nat} {hi : Od} {k : IntKind} {h : Int} {K : Nat × Nat → Prop} {lk : Lk K} (h1 : s.val hi = .lit (.int k h)) (c1 : 0 ≤ h) (c2 : h ≤ n) (hK : K (0, h.toNat)) : wh (cutB s n none (some hi)) K lk := by
  have e : cutB s n none (some hi) = some (0, h.toNat) := by
    unfold cutB
    simp only [h1]
    rw [if_pos ⟨c1, c2⟩]
  exact wh_of e hK
end Go.Proofs.YticockdhfglolaaGreatDoor.Vm
namespace Go.Proofs.YticockdhfglolaaGreatDoor.Vm
open Go Go.RowKit
set_option linter.unusedVariables false
set_option linter.unusedSimpArgs false
theorem ba_ext {a b : ByteArray} (h : a.data.toList = b.data.toList) : a = b := by
  obtain ⟨⟨a⟩⟩ := a; obtain ⟨⟨b⟩⟩ := b; simp at h; rw [h]
def isD (b : UInt8) : Prop := 48 ≤ b.toNat ∧ b.toNat ≤ 57
def dval (a : Nat) (l : List UInt8) : Nat := l.foldl (fun a b => 10 * a + (b.toNat - 48)) a
theorem dig_nat {u : Nat} (h : u < 10) : (UInt8.ofNat (48 + u)).toNat = 48 + u := by
  rw [UInt8.toNat_ofNat']; omega
theorem dec_digits (u : Nat) : ∀ b ∈ Lib.decDigits u, isD b := by
  induction u using Nat.strongRecOn with
  | _ u ih =>
    intro b hb
    rw [Lib.decDigits] at hb
    split at hb
    · rename_i h
      obtain rfl := List.mem_singleton.1 hb
      unfold isD; rw [dig_nat h]; omega
    · rename_i h
      rcases List.mem_append.1 hb with hb | hb
      · exact ih (u / 10) (by omega) b hb
      · obtain rfl := List.mem_singleton.1 hb
        unfold isD; rw [dig_nat (Nat.mod_lt _ (by omega))]; have := Nat.mod_lt u (y := 10) (by omega); omega
theorem dec_val (u : Nat) : dval 0 (Lib.decDigits u) = u := by
  induction u using Nat.strongRecOn with
  | _ u ih =>
    rw [Lib.decDigits]
    split
    · rename_i h
      show 10 * 0 + ((UInt8.ofNat (48 + u)).toNat - 48) = u
      rw [dig_nat h]; omega
    · rename_i h
      have := ih (u / 10) (by omega)
      unfold dval at this ⊢
      rw [List.foldl_append, this]
      simp [dig_nat (Nat.mod_lt u (y := 10) (by omega))]
      omega
theorem dec_ne (u : Nat) : Lib.decDigits u ≠ [] := by
  rw [Lib.decDigits]; split <;> simp
theorem dec_len : ∀ (k u : Nat), u < 10 ^ (k + 1) → (Lib.decDigits u).length ≤ k + 1
  | 0, u, h => by rw [Lib.decDigits, dif_pos (by simpa using h)]; simp
  | k + 1, u, h => by
    rw [Lib.decDigits]
    split
    · simp
    · have := dec_len k (u / 10) (by rw [Nat.pow_succ] at h; omega)
      simp; omega
theorem dval_lt : ∀ (l : List UInt8) (a k : Nat), (∀ b ∈ l, isD b) → a < 10 ^ k → dval a l < 10 ^ (k + l.length)
  | [], a, k, _, h => by simpa [dval] using h
  | b :: l, a, k, hd, h => by
    have hb := hd b (by simp)
    have := dval_lt l (10 * a + (b.toNat - 48)) (k + 1) (fun c hc => hd c (by simp [hc])) (by rw [Nat.pow_succ]; unfold isD at hb; omega)
    simp only [dval, List.foldl_cons, List.length_cons] at this ⊢
    rw [show k + (l.length + 1) = k + 1 + l.length by omega]
    exact this
theorem parse_ok : ∀ (l : List UInt8) (a : Nat), (∀ b ∈ l, isD b) → (a + 1) * 10 ^ l.length ≤ 1844674407370955162 → Lib.parseUint10 a l = .ok (dval a l)
  | [], a, _, _ => rfl
  | b :: l, a, hd, h => by
    have hb := hd b (by simp)
    unfold isD at hb
    rw [List.length_cons, Nat.pow_succ] at h
    have h1 : 1 ≤ 10 ^ l.length := Nat.one_le_pow _ _ (by decide)
    have h2 : (a + 1) * 10 ≤ 1844674407370955162 := by
      have e : (a + 1) * 10 * 1 ≤ (a + 1) * 10 * 10 ^ l.length := Nat.mul_le_mul_left _ h1
      rw [show (a + 1) * (10 ^ l.length * 10) = (a + 1) * 10 * 10 ^ l.length by rw [Nat.mul_assoc, Nat.mul_comm 10]] at h
      omega
    rw [Lib.parseUint10, if_pos hb, if_neg (by omega), if_neg (by omega), parse_ok l _ (fun c hc => hd c (by simp [hc])) ?_]
    · simp only [dval, List.foldl_cons, Nat.mul_comm a 10]
    · refine Nat.le_trans ?_ h
      rw [show (a + 1) * (10 ^ l.length * 10) = ((a + 1) * 10) * 10 ^ l.length by rw [Nat.mul_assoc, Nat.mul_comm 10]]
      exact Nat.mul_le_mul_right _ (by omega)
theorem atoi_dec (u : Nat) (h : u ≤ 999999999) : Lib.atoiAll (Lib.decDigits u) = .ok u := by
  have hd := dec_digits u
  have hv := dec_val u
  have hn := dec_ne u
  have hl := dec_len 8 u (by omega)
  revert hd hv hn hl
  cases Lib.decDigits u with
  | nil => intro _ _ h; exact absurd rfl h
  | cons c r =>
    intro hd hv _ hl
    have hc := hd c (by simp)
    unfold isD at hc
    have hp : Lib.parseMag (c :: r) = .ok u := by
      unfold Lib.parseMag
      rw [if_neg (by simp), parse_ok _ _ hd ?_, hv]
      have : 10 ^ (c :: r).length ≤ 10 ^ 9 := Nat.pow_le_pow_right (by omega) hl
      omega
    unfold Lib.atoiAll
    simp only
    rw [if_neg (by omega), hp]
    simp only
    rw [if_neg (by omega), if_neg (by omega), if_neg (by omega)]
/-- a number's text -/
def decT (n : Nat) : ByteArray := ⟨(Lib.decDigits n).toArray⟩
theorem decT_list (n : Nat) : (decT n).data.toList = Lib.decDigits n := rfl
theorem decT_inj {n m : Nat} (h : decT n = decT m) : n = m := by
  have : Lib.decDigits n = Lib.decDigits m := by rw [← decT_list, ← decT_list, h]
  rw [← dec_val n, ← dec_val m, this]
theorem decT_size {k n : Nat} (h : n < 10 ^ (k + 1)) : (decT n).size ≤ k + 1 := by
  have := dec_len k n h
  show (Lib.decDigits n).toArray.size ≤ k + 1
  simpa using this
theorem itoa_decT (n : Nat) : (⟨(Lib.itoa n).toArray⟩ : ByteArray) = decT n := by rw [Lib.itoa_nonneg]; rfl
/-- the number of a text that is a number's, or -1 -/
noncomputable def readDec (s : ByteArray) : Int := @dite _ (∃ n, n ≤ 999999999 ∧ decT n = s) (Classical.propDecidable _) (fun h => (h.choose : Int)) fun _ => -1
theorem readDec_some {n : Nat} (h : n ≤ 999999999) : readDec (decT n) = n := by
  have hx : ∃ m, m ≤ 999999999 ∧ decT m = decT n := ⟨n, h, rfl⟩
  unfold readDec
  rw [dif_pos hx, decT_inj hx.choose_spec.2]
theorem readDec_none {s : ByteArray} (h : ∀ n, n ≤ 999999999 → decT n ≠ s) : readDec s = -1 := by
  unfold readDec
  rw [dif_neg]
  rintro ⟨n, h1, h2⟩
  exact h n h1 h2
theorem readDec_cases (s : ByteArray) : readDec s = -1 ∨ ∃ n, n ≤ 999999999 ∧ decT n = s ∧ readDec s = n := by
  by_cases h : ∃ n, n ≤ 999999999 ∧ decT n = s
  · obtain ⟨n, h1, rfl⟩ := h
    exact .inr ⟨n, h1, rfl, readDec_some h1⟩
  · exact .inl (readDec_none fun n h1 h2 => h ⟨n, h1, h2⟩)
theorem bt_get {s : ByteArray} {i : Nat} (h : i < s.size) : s.data.toList[i]? = some (bt s i) := by
  have : i < s.data.toList.length := by simpa using h
  rw [List.getElem?_eq_getElem this]
  unfold bt
  simp [List.getD, List.getElem?_eq_getElem this]
theorem dval_take {s : ByteArray} {i : Nat} (h : i < s.size) : dval 0 (s.data.toList.take (i + 1)) = 10 * dval 0 (s.data.toList.take i) + ((bt s i).toNat - 48) := by
  rw [List.take_add_one, bt_get h]
  simp [dval, List.foldl_append]
end Go.Proofs.YticockdhfglolaaGreatDoor.Vm
namespace Go.Proofs.YticockdhfglolaaGreatDoor.Vm
open Go Go.RowKit
set_option linter.unusedVariables false
set_option linter.unusedSimpArgs false
def v82 : VC := .seq (.reg false [⟨some 6, .as (.c (.lit (.bool false))), none⟩] [6]) (.seq (.reg false [⟨some 7, .mv (.t 0), none⟩, ⟨some 8, .mv (.t 1), none⟩, ⟨some 9, .bin .geq 0 (.t 7) (.t 8), none⟩, ⟨some 10, .mv (.t 9), none⟩, ⟨some 11, .mv (.t 0), (some (10, true))⟩, ⟨some 12, .mv (.t 2), (some (10, true))⟩, ⟨some 13, .bin .leq 0 (.t 11) (.t 12), (some (10, true))⟩, ⟨some 14, .pick (.t 10) (.t 13) (.c (.lit (.bool false))), none⟩, ⟨some 6, .as (.t 14), none⟩] [7, 8, 9, 10, 11, 12, 13, 14]) (.ret))
theorem is82 : Is Go.Proofs.Tryz.prog 82 15 v82 [.t 6] := ⟨Go.Proofs.Tryz.f82, dl [(0, [6]), (1, [7, 8, 9, 10, 11, 12, 13, 14])], Go.Proofs.Tryz.func82, by kernel_rfl, by kernel_rfl, by kernel_rfl, by kernel_rfl⟩
def v153 : VC := .seq (.reg false [⟨some 2, .as (.c (.lit (.string (by8 "")))), none⟩] [2]) (.seq (.seq (.reg false [⟨some 6, .mv (.t 0), none⟩, ⟨some 7, .bin .eql 0 (.t 6) (.c (.lit (.int .i64 0))), none⟩] [6]) (.cond (.t 7) (.seq (.reg false [⟨some 2, .as (.c (.lit (.string (by8 "0")))), none⟩] []) (.ret)) (.skip))) (.seq (.reg false [⟨some 3, .as (.c (.lit (.string (by8 "")))), none⟩] []) (.seq (.reg false [⟨some 8, .mv (.t 0), none⟩, ⟨some 4, .as (.t 8), none⟩] [8]) (.seq (.block 0 (.loop (.seq (.seq (.reg false [⟨some 9, .mv (.t 4), none⟩, ⟨some 10, .bin .neq 0 (.t 9) (.c (.lit (.int .i64 0))), none⟩] [9]) (.cond (.t 10) (.skip) (.exit 0))) (.block 1 (.seq (.reg false [⟨some 11, .mv (.t 4), none⟩, ⟨some 12, .bin .rem 0 (.t 11) (.c (.lit (.int .i64 10))), none⟩, ⟨some 5, .as (.t 12), none⟩] [11, 12]) (.seq (.seq (.reg false [⟨some 13, .mv (.t 5), none⟩, ⟨some 14, .bin .lss 0 (.t 13) (.c (.lit (.int .i64 0))), none⟩] [13]) (.cond (.t 14) (.reg false [⟨some 15, .mv (.t 5), none⟩, ⟨some 16, .un .neg (.t 15), none⟩, ⟨some 5, .as (.t 16), none⟩] [15, 16]) (.skip))) (.seq (.reg false [⟨some 17, .mv (.t 5), none⟩, ⟨some 18, .mv (.t 5), none⟩, ⟨some 19, .bin .add 0 (.t 18) (.c (.lit (.int .i64 1))), none⟩, ⟨some 20, .slS (.c (.lit (.string (by8 "0123456789")))) (some (.t 17)) (some (.t 19)), none⟩, ⟨some 21, .mv (.t 3), none⟩, ⟨some 22, .bin .add 0 (.t 20) (.t 21), none⟩, ⟨some 3, .as (.t 22), none⟩] [17, 18, 19, 20, 21, 22]) (.reg false [⟨some 23, .mv (.t 4), none⟩, ⟨some 24, .bin .quo 0 (.t 23) (.c (.lit (.int .i64 10))), none⟩, ⟨some 4, .as (.t 24), none⟩] [23, 24])))))))) (.seq (.seq (.reg false [⟨some 25, .mv (.t 0), none⟩, ⟨some 26, .bin .lss 0 (.t 25) (.c (.lit (.int .i64 0))), none⟩] [25]) (.cond (.t 26) (.seq (.reg false [⟨some 27, .mv (.t 3), none⟩, ⟨some 28, .bin .add 0 (.c (.lit (.string (by8 "-")))) (.t 27), none⟩, ⟨some 2, .as (.t 28), none⟩] [27, 28]) (.ret)) (.skip))) (.seq (.reg false [⟨some 29, .mv (.t 3), none⟩, ⟨some 2, .as (.t 29), none⟩] [29]) (.ret)))))))
theorem is153 : Is Go.Proofs.Tryz.prog 153 30 v153 [.t 2] := ⟨Go.Proofs.Tryz.f153, dl [(0, [2]), (1, [6]), (4, [8]), (5, [9]), (6, [11, 12]), (7, [13]), (8, [15, 16]), (9, [17, 18, 19, 20, 21, 22]), (10, [23, 24]), (11, [25]), (12, [27, 28]), (13, [29])], Go.Proofs.Tryz.func153, by kernel_rfl, by kernel_rfl, by kernel_rfl, by kernel_rfl⟩
def v102 : VC := .seq (.reg false [⟨some 2, .as (.c (.lit (.int .i64 0))), none⟩] [2]) (.seq (.reg false [⟨some 3, .as (.c (.lit (.int .i64 0))), none⟩] []) (.seq (.seq (.reg false [⟨some 4, .as (.c (.lit (.int .i64 0))), none⟩] []) (.block 0 (.loop (.seq (.seq (.reg false [⟨some 5, .mv (.t 4), none⟩, ⟨some 6, .mv (.t 0), none⟩, ⟨some 7, .len true (.t 6), none⟩, ⟨some 8, .bin .lss 0 (.t 5) (.t 7), none⟩] [5, 6, 7]) (.cond (.t 8) (.skip) (.exit 0))) (.seq (.block 1 (.seq (.seq (.reg false [⟨some 11, .mv (.t 0), none⟩, ⟨some 12, .mv (.t 4), none⟩, ⟨some 13, .idx (.t 11) (.t 12), none⟩, ⟨some 14, .cvI .i64 (.t 13), none⟩, ⟨some 15, .call false 82 [(.t 14), (.c (.lit (.int .i64 48))), (.c (.lit (.int .i64 57)))], none⟩, ⟨some 16, .un .not (.t 15), none⟩, ⟨some 17, .mv (.t 16), none⟩, ⟨some 18, .mv (.t 0), (some (17, false))⟩, ⟨some 19, .len true (.t 18), (some (17, false))⟩, ⟨some 20, .bin .gtr 0 (.t 19) (.c (.lit (.int .i64 9))), (some (17, false))⟩, ⟨some 21, .pick (.t 17) (.c (.lit (.bool true))) (.t 20), none⟩] [11, 12, 13, 14, 15, 16, 17, 18, 19, 20]) (.cond (.t 21) (.seq (.reg false [⟨some 2, .as (.c (.lit (.int .i64 (-1)))), none⟩] []) (.ret)) (.skip))) (.reg false [⟨some 22, .mv (.t 3), none⟩, ⟨some 23, .bin .mul 0 (.c (.lit (.int .i64 10))) (.t 22), none⟩, ⟨some 24, .mv (.t 0), none⟩, ⟨some 25, .mv (.t 4), none⟩, ⟨some 26, .idx (.t 24) (.t 25), none⟩, ⟨some 27, .cvI .i64 (.t 26), none⟩, ⟨some 28, .bin .add 0 (.t 23) (.t 27), none⟩, ⟨some 29, .bin .sub 0 (.t 28) (.c (.lit (.int .i64 48))), none⟩, ⟨some 3, .as (.t 29), none⟩] [22, 23, 24, 25, 26, 27, 28, 29]))) (.reg false [⟨some 9, .mv (.t 4), none⟩, ⟨some 10, .bin .add 0 (.t 9) (.c (.lit (.int .i64 1))), none⟩, ⟨some 4, .as (.t 10), none⟩] [9, 10])))))) (.seq (.seq (.reg false [⟨some 30, .mv (.t 0), none⟩, ⟨some 31, .bin .eql 0 (.t 30) (.c (.lit (.string (by8 "")))), none⟩, ⟨some 32, .mv (.t 31), none⟩, ⟨some 33, .mv (.t 3), (some (32, false))⟩, ⟨some 34, .call false 153 [(.t 33)], (some (32, false))⟩, ⟨some 35, .mv (.t 0), (some (32, false))⟩, ⟨some 36, .bin .neq 0 (.t 34) (.t 35), (some (32, false))⟩, ⟨some 37, .pick (.t 32) (.c (.lit (.bool true))) (.t 36), none⟩] [30, 31, 32, 33, 34, 35, 36]) (.cond (.t 37) (.seq (.reg false [⟨some 2, .as (.c (.lit (.int .i64 (-1)))), none⟩] []) (.ret)) (.skip))) (.seq (.reg false [⟨some 38, .mv (.t 3), none⟩, ⟨some 2, .as (.t 38), none⟩] [38]) (.ret)))))
theorem is102 : Is Go.Proofs.Tryz.prog 102 39 v102 [.t 2] := ⟨Go.Proofs.Tryz.f102, dl [(0, [2]), (3, [5, 6, 7]), (5, [11, 12, 13, 14, 15, 16, 17, 18, 19, 20]), (7, [22, 23, 24, 25, 26, 27, 28, 29]), (4, [9, 10]), (8, [30, 31, 32, 33, 34, 35, 36]), (10, [38])], Go.Proofs.Tryz.func102, by kernel_rfl, by kernel_rfl, by kernel_rfl, by kernel_rfl⟩
def v89 : VC := .seq (.reg false [⟨some 6, .as (.c (.lit (.bool false))), none⟩] [6]) (.seq (.reg false [⟨some 7, .mv (.t 1), none⟩, ⟨some 8, .mv (.t 0), none⟩, ⟨some 9, .bin .leq 0 (.t 7) (.t 8), none⟩, ⟨some 10, .mv (.t 9), none⟩, ⟨some 11, .mv (.t 0), (some (10, true))⟩, ⟨some 12, .mv (.t 2), (some (10, true))⟩, ⟨some 13, .bin .leq 0 (.t 11) (.t 12), (some (10, true))⟩, ⟨some 14, .pick (.t 10) (.t 13) (.c (.lit (.bool false))), none⟩, ⟨some 6, .as (.t 14), none⟩] [7, 8, 9, 10, 11, 12, 13, 14]) (.ret))
theorem is89 : Is Go.Proofs.Tryz.prog 89 15 v89 [.t 6] := ⟨Go.Proofs.Tryz.f89, dl [(0, [6]), (1, [7, 8, 9, 10, 11, 12, 13, 14])], Go.Proofs.Tryz.func89, by kernel_rfl, by kernel_rfl, by kernel_rfl, by kernel_rfl⟩
def v204 : VC := .seq (.reg false [⟨some 2, .as (.c (.lit (.string (by8 "")))), none⟩] [2]) (.seq (.reg false [⟨some 3, .mv (.t 0), none⟩, ⟨some 4, .call false 229 [(.t 3)], none⟩, ⟨some 2, .as (.t 4), none⟩] [3, 4]) (.ret))
theorem is204 : Is Go.Proofs.Tryz.prog 204 5 v204 [.t 2] := ⟨Go.Proofs.Tryz.f204, dl [(0, [2]), (1, [3, 4])], Go.Proofs.Tryz.func204, by kernel_rfl, by kernel_rfl, by kernel_rfl, by kernel_rfl⟩
def inR (x a b : Int) : Bool := decide (a ≤ x) && decide (x ≤ b)
theorem wrapN {i : Nat} (h : i < 9223372036854775807) : IntKind.i64.wrap ((i : Int) + 1) = ((i + 1 : Nat) : Int) := by
  rw [wrap_i64 (by omega) (by omega)]; rfl
theorem tmodN (m k : Nat) : (m : Int).tmod k = ((m % k : Nat) : Int) := by rw [Int.tmod_eq_emod_of_nonneg (by omega)]; rfl
theorem tdivN (m k : Nat) : (m : Int).tdiv k = ((m / k : Nat) : Int) := by rw [Int.tdiv_eq_ediv_of_nonneg (by omega)]; rfl
theorem one_dig : ∀ d : _root_.Fin 10, (by8 "0123456789").extract d.val (d.val + 1) = ⟨#[UInt8.ofNat (48 + d.val)]⟩ := by decide +kernel
section
variable {E : Env} (hE : E.P = Go.Proofs.Tryz.prog)
include hE
theorem l01In_fx (x a b : Int) : Fx E 82 [] [.lit (.int .i64 x), .lit (.int .i64 a), .lit (.int .i64 b)] [] (.lit (.bool (inR x a b))) := by
  refine (is82.to hE).fx [] (by simp) rfl rfl ?_
  simp [v82]
  by_cases c1 : a ≤ x
  · simp [c1]
    exact Fin_ret rfl (by simp [inR, c1, reC])
  · simp [c1]
    exact Fin_ret rfl (by simp [inR, c1, reC])
theorem within_fx (x a b : Int) : Fx E 89 [] [.lit (.int .i64 x), .lit (.int .i64 a), .lit (.int .i64 b)] [] (.lit (.bool (inR x a b))) := by
  refine (is89.to hE).fx [] (by simp) rfl rfl ?_
  simp [v89]
  by_cases c1 : a ≤ x
  · simp [c1]
    exact Fin_ret rfl (by simp [inR, c1, reC])
  · simp [c1]
    exact Fin_ret rfl (by simp [inR, c1, reC])
theorem specDec_fx (n : Nat) (hn : n ≤ 999999999) : Fx E 153 [] [.lit (.int .i64 n)] [] (.lit (.string (decT n))) := by
  have hlen := dec_len 8 n (by omega)
  refine (is153.to hE).fx [] (by simp) rfl rfl ?_
  simp [v153]
  by_cases c0 : n = 0
  · subst c0
    simp
    have h0 : by8 "0" = decT 0 := by rw [decT, Lib.decDigits]; decide +kernel
    exact Fin_ret rfl (by rw [← h0]; rfl)
  · simp [c0]
    refine X_loop (τ := Nat × ByteArray) (fun p => ⟨[(0, .lit (.int .i64 n)), (3, .lit (.string p.2)), (4, .lit (.int .i64 p.1))], []⟩) (fun p => (p.1 = 0 ∧ p.2 = decT n) ∨ (0 < p.1 ∧ p.1 ≤ n ∧ Lib.decDigits n = Lib.decDigits p.1 ++ p.2.data.toList)) (fun p => p.1) (n, by8 "") (.inr ⟨by omega, Nat.le_refl _, by simp; rfl⟩) (Wk.both (by simp [wkL, wkV.same]) trivial) ?_
    rintro ⟨m, out⟩ hp
    simp
    rcases hp with ⟨h1, h2⟩ | ⟨h1, h2, h3⟩
    · simp only at h1 h2
      subst h1 h2
      have hn0 : ¬ (n : Int) < 0 := by omega
      simp [hn0]
      exact Fin_ret rfl rfl
    · simp only at h1 h2 h3
      have h1' : ¬ m = 0 := by omega
      have hsz : out.size ≤ 9 := by
        have := congrArg List.length h3
        rw [List.length_append] at this
        have e : out.data.toList.length = out.size := by simp
        omega
      simp [h1']
      obtain ⟨d, hd⟩ : ∃ d, m % 10 = d := ⟨_, rfl⟩
      obtain ⟨q, hq⟩ : ∃ q, m / 10 = q := ⟨_, rfl⟩
      have hd10 : d < 10 := by omega
      have e1 : (m : Int).tmod 10 = (d : Int) := by rw [← hd]; exact tmodN m 10
      have e2 : (m : Int).tdiv 10 = (q : Int) := by rw [← hq]; exact tdivN m 10
      rw [e1]
      have hm1 : ¬ (d : Int) < 0 := by omega
      simp [hm1]
      rw [wrapN (by omega)]
      refine wh_ll (l := d) (h := (d + 1 : Nat)) rfl rfl (by omega) (by omega) (by have : (by8 "0123456789").size = 10 := by decide +kernel
                                                                                   omega) ?_
      have hdig := one_dig ⟨d, hd10⟩
      simp only at hdig
      simp
      rw [hdig]
      have h10 : (by8 "0123456789").size = 10 := by decide +kernel
      have e3 : IntKind.i64.wrap ((m : Int) / 10) = (q : Int) := by rw [wrap_i64 (by omega) (by omega)]; omega
      have hl1 : (({ data := #[UInt8.ofNat (48 + d)] } : ByteArray) ++ out).data.toList = UInt8.ofNat (48 + d) :: out.data.toList := by simp
      refine ⟨by omega, q, ({ data := #[UInt8.ofNat (48 + d)] } : ByteArray) ++ out, ?_, by omega, Wk.both (by simp [wkL, wkV.same, e3]) trivial⟩
      by_cases hq0 : q = 0
      · refine .inl ⟨hq0, ?_⟩
        have hm : Lib.decDigits m = [UInt8.ofNat (48 + m)] := by rw [Lib.decDigits, dif_pos (by omega)]
        have hmd : m = d := by omega
        rw [hm] at h3
        refine ba_ext ?_
        rw [hl1, decT_list, h3, hmd]; rfl
      · refine .inr ⟨by omega, by omega, ?_⟩
        have hm : Lib.decDigits m = Lib.decDigits q ++ [UInt8.ofNat (48 + d)] := by rw [Lib.decDigits, dif_neg (by omega), hd, hq]
        rw [hl1, h3, hm]; simp
/-- digits alone -/
def digB (u : UInt8) : Bool := inR u.toNat 48 57
omit hE in
theorem dec_bt {n i : Nat} (h : i < (decT n).size) : digB (bt (decT n) i) = true := by
  have h1 := bt_get h
  have h2 := dec_digits n _ (List.mem_of_getElem? h1)
  unfold isD at h2
  simp [digB, inR]; omega
set_option maxHeartbeats 1000000 in
theorem specReadDec_fx (s : ByteArray) (hs : s.size ≤ 9223372036854775806) : Fx E 102 [] [.lit (.string s)] [] (.lit (.int .i64 (readDec s))) := by
  refine (is102.to hE).fx [] (by simp) rfl rfl ?_
  simp [v102]
  refine X_loop (τ := Nat) (fun i => ⟨[(0, .lit (.string s)), (3, .lit (.int .i64 (dval 0 (s.data.toList.take i)))), (4, .lit (.int .i64 i))], []⟩) (fun i => i ≤ s.size ∧ (0 < i → s.size ≤ 9) ∧ ∀ k, k < i → digB (bt s k) = true) (fun i => s.size - i) 0 (by simp) (Wk.both (by simp [wkL, wkV.same, dval]) trivial) ?_
  rintro i ⟨hi, h9, hall⟩
  simp
  have hlt9 : s.size ≤ 9 → dval 0 (s.data.toList.take i) < 10 ^ 9 := by
    intro h
    have := dval_lt (s.data.toList.take i) 0 0 (fun b hb => by
      obtain ⟨k, hk, rfl⟩ := List.getElem_of_mem hb
      have hk2 : k < i ∧ k < s.size := by simp at hk; omega
      have h1 := hall k hk2.1
      have h2 := bt_get hk2.2
      have h3 : (s.data.toList.take i)[k]? = some (bt s k) := by rw [List.getElem?_take, if_pos hk2.1, h2]
      rw [List.getElem?_eq_getElem hk] at h3
      rw [Option.some.inj h3]
      simp [digB, inR] at h1
      unfold isD; omega) (by omega)
    refine Nat.lt_of_lt_of_le this (Nat.pow_le_pow_right (by omega) ?_)
    simp; omega
  by_cases hlt : i < s.size
  · simp [hlt]
    rw [wrap_i64 (by omega) (by have := (bt s i).toNat_lt; omega)]
    refine vcall_go (l01In_fx hE (bt s i).toNat 48 57) (by simp) (by simp) (by simp) (by simp) ?_
    simp
    cases c1 : inR ((bt s i).toNat : Int) 48 57
    · simp
      exact Fin_ret rfl (by
        rw [readDec_none fun n h1 h2 => ?_]; rfl
        subst h2
        have := dec_bt hlt
        unfold digB at this
        rw [c1] at this; cases this)
    · simp
      by_cases c2 : (9 : Int) < s.size
      · simp [c2]
        exact Fin_ret rfl (by
          rw [readDec_none fun n h1 h2 => ?_]; rfl
          subst h2
          have := decT_size (k := 8) (n := n) (by omega)
          omega)
      · have h9' : s.size ≤ 9 := by omega
        have hv := hlt9 h9'
        have hvt := dval_take hlt
        have hu := (bt s i).toNat_lt
        have hdig : 48 ≤ (bt s i).toNat ∧ (bt s i).toNat ≤ 57 := by simp [inR] at c1; omega
        simp [c2, hlt]
        rw [wrap_i64 (i := (bt s i).toNat) (by omega) (by omega)]
        have e1 : IntKind.i64.wrap (IntKind.i64.wrap (IntKind.i64.wrap (10 * (dval 0 (s.data.toList.take i) : Int)) + (bt s i).toNat) - 48) = (dval 0 (s.data.toList.take (i + 1)) : Int) := by
          rw [wrap_i64 (i := 10 * (dval 0 (s.data.toList.take i) : Int)) (by omega) (by omega), wrap_i64 (i := 10 * (dval 0 (s.data.toList.take i) : Int) + (bt s i).toNat) (by omega) (by omega), wrap_i64 (by omega) (by omega), hvt]
          omega
        rw [e1]
        refine ⟨i + 1, ⟨by omega, fun _ => h9', fun k hk => ?_⟩, by omega, Wk.both (by simp [wkL, wkV.same]; rw [wrapN (by omega)]; exact wkV.same _) trivial⟩
        rcases Nat.lt_succ_iff_lt_or_eq.1 hk with h | rfl
        · exact hall k h
        · exact c1
  · obtain rfl : i = s.size := by omega
    have ht : s.data.toList.take s.size = s.data.toList := List.take_of_length_le (by simp)
    simp
    rw [ht] at hlt9 ⊢
    by_cases c3 : s = by8 ""
    · simp [c3]
      exact Fin_ret rfl (by
        rw [readDec_none fun n h1 h2 => ?_]; rfl
        have h3 : (decT n).data.toList = [] := by rw [h2]; decide +kernel
        exact dec_ne n h3)
    · have h0 : 0 < s.size := by
        rcases Nat.eq_zero_or_pos s.size with h | h
        · exact absurd (ba_ext (a := s) (b := by8 "") (by rw [List.eq_nil_of_length_eq_zero (l := s.data.toList) (by simpa using h)]; decide +kernel)) c3
        · exact h
      have hv := hlt9 (h9 h0)
      simp [c3]
      refine vcall_go (specDec_fx hE (dval 0 s.data.toList) (by omega)) (by simp) (by simp) (by simp) (by simp) ?_
      simp
      by_cases c4 : decT (dval 0 s.data.toList) = s
      · simp [c4]
        exact Fin_ret rfl (by
          have := readDec_some (n := dval 0 s.data.toList) (by omega)
          rw [c4] at this
          rw [this]; rfl)
      · simp [c4]
        exact Fin_ret rfl (by
          rw [readDec_none fun n h1 h2 => ?_]; rfl
          refine c4 ?_
          rw [← h2, decT_list, dec_val])
end
end Go.Proofs.YticockdhfglolaaGreatDoor.Vm
namespace Go.Proofs.YticockdhfglolaaGreatDoor.Vm
open Go Go.RowKit
set_option linter.unusedVariables false
set_option linter.unusedSimpArgs false
/-- From a contract of values to its calls. -/
theorem lit_calls {E : Env} {f : Nat} {args : List Value} {r : Value} (hF : Fx E f [] (args.map .lit) [] (.lit r)) (ha : ∀ v ∈ args, v.oneCell' = true) {w : World} (hK : E.K w) : Calls E.P f args.toArray w fun e w' => e = .returned r ∧ Below w.heap.size w w' := by
  let x : X := ⟨fun _ _ => none, fun _ => 0, fun _ => (1, 0), fun _ => none, fun _ _ => False, fun _ _ => False, fun _ => none, fun _ => none⟩
  refine (hF.2.2 x w args.toArray hK (fun _ => rfl) (fun n hn => by simp at hn) ⟨fun b o h => h.elim, fun b o h => h.elim, fun _ _ h => h⟩ (by simp) (fun i v c hv hc => ?_) (fun b o v hv => by cases hv) (fun n l hl => by simp at hl) (fun n m hn => by simp at hn) ⟨fun _ _ => rfl, fun _ _ _ h => (by cases h), fun _ _ h => (by cases h)⟩).mono ?_
  · rw [List.getElem?_map] at hc
    obtain ⟨u, hu, rfl⟩ := Option.map_eq_some_iff.1 hc
    obtain rfl : v = u := by simpa [hu] using hv.symm
    exact .lit _ (ha _ (List.mem_of_getElem? hu))
  rintro e w' ⟨v, x', rfl, h1, _, _, _, h5, _⟩
  have := h1.lit_inv
  subst this
  exact ⟨rfl, ⟨h5.1, h5.2.1, h5.2.2.1, h5.2.2.2.1, fun k hk => h5.2.2.2.2 k hk (by rintro (⟨n, hn, _⟩ | ⟨_, h⟩); simp at hn; exact h)⟩⟩
section
variable {E : Env} (hE : E.P = Go.Proofs.Tryz.prog) (hZ : ∀ w, E.K w → KZ w)
include hE hZ
theorem itoa_fx (n : Nat) (hn : n ≤ 9223372036854775807) : Fx E 229 [] [.lit (.int .i64 n)] [] (.lit (.string (decT n))) := by
  refine Fx_lit (args := [.int .i64 n]) rfl fun w hw => ?_
  rw [hE]
  refine (Go.Proofs.Tryz.strconv_Itoa n (by omega) (by omega) w (hZ w hw).pow).mono ?_
  rintro e w' ⟨rfl, k, os, rfl⟩
  rw [itoa_decT]
  exact ⟨rfl, Lib.below_grow _ _ (Nat.le_refl _) _ _⟩
theorem implDec_fx (n : Nat) (hn : n ≤ 9223372036854775807) : Fx E 204 [] [.lit (.int .i64 n)] [] (.lit (.string (decT n))) := by
  refine (is204.to hE).fx [] (by simp) rfl rfl ?_
  simp [v204]
  refine vcall_go (itoa_fx hE hZ n hn) (by simp) (by simp) (by simp) (by simp) ?_
  simp
  exact Fin_ret rfl rfl
end
noncomputable def EZ : Env := ⟨Go.Proofs.Tryz.prog, KZ, 5 + 1, fun _ _ _ hk h => h.keep hk, fun _ h => h.size, by kernel_rfl⟩
theorem within_calls (x a b : Int) (w : World) (hK : KZ w) : Calls Go.Proofs.Tryz.prog 89 #[.int .i64 x, .int .i64 a, .int .i64 b] w fun e w' => e = .returned (.bool (inR x a b)) ∧ Below w.heap.size w w' :=
  lit_calls (E := EZ) (args := [.int .i64 x, .int .i64 a, .int .i64 b]) (within_fx rfl x a b) (by simp [Value.oneCell']) hK
theorem implDec_calls (n : Nat) (hn : n ≤ 9223372036854775807) (w : World) (hK : KZ w) : Calls Go.Proofs.Tryz.prog 204 #[.int .i64 n] w fun e w' => e = .returned (.string (decT n)) ∧ Below w.heap.size w w' :=
  lit_calls (E := EZ) (args := [.int .i64 n]) (implDec_fx rfl (fun _ h => h) n hn) (by simp [Value.oneCell']) hK
set_option maxRecDepth 100000 in
theorem readDec_calls (s : ByteArray) (hlim : s.size ≤ 281474976710656) (w : World) (hK : KZ w) : Calls Go.Proofs.Tryz.prog 157 #[.string s] w fun e w' => e = .returned (.int .i64 (readDec s)) ∧ Below w.heap.size w w' := by
  have bel : ∀ {a b : World}, Below w.heap.size w a → Below a.heap.size a b → Below w.heap.size w b := fun h1 h2 => h1.trans (h2.mono h1.size)
  have nx : (∀ n, n ≤ 999999999 → decT n ≠ s) → readDec s = -1 := readDec_none
  rcases h : Lib.atoiAll s.data.toList with v | _ | _
  · skip
    have hat : ∀ W, KZ W → Calls Go.Proofs.Tryz.prog 203 #[.string s] W fun e w' => e = .returned (.tuple #[.int .i64 v, .nilIface]) ∧ Below W.heap.size W w' := fun W hW => (Go.Proofs.Tryz.strconv_Atoi_ok s (by omega) v h W).mono fun e w' ⟨he, hw⟩ => ⟨he, by
      rcases hw with rfl | ⟨t, rfl⟩
      · exact Below.refl _ _
      · exact Lib.bytesWorld_below _ _ _⟩
    by_cases c1 : inR v 0 999999999 = true
    · obtain ⟨n, rfl⟩ : ∃ n : Nat, v = n := ⟨v.toNat, by simp [inR] at c1; omega⟩
      have hn : n ≤ 999999999 := by simp [inR] at c1; omega
      have hwi : ∀ W, KZ W → Calls Go.Proofs.Tryz.prog 89 #[.int .i64 n, .int .i64 0, .int .i64 999999999] W fun e w' => e = .returned (.bool true) ∧ Below W.heap.size W w' := fun W hW => by
        have := within_calls n 0 999999999 W hW
        rwa [c1] at this
      have hde := implDec_calls n (by omega)
      by_cases c2 : decT n = s
      · have hr : readDec s = n := by rw [← c2]; exact readDec_some hn
        rw [hr]
        rw [c2] at hde
        go_enter Go.Proofs.Tryz.func157, Go.Proofs.Tryz.ntmps157
        go_wp2_with (first
          | (go_at_call 203; refine (hat w hK).mono ?_; rintro e w1 ⟨rfl, hb1⟩)
          | (go_at_call 89; refine (hwi _ (hK.below hb1)).mono ?_; rintro e w2 ⟨rfl, hb2⟩)
          | (go_at_call 204; refine (hde _ ((hK.below hb1).below hb2)).mono ?_; rintro e w3 ⟨rfl, hb3⟩))
        go_ret
        exact ⟨rfl, bel (bel hb1 hb2) hb3⟩
      · have hr : readDec s = -1 := nx fun m h1 h2 => c2 (by
          subst h2
          rw [decT_list, atoi_dec m h1] at h
          injection h with h
          rw [show n = m by omega])
        rw [hr]
        go_enter Go.Proofs.Tryz.func157, Go.Proofs.Tryz.ntmps157
        go_wp2_with (first
          | (go_at_call 203; refine (hat w hK).mono ?_; rintro e w1 ⟨rfl, hb1⟩)
          | (go_at_call 89; refine (hwi _ (hK.below hb1)).mono ?_; rintro e w2 ⟨rfl, hb2⟩)
          | (go_at_call 204; refine (hde _ ((hK.below hb1).below hb2)).mono ?_; rintro e w3 ⟨rfl, hb3⟩))
        · go_ret
          exact ⟨rfl, bel (bel hb1 hb2) hb3⟩
        · rename_i hq
          exfalso
          exact c2 (toList_inj.1 (by simpa using hq))
    · have hr : readDec s = -1 := nx fun m h1 h2 => c1 (by
        subst h2
        rw [decT_list, atoi_dec m h1] at h
        injection h with h
        simp [inR]; omega)
      rw [hr]
      have hwi : ∀ W, KZ W → Calls Go.Proofs.Tryz.prog 89 #[.int .i64 v, .int .i64 0, .int .i64 999999999] W fun e w' => e = .returned (.bool false) ∧ Below W.heap.size W w' := fun W hW => by
        have := within_calls v 0 999999999 W hW
        rwa [Bool.eq_false_iff.2 c1] at this
      go_enter Go.Proofs.Tryz.func157, Go.Proofs.Tryz.ntmps157
      go_wp2_with (first
          | (go_at_call 203; refine (hat w hK).mono ?_; rintro e w1 ⟨rfl, hb1⟩)
          | (go_at_call 89; refine (hwi _ (hK.below hb1)).mono ?_; rintro e w2 ⟨rfl, hb2⟩))
      go_ret
      exact ⟨rfl, bel hb1 hb2⟩
  · skip
    have hr : readDec s = -1 := nx fun m h1 h2 => by
      subst h2
      rw [decT_list, atoi_dec m h1] at h
      cases h
    rw [hr]
    obtain ⟨te, pe, hv⟩ := hK.esyn
    go_enter Go.Proofs.Tryz.func157, Go.Proofs.Tryz.ntmps157
    go_wp2_with (go_at_call 203; refine (Any.strconv_Atoi_syntax Go.Proofs.Tryz.laysC172 s hlim h _ _ hv (.inr ⟨te, pe, rfl⟩)).mono ?_)
    rintro e w1 ⟨N, rfl, -, -, hb⟩
    go_wp2
    go_ret
    exact ⟨rfl, hb⟩
  · skip
    have hr : readDec s = -1 := nx fun m h1 h2 => by
      subst h2
      rw [decT_list, atoi_dec m h1] at h
      cases h
    rw [hr]
    obtain ⟨te, pe, hv⟩ := hK.erng
    go_enter Go.Proofs.Tryz.func157, Go.Proofs.Tryz.ntmps157
    go_wp2_with (go_at_call 203; refine (Go.Proofs.Tryz.strconv_Atoi_range s hlim h _ _ hv (.inr ⟨te, pe, rfl⟩)).mono ?_)
    rintro e w1 ⟨N, rfl, -, -, hb⟩
    go_wp2
    go_ret
    exact ⟨rfl, hb⟩
section
variable {E : Env} (hE : E.P = Go.Proofs.Tryz.prog) (hZ : ∀ w, E.K w → KZ w)
include hE hZ
theorem implReadDec_fx (s : ByteArray) (hlim : s.size ≤ 281474976710656) : Fx E 157 [] [.lit (.string s)] [] (.lit (.int .i64 (readDec s))) :=
  Fx_lit (args := [.string s]) rfl fun w hw => by rw [hE]; exact readDec_calls s hlim w (hZ w hw)
end
end Go.Proofs.YticockdhfglolaaGreatDoor.Vm
namespace Go.Proofs.YticockdhfglolaaGreatDoor.Vm
open Go Go.RowKit
set_option linter.unusedVariables false
set_option linter.unusedSimpArgs false
def one (c : UInt8) : ByteArray := ⟨#[c]⟩
def spB (sep s : ByteArray) : List ByteArray := Lib.splitB sep 0 (Lib.countB s sep) s
def spl (c : UInt8) (s : ByteArray) : List ByteArray := spB (one c) s
theorem spB_hit {sep s : ByteArray} {i : Nat} (h1 : 1 ≤ sep.size) (h : Lib.indexB s sep = i) : spB sep s = s.extract 0 i :: spB sep (s.extract (i + sep.size) s.size) := by
  unfold spB
  rw [Lib.countB_hit s sep i h1 h, Nat.add_comm, Lib.splitB_hit _ _ _ _ i h]; rfl
theorem spB_none {sep s : ByteArray} (h : Lib.indexB s sep = -1) : spB sep s = [s] := Lib.splitB_miss _ _ _ _ h
theorem spB_len {sep s : ByteArray} (h1 : 1 ≤ sep.size) : (spB sep s).length = Lib.countB s sep + 1 := Lib.splitB_all sep h1 0 _ s rfl
theorem spB_len_le {sep s : ByteArray} (h1 : 1 ≤ sep.size) : (spB sep s).length ≤ s.size + 1 := by
  rw [spB_len h1]
  have := Lib.countB_le sep h1 s.size s (Nat.le_refl _)
  omega
theorem one_list (c : UInt8) : (one c).data.toList = [c] := rfl
theorem bt_some {s : ByteArray} {i : Nat} {c : UInt8} (h : s.data.toList[i]? = some c) : i < s.size ∧ bt s i = c := by
  have hi : i < s.size := by simpa using (List.getElem?_eq_some_iff.1 h).1
  rw [bt_get hi] at h
  exact ⟨hi, Option.some.inj h⟩
theorem occ_one {s : ByteArray} {i : Nat} {c : UInt8} : Lib.occAt s.data.toList [c] i = decide (i < s.size ∧ bt s i = c) := by
  unfold Lib.occAt
  rw [Bool.eq_iff_iff, decide_eq_true_eq]
  constructor
  · intro h
    cases hd : s.data.toList.drop i with
    | nil => rw [hd] at h; simp at h
    | cons x l =>
      rw [hd] at h
      have hx : x = c := by simp [List.isPrefixOf] at h; exact h.symm
      subst hx
      refine bt_some ?_
      have := congrArg (·[0]?) hd
      simpa using this
  · rintro ⟨h1, h2⟩
    have h3 := bt_get h1
    rw [h2] at h3
    have : s.data.toList.drop i = c :: s.data.toList.drop (i + 1) := by
      rw [List.drop_eq_getElem_cons (by simpa using h1)]
      rw [List.getElem?_eq_getElem (by simpa using h1)] at h3
      rw [Option.some.inj h3]
    rw [this]
    simp [List.isPrefixOf]
theorem idx_hit {s : ByteArray} {i : Nat} {c : UInt8} (hi : i < s.size) (hc : bt s i = c) (hn : ∀ j, j < i → bt s j ≠ c) : Lib.indexB s (one c) = i := by
  refine Lib.index_first (sub := (one c).data.toList) (by simp; omega) ?_ fun j hj => ?_
  · rw [one_list, occ_one]; simp [hi, hc]
  · rw [one_list, occ_one]; simp [hn j hj]
theorem idx_miss {s : ByteArray} {c : UInt8} (hn : ∀ j, j < s.size → bt s j ≠ c) : Lib.indexB s (one c) = -1 := by
  refine Lib.index_none (sub := (one c).data.toList) fun j hj => ?_
  rw [one_list, occ_one]; simp; exact hn j
theorem spl_hit {s : ByteArray} {i : Nat} {c : UInt8} (hi : i < s.size) (hc : bt s i = c) (hn : ∀ j, j < i → bt s j ≠ c) : spl c s = s.extract 0 i :: spl c (s.extract (i + 1) s.size) := spB_hit (Nat.le_refl _) (idx_hit hi hc hn)
theorem spl_none {s : ByteArray} {c : UInt8} (hn : ∀ j, j < s.size → bt s j ≠ c) : spl c s = [s] := spB_none (idx_miss hn)
theorem spl_len_le (c : UInt8) (s : ByteArray) : (spl c s).length ≤ s.size + 1 := spB_len_le (Nat.le_refl _)
theorem idx_cases (c : UInt8) (s : ByteArray) : (Lib.indexB s (one c) = -1 ∧ ∀ j, j < s.size → bt s j ≠ c) ∨ ∃ i, i < s.size ∧ bt s i = c ∧ (∀ j, j < i → bt s j ≠ c) ∧ Lib.indexB s (one c) = (i : Nat) := by
  rcases Lib.index_spec s.data.toList [c] with ⟨h1, h2⟩ | ⟨i, h1, h2, h3, h4⟩
  · refine .inl ⟨h1, fun j hj e => ?_⟩
    have := h2 j (by simp; omega)
    rw [occ_one] at this
    simp [hj, e] at this
  · rw [occ_one] at h3
    have h3 := of_decide_eq_true h3
    refine .inr ⟨i, h3.1, h3.2, fun j hj e => ?_, h1⟩
    have := h4 j hj
    rw [occ_one] at this
    simp at this
    exact this (by omega) e
theorem ext_size (s : ByteArray) (a b : Nat) : (s.extract a b).size = min b s.size - a := ByteArray.size_extract
theorem ext_ext (s : ByteArray) (a b c d : Nat) : (s.extract a b).extract c d = s.extract (a + c) (min (a + d) b) := by
  refine ba_ext ?_
  simp [ByteArray.data_extract]
theorem bt_ext {s : ByteArray} {a b j : Nat} (h : a + j < b) : bt (s.extract a b) j = bt s (a + j) := by
  unfold bt
  simp only [ByteArray.data_extract, List.getD]
  rw [Array.getElem?_toList, Array.getElem?_toList, Array.getElem?_extract]
  split
  · rfl
  · rename_i h2
    rw [Array.getElem?_eq_none]
    omega
theorem ext_all (s : ByteArray) : s.extract 0 s.size = s := by
  refine ba_ext ?_
  simp [ByteArray.data_extract]
theorem spB_size {sep : ByteArray} (h1 : 1 ≤ sep.size) : ∀ (n : Nat) (s : ByteArray), s.size ≤ n → ∀ p ∈ spB sep s, p.size ≤ s.size
  | 0, s, hn, p, hp => by
    rcases Lib.indexB_cases s sep with h | ⟨i, h, hi⟩
    · rw [spB_none h] at hp
      rw [List.mem_singleton.1 hp]; omega
    · omega
  | n + 1, s, hn, p, hp => by
    rcases Lib.indexB_cases s sep with h | ⟨i, h, hi⟩
    · rw [spB_none h] at hp
      rw [List.mem_singleton.1 hp]; omega
    · rw [spB_hit h1 h] at hp
      rcases List.mem_cons.1 hp with rfl | hp
      · rw [ext_size]; omega
      · have := spB_size h1 n (s.extract (i + sep.size) s.size) (by rw [ext_size]; omega) p hp
        rw [ext_size] at this
        omega
theorem spl_size {c : UInt8} {s p : ByteArray} {i : Nat} (h : (spl c s)[i]? = some p) : p.size ≤ s.size := spB_size (Nat.le_refl _) s.size s (Nat.le_refl _) p (List.mem_of_getElem? h)
end Go.Proofs.YticockdhfglolaaGreatDoor.Vm
namespace Go.Proofs.YticockdhfglolaaGreatDoor.Vm
open Go Go.RowKit
set_option linter.unusedVariables false
set_option linter.unusedSimpArgs false
def v101 : VC := .seq (.reg false [⟨some 4, .as (.c (.sl ⟨.nl, true⟩ 1 [])), none⟩] [4]) (.seq (.reg false [⟨some 8, .bsl 1 [], none⟩, ⟨some 5, .as (.t 8), none⟩] [8]) (.seq (.reg false [⟨some 6, .as (.c (.lit (.int .i64 0))), none⟩] []) (.seq (.seq (.reg false [⟨some 7, .as (.c (.lit (.int .i64 0))), none⟩] []) (.block 0 (.loop (.seq (.seq (.reg false [⟨some 9, .mv (.t 7), none⟩, ⟨some 10, .mv (.t 0), none⟩, ⟨some 11, .len true (.t 10), none⟩, ⟨some 12, .bin .lss 0 (.t 9) (.t 11), none⟩] [9, 10, 11]) (.cond (.t 12) (.skip) (.exit 0))) (.seq (.block 1 (.seq (.reg false [⟨some 15, .mv (.t 0), none⟩, ⟨some 16, .mv (.t 7), none⟩, ⟨some 17, .idx (.t 15) (.t 16), none⟩, ⟨some 18, .mv (.t 1), none⟩, ⟨some 19, .bin .eql 0 (.t 17) (.t 18), none⟩] [15, 16, 17, 18]) (.cond (.t 19) (.seq (.reg false [⟨some 20, .mv (.t 5), none⟩, ⟨some 21, .mv (.t 0), none⟩, ⟨some 22, .mv (.t 6), none⟩, ⟨some 23, .mv (.t 7), none⟩, ⟨some 24, .slS (.t 21) (some (.t 22)) (some (.t 23)), none⟩, ⟨some 25, .bsl 1 [(.t 24)], none⟩, ⟨some 26, .app 1 16 (.t 20) (.t 25), none⟩, ⟨some 5, .as (.t 26), none⟩] [20, 21, 22, 23, 24, 25, 26]) (.reg false [⟨some 27, .mv (.t 7), none⟩, ⟨some 28, .bin .add 0 (.t 27) (.c (.lit (.int .i64 1))), none⟩, ⟨some 6, .as (.t 28), none⟩] [27, 28])) (.skip)))) (.reg false [⟨some 13, .mv (.t 7), none⟩, ⟨some 14, .bin .add 0 (.t 13) (.c (.lit (.int .i64 1))), none⟩, ⟨some 7, .as (.t 14), none⟩] [13, 14])))))) (.seq (.reg false [⟨some 29, .mv (.t 5), none⟩, ⟨some 30, .mv (.t 0), none⟩, ⟨some 31, .mv (.t 6), none⟩, ⟨some 32, .slS (.t 30) (some (.t 31)) none, none⟩, ⟨some 33, .bsl 1 [(.t 32)], none⟩, ⟨some 34, .app 1 16 (.t 29) (.t 33), none⟩, ⟨some 4, .as (.t 34), none⟩] [29, 30, 31, 32, 33, 34]) (.ret)))))
theorem is101 : Is Go.Proofs.Tryz.prog 101 35 v101 [.t 4] := ⟨Go.Proofs.Tryz.f101, dl [(0, [4]), (1, [8]), (4, [9, 10, 11]), (6, [15, 16, 17, 18]), (7, [20, 21, 22, 23, 24, 25, 26]), (8, [27, 28]), (5, [13, 14]), (9, [29, 30, 31, 32, 33, 34])], Go.Proofs.Tryz.func101, by kernel_rfl, by kernel_rfl, by kernel_rfl, by kernel_rfl⟩
def v100 : VC := .seq (.reg false [⟨some 4, .as (.c (.lit (.int .i64 0))), none⟩] [4]) (.seq (.seq (.reg false [⟨some 5, .as (.c (.lit (.int .i64 0))), none⟩] []) (.block 0 (.loop (.seq (.seq (.reg false [⟨some 6, .mv (.t 5), none⟩, ⟨some 7, .mv (.t 0), none⟩, ⟨some 8, .len true (.t 7), none⟩, ⟨some 9, .bin .lss 0 (.t 6) (.t 8), none⟩] [6, 7, 8]) (.cond (.t 9) (.skip) (.exit 0))) (.seq (.block 1 (.seq (.reg false [⟨some 12, .mv (.t 0), none⟩, ⟨some 13, .mv (.t 5), none⟩, ⟨some 14, .idx (.t 12) (.t 13), none⟩, ⟨some 15, .mv (.t 1), none⟩, ⟨some 16, .bin .eql 0 (.t 14) (.t 15), none⟩] [12, 13, 14, 15]) (.cond (.t 16) (.seq (.reg false [⟨some 17, .mv (.t 5), none⟩, ⟨some 4, .as (.t 17), none⟩] [17]) (.ret)) (.skip)))) (.reg false [⟨some 10, .mv (.t 5), none⟩, ⟨some 11, .bin .add 0 (.t 10) (.c (.lit (.int .i64 1))), none⟩, ⟨some 5, .as (.t 11), none⟩] [10, 11])))))) (.seq (.reg false [⟨some 4, .as (.c (.lit (.int .i64 (-1)))), none⟩] []) (.ret)))
theorem is100 : Is Go.Proofs.Tryz.prog 100 18 v100 [.t 4] := ⟨Go.Proofs.Tryz.f100, dl [(0, [4]), (2, [6, 7, 8]), (4, [12, 13, 14, 15]), (5, [17]), (3, [10, 11])], Go.Proofs.Tryz.func100, by kernel_rfl, by kernel_rfl, by kernel_rfl, by kernel_rfl⟩
theorem u8_eq {a b : UInt8} : ((a.toNat : Int) = b.toNat) ↔ a = b := by
  constructor
  · intro h; exact UInt8.toNat_inj.1 (by omega)
  · rintro rfl; rfl
section
variable {E : Env} (hE : E.P = Go.Proofs.Tryz.prog)
include hE
theorem l01At_fx (s : ByteArray) (c : UInt8) (hs : s.size ≤ 9223372036854775806) : Fx E 100 [] [.lit (.string s), .lit (.int .u8 c.toNat)] [] (.lit (.int .i64 (Lib.indexB s (one c)))) := by
  refine (is100.to hE).fx [] (by simp) rfl rfl ?_
  simp [v100]
  refine X_loop (τ := Nat) (fun i => ⟨[(0, .lit (.string s)), (1, .lit (.int .u8 c.toNat)), (5, .lit (.int .i64 i))], []⟩) (fun i => i ≤ s.size ∧ ∀ j, j < i → bt s j ≠ c) (fun i => s.size - i) 0 (by simp) (Wk.both (by simp [wkL, wkV.same]) trivial) ?_
  rintro i ⟨hi, hall⟩
  simp
  by_cases hlt : i < s.size
  · simp [hlt]
    by_cases c1 : bt s i = c
    · simp [c1]
      exact Fin_ret rfl (by rw [idx_hit hlt c1 hall]; rfl)
    · have c1' : ¬ ((bt s i).toNat : Int) = c.toNat := fun e => c1 (u8_eq.1 e)
      simp [c1']
      refine ⟨i + 1, ⟨by omega, fun k hk => ?_⟩, by omega, Wk.both (by simp [wkL, wkV.same]; rw [wrapN (by omega)]; exact wkV.same _) trivial⟩
      rcases Nat.lt_succ_iff_lt_or_eq.1 hk with h | rfl
      · exact hall k h
      · exact c1
  · simp [hlt]
    exact Fin_ret rfl (by rw [idx_miss fun j hj => hall j (by omega)]; rfl)
set_option maxHeartbeats 1000000 in
theorem l01Cut_fx (s : ByteArray) (c : UInt8) (hs : s.size ≤ 4294967280) : Fx E 101 [] [.lit (.string s), .lit (.int .u8 c.toNat)] [] (.sl ⟨.no, true⟩ 1 ((spl c s).map fun x => .lit (.string x))) := by
  refine (is101.to hE).fx [] (by simp) rfl rfl ?_
  simp [v101]
  refine X_loop (τ := Nat × List ByteArray × Nat) (fun p => ⟨[(0, .lit (.string s)), (1, .lit (.int .u8 c.toNat)), (5, .sl ⟨.cl 512, true⟩ 1 (p.2.1.map fun x => .lit (.string x))), (6, .lit (.int .i64 p.2.2)), (7, .lit (.int .i64 p.1))], []⟩) (fun p => p.1 ≤ s.size ∧ p.2.2 ≤ p.1 ∧ p.2.1.length ≤ p.1 ∧ spl c s = p.2.1 ++ spl c (s.extract p.2.2 s.size) ∧ ∀ j, p.2.2 ≤ j → j < p.1 → bt s j ≠ c) (fun p => s.size - p.1) (0, [], 0) (by simp [ext_all]) (Wk.both (by simp [wkL, wkV.same, frA.frL]) trivial) ?_
  rintro ⟨i, out, a⟩ ⟨hi, ha, hlen, hsp, hall⟩
  simp only at hi ha hlen hsp hall
  simp
  by_cases hlt : i < s.size
  · simp [hlt]
    by_cases c1 : bt s i = c
    · simp [c1]
      refine wh_ll (l := a) (h := i) rfl rfl (by omega) (by omega) (by omega) ?_
      simp [okC, frA, frA.frL, AS.dem, mapV, dem, dem.demL]
      have hx := spl_hit (s := s.extract a s.size) (c := c) (i := i - a) (by rw [ext_size]; omega) (by rw [bt_ext (by omega), show a + (i - a) = i by omega]; exact c1) (fun j hj => by rw [bt_ext (by omega)]; exact hall _ (by omega) (by omega))
      rw [ext_ext, ext_ext, ext_size, show a + 0 = a by omega, show min (a + (i - a)) s.size = i by omega, show a + (i - a + 1) = i + 1 by omega, show min (a + (min s.size s.size - a)) s.size = s.size by omega] at hx
      refine ⟨by omega, i + 1, out ++ [s.extract a i], i + 1, ⟨by omega, by omega, by simp; omega, by rw [hsp, hx]; simp, fun j h1 h2 => by omega⟩, by omega, Wk.both (by simp [wkL, wkV.same]; rw [wrapN (by omega)]; exact wkV.same _) trivial⟩
    · have c1' : ¬ ((bt s i).toNat : Int) = c.toNat := fun e => c1 (u8_eq.1 e)
      simp [c1']
      refine ⟨i + 1, out, a, ⟨by omega, by omega, by omega, hsp, fun j h1 h2 => ?_⟩, by omega, Wk.both (by simp [wkL, wkV.same]; rw [wrapN (by omega)]; exact wkV.same _) trivial⟩
      rcases Nat.lt_succ_iff_lt_or_eq.1 h2 with h | rfl
      · exact hall j h1 h
      · exact c1
  · simp [hlt]
    refine wh_l (l := a) rfl (by omega) (by omega) ?_
    simp [okC, frA, frA.frL, AS.dem, mapV, dem, dem.demL]
    have hx := spl_none (s := s.extract a s.size) (c := c) (fun j hj => by rw [ext_size] at hj; rw [bt_ext (by omega)]; exact hall _ (by omega) (by omega))
    refine ⟨by omega, Fin_ret rfl ?_⟩
    rw [hsp, hx]
    simp [reC]
end
/-- A contract that makes a row of texts, told as a list. -/
theorem Fx_strs {E : Env} {f : Nat} {args : List Value} {xs : List ByteArray} {ty : Nat} (h : ∀ w, E.K w → Calls E.P f args.toArray w fun e w' => e = .returned (.slice (some ⟨w.heap.size, 0, none⟩) xs.length xs.length) ∧ w' = w.alloc (.cells (xs.map Value.string).toArray ty)) : Fx E f [] (args.map .lit) [] (.sl ⟨.no, true⟩ 1 (xs.map fun x => .lit (.string x))) := by
  refine ⟨rfl, rfl, fun x w vs hK htl hng hj hvs hargs hag hbx hinj hnm => ?_⟩
  obtain rfl := args_lit (by simpa using hvs) hargs
  refine (h w hK).mono ?_
  rintro e w' ⟨rfl, rfl⟩
  have hnew : (w.alloc (.cells (xs.map Value.string).toArray ty)).heap[w.heap.size]? = some (.cells (xs.map Value.string).toArray ty (0, 0)) := alloc_new
  have hold : ∀ b, b < w.heap.size → (w.alloc (.cells (xs.map Value.string).toArray ty)).heap[b]? = w.heap[b]? := fun b hb => alloc_old hb
  let G' : Gh := fun b o => if b = w.heap.size then (xs.map Value.string)[o]? else x.G b o
  have hG : ∀ b o v, G' b o = some v → (b = w.heap.size ∧ (xs.map Value.string)[o]? = some v) ∨ (b ≠ w.heap.size ∧ x.G b o = some v) := by
    intro b o v hv
    by_cases hb : b = w.heap.size
    · exact .inl ⟨hb, by simpa [G', hb] using hv⟩
    · exact .inr ⟨hb, by simpa [G', hb] using hv⟩
  have hrep : ∀ base, base ≤ w.heap.size → RepD (G'.from base) x.nm (.slice (some ⟨w.heap.size, 0, none⟩) xs.length xs.length) (.sl ⟨.no, true⟩ 1 (xs.map fun x => .lit (.string x))) := by
    intro base hb
    refine .sl _ _ _ _ _ _ w.heap.size 0 (fun i _ => ((xs.map Value.string)[i]?).getD undef) (by simp) (Nat.le_refl _) (fun _ => rfl) (fun i y hy => ?_) (fun i y j c hy hc => ?_) (fun i y j c hy hc => ?_) (fun k hk => by cases hk)
    · rw [List.getElem?_map] at hy
      obtain ⟨z, _, rfl⟩ := Option.map_eq_some_iff.1 hy
      rfl
    · rw [List.getElem?_map] at hy
      obtain ⟨z, hz, rfl⟩ := Option.map_eq_some_iff.1 hy
      cases j with
      | succ j => simp [AV.cells] at hc
      | zero =>
        refine ⟨?_, by simp [hz]; rfl⟩
        unfold Gh.from
        rw [if_pos hb]
        simp [G', hz]
    · rw [List.getElem?_map] at hy
      obtain ⟨z, hz, rfl⟩ := Option.map_eq_some_iff.1 hy
      cases j with
      | succ j => simp [AV.cells] at hc
      | zero =>
        obtain rfl : AV.lit (.string z) = c := Option.some.inj hc
        rw [show ((xs.map Value.string)[i]?).getD undef = .string z by simp [hz]]
        exact .lit _ rfl
  have hle : x.G.le G' := by
    intro b o v hv
    have := agree_lt hag hv
    simp only [G', if_neg (show b ≠ w.heap.size by omega)]
    exact hv
  refine ⟨_, { x with G := G' }, rfl, .sl _ _ _ _ ((hrep 0 (Nat.zero_le _)).mono fun b o v hv => (by unfold Gh.from at hv; rw [if_pos (Nat.zero_le _)] at hv; exact hv)) (fun _ => hrep _ (Nat.le_refl _)) trivial, hle, fun b o v hv hb => ?_, fun b o v hv => ?_, ⟨rfl, rfl, rfl, by simp, fun k hk _ => hold k hk⟩, fun n hn => ⟨rfl, rfl⟩, fun n l hl => (by simp at hl), ⟨fun c b e t ht => (by change x.tl c = _ at ht; rw [htl] at ht; cases ht), fun c c' b e t e' t' ht => (by change x.tl c = _ at ht; rw [htl] at ht; cases ht)⟩, fun b o ho => ?_, fun b o v c ty' fz hb hv hh => ?_, fun _ _ => rfl, fun k b hk => hk.elim, fun k k' b h1 h2 => hnm.2.1 k k' b h1 h2, fun k c b e t ht => (by change x.tl c = _ at ht; rw [htl] at ht; cases ht)⟩
  · rcases hG b o v hv with ⟨h1, _⟩ | ⟨_, h2⟩
    · omega
    · exact h2
  · rcases hG b o v hv with ⟨rfl, h1⟩ | ⟨_, h2⟩
    · exact ⟨_, _, _, hnew, by simpa using h1⟩
    · obtain ⟨c, ty', fz, e1, e2⟩ := hag b o v h2
      exact ⟨c, ty', fz, (hold b (agree_lt hag h2)).trans e1, e2⟩
  · obtain ⟨vs', ty', q1, q2⟩ := hj.1 b o ho
    exact ⟨vs', ty', (hold b (Array.getElem?_eq_some_iff.1 q1).1).trans q1, q2⟩
  · rcases hG b o v hv with ⟨rfl, h1⟩ | ⟨_, h2⟩
    · rw [hnew] at hh
      injection hh with hh; injection hh with _ _ e3; exact e3.symm
    · have := agree_lt hag h2; omega
section
variable {E : Env} (hE : E.P = Go.Proofs.Tryz.prog) (hZ : ∀ w, E.K w → KZ w)
include hE hZ
omit hZ in
theorem splitM_calls (hM : ∀ w, E.K w → KM w) (s sep : ByteArray) (hs : s.size < 4294967281) (h1 : 1 ≤ sep.size) : ∀ w, E.K w → Calls E.P 138 [Value.string s, .string sep].toArray w fun e w' => e = .returned (.slice (some ⟨w.heap.size, 0, none⟩) (spB sep s).length (spB sep s).length) ∧ w' = w.alloc (.cells ((spB sep s).map Value.string).toArray 9) := by
  intro w hw
  rw [hE]
  obtain ⟨m, hm⟩ := hM w hw
  refine (Go.Proofs.Tryz.strings_Split s sep m w hs hm h1).mono ?_
  rintro e w' ⟨rfl, rfl⟩
  rw [spB_len h1]
  exact ⟨rfl, rfl⟩
omit hZ in
theorem splitM_fx (hM : ∀ w, E.K w → KM w) (s sep : ByteArray) (hs : s.size < 4294967281) (h1 : 1 ≤ sep.size) : Fx E 138 [] [.lit (.string s), .lit (.string sep)] [] (.sl ⟨.no, true⟩ 1 ((spB sep s).map fun x => .lit (.string x))) :=
  Fx_strs (args := [.string s, .string sep]) (splitM_calls hE hM s sep hs h1)
theorem split_fx (s sep : ByteArray) (hs : s.size < 4294967281) (h1 : 1 ≤ sep.size) : Fx E 138 [] [.lit (.string s), .lit (.string sep)] [] (.sl ⟨.no, true⟩ 1 ((spB sep s).map fun x => .lit (.string x))) := splitM_fx hE (fun w h => (hZ w h).km) s sep hs h1
/-- the texts put together -/
def joinB (xs : List ByteArray) (sep : ByteArray) : ByteArray := ⟨(Lib.join (xs.map (·.data.toList)) sep.data.toList).toArray⟩
omit hZ in
theorem join_fx (xs : List ByteArray) (sep : ByteArray) (hn : xs.length ≤ 140737488355328) (hl : (joinB xs sep).size ≤ 140737488355328) : Fx E 54 [] [.sl ro 1 (xs.map fun x => .lit (.string x)), .lit (.string sep)] [] (.lit (.string (joinB xs sep))) := by
  refine Fx_row (args := [.string sep]) rfl (fun A cap w hw hx => ?_) (fun b o cap w hw hb hc hcell => ?_)
  · subst hx
    rw [hE]
    refine (Go.Proofs.Tryz.strings_Join_none A cap sep w).mono ?_
    rintro e w' ⟨rfl, rfl⟩
    exact ⟨rfl, Below.refl _ _⟩
  · rw [hE]
    refine (Go.Proofs.Tryz.strings_Join b o cap xs sep w hcell hb hn hc (by rw [show (Lib.join (xs.map (·.data.toList)) sep.data.toList).length = (joinB xs sep).size from List.size_toArray.symm]; exact hl)).mono ?_
    rintro e w' ⟨rfl, hb⟩
    exact ⟨rfl, hb⟩
end
end Go.Proofs.YticockdhfglolaaGreatDoor.Vm
namespace Go.Proofs.YticockdhfglolaaGreatDoor.Vm
open Go Go.RowKit
set_option linter.unusedVariables false
set_option linter.unusedSimpArgs false
theorem Fin_wkz {K : Nat → Prop} {rs : List VR} {r r' : AV} {ks : List Nat} {s s1 : AS} (hw : Wk K s1 s) (h : resVs s1 rs = some [r']) (h2 : r = reC ks r') : FinK K rs r ks .ret s := ⟨.inr rfl, s1, hw, _, h, h2⟩
theorem one_size (c : UInt8) : (one c).size = 1 := rfl
theorem by8_nil : (by8 "").size = 0 := by decide +kernel
theorem ba_nil : by8 "" = ByteArray.empty := by decide +kernel
theorem app_nil (a : ByteArray) : a ++ by8 "" = a := by rw [ba_nil]; exact ByteArray.append_empty
theorem nil_app (a : ByteArray) : by8 "" ++ a = a := by rw [ba_nil]; exact ByteArray.empty_append
theorem size_nil {s : ByteArray} (h : s.size = 0) : s = by8 "" := ba_ext (by
  have : s.data.toList.length = 0 := by simpa using h
  rw [List.eq_nil_of_length_eq_zero this]; decide +kernel)
theorem drop_bt {s : ByteArray} {i : Nat} (h : i < s.size) : s.data.toList.drop i = bt s i :: s.data.toList.drop (i + 1) := by
  have h3 := bt_get h
  rw [List.drop_eq_getElem_cons (by simpa using h)]
  rw [List.getElem?_eq_getElem (by simpa using h)] at h3
  rw [Option.some.inj h3]
/-- the byte stands nowhere in the text -/
def free (c : UInt8) (s : ByteArray) : Prop := ∀ j, j < s.size → bt s j ≠ c
theorem free_iff {c : UInt8} {s : ByteArray} : free c s ↔ ∀ b ∈ s.data.toList, b ≠ c := by
  constructor
  · intro h b hb
    obtain ⟨j, hj, rfl⟩ := List.getElem_of_mem hb
    have hj' : j < s.size := by simpa using hj
    have h2 := bt_get hj'
    rw [List.getElem?_eq_getElem hj] at h2
    rw [Option.some.inj h2]
    exact h j hj'
  · intro h j hj
    exact h _ (List.mem_of_getElem? (bt_get hj))
theorem free_app {c : UInt8} {a b : ByteArray} : free c (a ++ b) ↔ free c a ∧ free c b := by
  simp only [free_iff, ByteArray.data_append, Array.toList_append, List.mem_append]
  exact ⟨fun h => ⟨fun x hx => h x (.inl hx), fun x hx => h x (.inr hx)⟩, fun h x hx => hx.elim (h.1 x) (h.2 x)⟩
theorem bt_appL {a b : ByteArray} {j : Nat} (h : j < a.size) : bt (a ++ b) j = bt a j := by
  have h1 := bt_get (s := a ++ b) (i := j) (by rw [ByteArray.size_append]; omega)
  have h2 := bt_get h
  rw [ByteArray.data_append, Array.toList_append, List.getElem?_append_left (by simpa using h), h2] at h1
  exact (Option.some.inj h1).symm
theorem bt_appR {a b : ByteArray} {j : Nat} (h : j < b.size) : bt (a ++ b) (a.size + j) = bt b j := by
  have h1 := bt_get (s := a ++ b) (i := a.size + j) (by rw [ByteArray.size_append]; omega)
  have h2 := bt_get h
  have hz : a.data.toList.length = a.size := by simp
  rw [ByteArray.data_append, Array.toList_append, List.getElem?_append_right (by omega), hz, Nat.add_sub_cancel_left, h2] at h1
  exact (Option.some.inj h1).symm
theorem ext_appL (a b : ByteArray) : (a ++ b).extract 0 a.size = a := by
  refine ba_ext ?_
  have hz : a.data.toList.length = a.size := by simp
  simp [ByteArray.data_extract, ByteArray.data_append]
  exact List.take_of_length_le (by simp)
theorem ext_appR (a b : ByteArray) (n : Nat) (h : n = (a ++ b).size) : (a ++ b).extract a.size n = b := by
  refine ba_ext ?_
  subst h
  rw [ByteArray.size_append]
  have hz : a.data.size = a.size := rfl
  have hz2 : b.data.size = b.size := rfl
  simp [ByteArray.data_extract, ByteArray.data_append]
  rw [List.drop_of_length_le (by simp), List.take_nil, List.nil_append]
  exact List.take_of_length_le (by simp)
theorem ext_cut {s : ByteArray} {i : Nat} (h : i < s.size) : s.extract 0 i ++ one (bt s i) ++ s.extract (i + 1) s.size = s := by
  refine ba_ext ?_
  have h3 := drop_bt h
  have hz : s.data.toList.length = s.size := by simp
  simp only [ByteArray.data_append, Array.toList_append, ByteArray.data_extract, Array.toList_extract, one_list, List.extract_eq_take_drop, Nat.sub_zero, List.drop_zero]
  rw [List.take_of_length_le (l := List.drop (i + 1) s.data.toList) (by simp), List.append_assoc, List.singleton_append, ← h3, List.take_append_drop]
theorem joinB_nil (sep : ByteArray) : joinB [] sep = by8 "" := ba_nil.symm
theorem joinB_list (xs : List ByteArray) (sep : ByteArray) : (joinB xs sep).data.toList = Lib.join (xs.map (·.data.toList)) sep.data.toList := rfl
theorem joinB_one (x sep : ByteArray) : joinB [x] sep = x := ba_ext (by rw [joinB_list]; simp [Lib.join_one])
theorem joinB_cons (x y : ByteArray) (r : List ByteArray) (sep : ByteArray) : joinB (x :: y :: r) sep = x ++ sep ++ joinB (y :: r) sep := by
  refine ba_ext ?_
  simp only [ByteArray.data_append, Array.toList_append, joinB_list, List.map_cons, Lib.join_cons, Lib.joinTail, List.flatten_cons, List.append_assoc]
theorem joinB_cons' (x sep : ByteArray) {r : List ByteArray} (h : r ≠ []) : joinB (x :: r) sep = x ++ sep ++ joinB r sep := by
  cases r with
  | nil => exact absurd rfl h
  | cons y r => exact joinB_cons x y r sep
theorem joinB_snoc (sep x : ByteArray) : ∀ {l : List ByteArray}, l ≠ [] → joinB (l ++ [x]) sep = joinB l sep ++ sep ++ x
  | [], h => absurd rfl h
  | [y], _ => by
    rw [List.singleton_append, joinB_cons, joinB_one, joinB_one]
  | y :: z :: r, _ => by
    have := joinB_snoc sep x (l := z :: r) (by simp)
    rw [List.cons_append, joinB_cons' _ _ (by simp), this, joinB_cons]
    simp [ByteArray.append_assoc]
theorem spl_ne (c : UInt8) (s : ByteArray) : spl c s ≠ [] := by
  have := spB_len (sep := one c) (s := s) (Nat.le_refl _)
  intro e
  rw [show spB (one c) s = spl c s from rfl, e] at this
  simp at this
theorem join_spl (c : UInt8) : ∀ (n : Nat) (s : ByteArray), s.size ≤ n → joinB (spl c s) (one c) = s
  | n, s, hn => by
    rcases idx_cases c s with ⟨_, h⟩ | ⟨i, hi, hb, h, _⟩
    · rw [spl_none h, joinB_one]
    · cases n with
      | zero => omega
      | succ n =>
        rw [spl_hit hi hb h, joinB_cons' _ _ (spl_ne _ _), join_spl c n _ (by rw [ext_size]; omega), ← hb]
        exact ext_cut hi
theorem spl_join (c : UInt8) : ∀ (ps : List ByteArray), ps ≠ [] → (∀ p ∈ ps, free c p) → spl c (joinB ps (one c)) = ps
  | [], h, _ => absurd rfl h
  | [x], _, h => by rw [joinB_one]; exact spl_none (h x (by simp))
  | x :: y :: r, _, h => by
    have ih := spl_join c (y :: r) (by simp) fun p hp => h p (by simp [hp])
    have hx := h x (by simp)
    rw [joinB_cons]
    have hz : (x ++ one c ++ joinB (y :: r) (one c)).size = x.size + 1 + (joinB (y :: r) (one c)).size := by
      rw [ByteArray.size_append, ByteArray.size_append, one_size]
    rw [ByteArray.append_assoc] at hz ⊢
    have e1 : bt (x ++ (one c ++ joinB (y :: r) (one c))) x.size = c := by
      have := bt_appR (a := x) (b := one c ++ joinB (y :: r) (one c)) (j := 0) (by rw [ByteArray.size_append, one_size]; omega)
      rw [Nat.add_zero] at this
      rw [this, bt_appL (by rw [one_size]; omega)]
      rfl
    rw [spl_hit (i := x.size) (by omega) e1 fun j hj => by rw [bt_appL hj]; exact hx j hj, ext_appL]
    have e2 : (x ++ (one c ++ joinB (y :: r) (one c))).extract (x.size + 1) (x ++ (one c ++ joinB (y :: r) (one c))).size = joinB (y :: r) (one c) := by
      rw [← ByteArray.append_assoc]
      have := ext_appR (x ++ one c) (joinB (y :: r) (one c)) _ rfl
      rw [ByteArray.size_append, one_size] at this
      exact this
    rw [e2, ih]
theorem spl_free (c : UInt8) : ∀ (n : Nat) (s : ByteArray), s.size ≤ n → ∀ p ∈ spl c s, free c p
  | n, s, hn, p, hp => by
    rcases idx_cases c s with ⟨_, h⟩ | ⟨i, hi, hb, h, _⟩
    · rw [spl_none h] at hp
      rw [List.mem_singleton.1 hp]; exact h
    · cases n with
      | zero => omega
      | succ n =>
        rw [spl_hit hi hb h] at hp
        rcases List.mem_cons.1 hp with rfl | hp
        · intro j hj
          rw [ext_size] at hj
          have := bt_ext (s := s) (a := 0) (b := i) (j := j) (by omega)
          rw [this, Nat.zero_add]
          exact h j (by omega)
        · exact spl_free c n _ (by rw [ext_size]; omega) p hp
theorem free_dec {c : UInt8} {s : ByteArray} (h : s.data.toList.all (fun b => b != c) = true) : free c s := by
  rw [free_iff]
  intro b hb
  have := List.all_eq_true.1 h b hb
  simpa using this
end Go.Proofs.YticockdhfglolaaGreatDoor.Vm
namespace Go.Proofs.YticockdhfglolaaGreatDoor.Vm
open Go Go.RowKit
set_option linter.unusedVariables false
set_option linter.unusedSimpArgs false
def v170 : VC := .seq (.reg false [⟨some 2, .as (.c (.lit (.bool false))), none⟩] [2]) (.seq (.reg false [⟨some 3, .mv (.t 0), none⟩, ⟨some 4, .cvI .i64 (.t 3), none⟩, ⟨some 5, .call false 82 [(.t 4), (.c (.lit (.int .i64 97))), (.c (.lit (.int .i64 122)))], none⟩, ⟨some 6, .mv (.t 5), none⟩, ⟨some 7, .mv (.t 0), (some (6, false))⟩, ⟨some 8, .cvI .i64 (.t 7), (some (6, false))⟩, ⟨some 9, .call false 82 [(.t 8), (.c (.lit (.int .i64 48))), (.c (.lit (.int .i64 57)))], (some (6, false))⟩, ⟨some 10, .pick (.t 6) (.c (.lit (.bool true))) (.t 9), none⟩, ⟨some 2, .as (.t 10), none⟩] [3, 4, 5, 6, 7, 8, 9, 10]) (.ret))
theorem is170 : Is Go.Proofs.Tryz.prog 170 11 v170 [.t 2] := ⟨Go.Proofs.Tryz.f170, dl [(0, [2]), (1, [3, 4, 5, 6, 7, 8, 9, 10])], Go.Proofs.Tryz.func170, by kernel_rfl, by kernel_rfl, by kernel_rfl, by kernel_rfl⟩
def v225 : VC := .seq (.reg false [⟨some 2, .as (.c (.lit (.bool false))), none⟩] [2]) (.seq (.reg false [⟨some 3, .mv (.t 0), none⟩, ⟨some 4, .cvI .i64 (.t 3), none⟩, ⟨some 5, .call false 82 [(.t 4), (.c (.lit (.int .i64 65))), (.c (.lit (.int .i64 90)))], none⟩, ⟨some 2, .as (.t 5), none⟩] [3, 4, 5]) (.ret))
theorem is225 : Is Go.Proofs.Tryz.prog 225 6 v225 [.t 2] := ⟨Go.Proofs.Tryz.f225, dl [(0, [2]), (1, [3, 4, 5])], Go.Proofs.Tryz.func225, by kernel_rfl, by kernel_rfl, by kernel_rfl, by kernel_rfl⟩
def v174 : VC := .seq (.reg false [⟨some 2, .as (.c (.lit (.bool false))), none⟩] [2]) (.seq (.reg false [⟨some 3, .mv (.t 0), none⟩, ⟨some 4, .bin .geq 0 (.t 3) (.c (.lit (.int .u8 97))), none⟩, ⟨some 5, .mv (.t 4), none⟩, ⟨some 6, .mv (.t 0), (some (5, true))⟩, ⟨some 7, .bin .leq 0 (.t 6) (.c (.lit (.int .u8 122))), (some (5, true))⟩, ⟨some 8, .pick (.t 5) (.t 7) (.c (.lit (.bool false))), none⟩, ⟨some 2, .as (.t 8), none⟩] [3, 4, 5, 6, 7, 8]) (.ret))
theorem is174 : Is Go.Proofs.Tryz.prog 174 9 v174 [.t 2] := ⟨Go.Proofs.Tryz.f174, dl [(0, [2]), (1, [3, 4, 5, 6, 7, 8])], Go.Proofs.Tryz.func174, by kernel_rfl, by kernel_rfl, by kernel_rfl, by kernel_rfl⟩
def v175 : VC := .seq (.reg false [⟨some 2, .as (.c (.lit (.bool false))), none⟩] [2]) (.seq (.reg false [⟨some 3, .mv (.t 0), none⟩, ⟨some 4, .bin .geq 0 (.t 3) (.c (.lit (.int .u8 48))), none⟩, ⟨some 5, .mv (.t 4), none⟩, ⟨some 6, .mv (.t 0), (some (5, true))⟩, ⟨some 7, .bin .leq 0 (.t 6) (.c (.lit (.int .u8 57))), (some (5, true))⟩, ⟨some 8, .pick (.t 5) (.t 7) (.c (.lit (.bool false))), none⟩, ⟨some 2, .as (.t 8), none⟩] [3, 4, 5, 6, 7, 8]) (.ret))
theorem is175 : Is Go.Proofs.Tryz.prog 175 9 v175 [.t 2] := ⟨Go.Proofs.Tryz.f175, dl [(0, [2]), (1, [3, 4, 5, 6, 7, 8])], Go.Proofs.Tryz.func175, by kernel_rfl, by kernel_rfl, by kernel_rfl, by kernel_rfl⟩
def v231 : VC := .seq (.reg false [⟨some 2, .as (.c (.lit (.bool false))), none⟩] [2]) (.seq (.reg false [⟨some 3, .mv (.t 0), none⟩, ⟨some 4, .call false 174 [(.t 3)], none⟩, ⟨some 5, .mv (.t 4), none⟩, ⟨some 6, .mv (.t 0), (some (5, false))⟩, ⟨some 7, .bin .geq 0 (.t 6) (.c (.lit (.int .u8 65))), (some (5, false))⟩, ⟨some 8, .mv (.t 7), (some (5, false))⟩, ⟨some 9, .mv (.t 0), (some (8, true))⟩, ⟨some 10, .bin .leq 0 (.t 9) (.c (.lit (.int .u8 90))), (some (8, true))⟩, ⟨some 11, .pick (.t 8) (.t 10) (.c (.lit (.bool false))), (some (5, false))⟩, ⟨some 12, .pick (.t 5) (.c (.lit (.bool true))) (.t 11), none⟩, ⟨some 2, .as (.t 12), none⟩] [3, 4, 5, 6, 7, 8, 9, 10, 11, 12]) (.ret))
theorem is231 : Is Go.Proofs.Tryz.prog 231 13 v231 [.t 2] := ⟨Go.Proofs.Tryz.f231, dl [(0, [2]), (1, [3, 4, 5, 6, 7, 8, 9, 10, 11, 12])], Go.Proofs.Tryz.func231, by kernel_rfl, by kernel_rfl, by kernel_rfl, by kernel_rfl⟩
def v146 : VC := .seq (.reg false [⟨some 4, .as (.c (.lit (.bool false))), none⟩] [4]) (.seq (.seq (.reg false [⟨some 6, .mv (.t 0), none⟩, ⟨some 7, .len true (.t 6), none⟩, ⟨some 8, .mv (.c (.lit (.int .i64 0))), none⟩] [6]) (.block 0 (.loop (.seq (.reg false [⟨some 9, .bin .lss 0 (.t 8) (.t 7), none⟩] []) (.seq (.cond (.t 9) (.skip) (.exit 0)) (.seq (.block 1 (.seq (.reg false [⟨some 10, .mv (.t 8), none⟩, ⟨some 5, .as (.t 10), none⟩] [10]) (.seq (.reg false [⟨some 11, .mv (.t 1), none⟩, ⟨some 12, .mv (.t 0), none⟩, ⟨some 13, .mv (.t 5), none⟩, ⟨some 14, .idx (.t 12) (.t 13), none⟩, ⟨some 15, .callv false (.t 11) [(.t 14)], none⟩, ⟨some 16, .un .not (.t 15), none⟩] [11, 12, 13, 14, 15]) (.cond (.t 16) (.seq (.reg false [⟨some 4, .as (.c (.lit (.bool false))), none⟩] []) (.ret)) (.skip))))) (.reg false [⟨some 17, .bin .add 0 (.t 8) (.c (.lit (.int .i64 1))), none⟩, ⟨some 8, .mv (.t 17), none⟩] [17]))))))) (.seq (.reg false [⟨some 4, .as (.c (.lit (.bool true))), none⟩] []) (.ret)))
theorem is146 : Is Go.Proofs.Tryz.prog 146 18 v146 [.t 4] := ⟨Go.Proofs.Tryz.f146, dl [(0, [4]), (1, [6]), (3, [10]), (4, [11, 12, 13, 14, 15]), (6, [17])], Go.Proofs.Tryz.func146, by kernel_rfl, by kernel_rfl, by kernel_rfl, by kernel_rfl⟩
def v173 : VC := .seq (.reg false [⟨some 2, .as (.c (.lit (.bool false))), none⟩] [2]) (.seq (.reg false [⟨some 3, .mv (.t 0), none⟩, ⟨some 4, .call false 174 [(.t 3)], none⟩, ⟨some 5, .mv (.t 4), none⟩, ⟨some 6, .mv (.t 0), (some (5, false))⟩, ⟨some 7, .call false 175 [(.t 6)], (some (5, false))⟩, ⟨some 8, .pick (.t 5) (.c (.lit (.bool true))) (.t 7), none⟩, ⟨some 9, .mv (.t 8), none⟩, ⟨some 10, .mv (.t 0), (some (9, false))⟩, ⟨some 11, .bin .eql 0 (.t 10) (.c (.lit (.int .u8 46))), (some (9, false))⟩, ⟨some 12, .pick (.t 9) (.c (.lit (.bool true))) (.t 11), none⟩, ⟨some 13, .mv (.t 12), none⟩, ⟨some 14, .mv (.t 0), (some (13, false))⟩, ⟨some 15, .bin .eql 0 (.t 14) (.c (.lit (.int .u8 95))), (some (13, false))⟩, ⟨some 16, .pick (.t 13) (.c (.lit (.bool true))) (.t 15), none⟩, ⟨some 17, .mv (.t 16), none⟩, ⟨some 18, .mv (.t 0), (some (17, false))⟩, ⟨some 19, .bin .eql 0 (.t 18) (.c (.lit (.int .u8 45))), (some (17, false))⟩, ⟨some 20, .pick (.t 17) (.c (.lit (.bool true))) (.t 19), none⟩, ⟨some 2, .as (.t 20), none⟩] [3, 4, 5, 6, 7, 8, 9, 10, 11, 12, 13, 14, 15, 16, 17, 18, 19, 20]) (.ret))
theorem is173 : Is Go.Proofs.Tryz.prog 173 21 v173 [.t 2] := ⟨Go.Proofs.Tryz.f173, dl [(0, [2]), (1, [3, 4, 5, 6, 7, 8, 9, 10, 11, 12, 13, 14, 15, 16, 17, 18, 19, 20])], Go.Proofs.Tryz.func173, by kernel_rfl, by kernel_rfl, by kernel_rfl, by kernel_rfl⟩
def v230 : VC := .seq (.reg false [⟨some 2, .as (.c (.lit (.bool false))), none⟩] [2]) (.seq (.reg false [⟨some 3, .mv (.t 0), none⟩, ⟨some 4, .call false 231 [(.t 3)], none⟩, ⟨some 5, .mv (.t 4), none⟩, ⟨some 6, .mv (.t 0), (some (5, false))⟩, ⟨some 7, .call false 175 [(.t 6)], (some (5, false))⟩, ⟨some 8, .pick (.t 5) (.c (.lit (.bool true))) (.t 7), none⟩, ⟨some 9, .mv (.t 8), none⟩, ⟨some 10, .mv (.t 0), (some (9, false))⟩, ⟨some 11, .bin .eql 0 (.t 10) (.c (.lit (.int .u8 45))), (some (9, false))⟩, ⟨some 12, .pick (.t 9) (.c (.lit (.bool true))) (.t 11), none⟩, ⟨some 2, .as (.t 12), none⟩] [3, 4, 5, 6, 7, 8, 9, 10, 11, 12]) (.ret))
theorem is230 : Is Go.Proofs.Tryz.prog 230 13 v230 [.t 2] := ⟨Go.Proofs.Tryz.f230, dl [(0, [2]), (1, [3, 4, 5, 6, 7, 8, 9, 10, 11, 12])], Go.Proofs.Tryz.func230, by kernel_rfl, by kernel_rfl, by kernel_rfl, by kernel_rfl⟩
def v209 : VC := .seq (.reg false [⟨some 2, .as (.c (.lit (.bool false))), none⟩] [2]) (.seq (.reg false [⟨some 3, .mv (.t 0), none⟩, ⟨some 4, .bin .neq 0 (.t 3) (.c (.lit (.string (by8 "")))), none⟩, ⟨some 5, .mv (.t 4), none⟩, ⟨some 6, .mv (.t 0), (some (5, true))⟩, ⟨some 7, .call false 146 [(.t 6), (.c (.fn 175 []))], (some (5, true))⟩, ⟨some 8, .pick (.t 5) (.t 7) (.c (.lit (.bool false))), none⟩, ⟨some 2, .as (.t 8), none⟩] [3, 4, 5, 6, 7, 8]) (.ret))
theorem is209 : Is Go.Proofs.Tryz.prog 209 9 v209 [.t 2] := ⟨Go.Proofs.Tryz.f209, dl [(0, [2]), (1, [3, 4, 5, 6, 7, 8])], Go.Proofs.Tryz.func209, by kernel_rfl, by kernel_rfl, by kernel_rfl, by kernel_rfl⟩
def v226 : VC := .seq (.reg false [⟨some 2, .as (.c (.lit (.bool false))), none⟩] [2]) (.seq (.seq (.reg false [⟨some 3, .as (.c (.lit (.int .i64 0))), none⟩] []) (.block 0 (.loop (.seq (.seq (.reg false [⟨some 4, .mv (.t 3), none⟩, ⟨some 5, .mv (.t 0), none⟩, ⟨some 6, .len true (.t 5), none⟩, ⟨some 7, .bin .lss 0 (.t 4) (.t 6), none⟩] [4, 5, 6]) (.cond (.t 7) (.skip) (.exit 0))) (.seq (.block 1 (.seq (.reg false [⟨some 10, .mv (.t 0), none⟩, ⟨some 11, .mv (.t 3), none⟩, ⟨some 12, .idx (.t 10) (.t 11), none⟩, ⟨some 13, .cvI .i64 (.t 12), none⟩, ⟨some 14, .call false 82 [(.t 13), (.c (.lit (.int .i64 48))), (.c (.lit (.int .i64 57)))], none⟩, ⟨some 15, .un .not (.t 14), none⟩] [10, 11, 12, 13, 14]) (.cond (.t 15) (.seq (.reg false [⟨some 2, .as (.c (.lit (.bool false))), none⟩] []) (.ret)) (.skip)))) (.reg false [⟨some 8, .mv (.t 3), none⟩, ⟨some 9, .bin .add 0 (.t 8) (.c (.lit (.int .i64 1))), none⟩, ⟨some 3, .as (.t 9), none⟩] [8, 9])))))) (.seq (.reg false [⟨some 16, .mv (.t 0), none⟩, ⟨some 17, .bin .neq 0 (.t 16) (.c (.lit (.string (by8 "")))), none⟩, ⟨some 2, .as (.t 17), none⟩] [16, 17]) (.ret)))
theorem is226 : Is Go.Proofs.Tryz.prog 226 18 v226 [.t 2] := ⟨Go.Proofs.Tryz.f226, dl [(0, [2]), (2, [4, 5, 6]), (4, [10, 11, 12, 13, 14]), (3, [8, 9]), (6, [16, 17])], Go.Proofs.Tryz.func226, by kernel_rfl, by kernel_rfl, by kernel_rfl, by kernel_rfl⟩
def isB (u : UInt8) (n : Int) : Bool := decide ((u.toNat : Int) = n)
def lowB (u : UInt8) : Bool := inR u.toNat 97 122
def grB (u : UInt8) : Bool := inR u.toNat 65 90
def letB (u : UInt8) : Bool := lowB u || digB u
def nameB (u : UInt8) : Bool := letB u || isB u 46 || isB u 95 || isB u 45
def safeB (u : UInt8) : Bool := letB u || grB u || isB u 46 || isB u 95 || isB u 45 || isB u 126
def preB (u : UInt8) : Bool := letB u || grB u || isB u 45
def allB (p : UInt8 → Bool) (s : ByteArray) : Bool := (List.range s.size).all fun i => p (bt s i)
theorem allB_false {p : UInt8 → Bool} {s : ByteArray} {i : Nat} (h : i < s.size) (hp : p (bt s i) = false) : allB p s = false := by
  unfold allB; rw [List.all_eq_false]; exact ⟨i, List.mem_range.2 h, by simp [hp]⟩
theorem allB_true {p : UInt8 → Bool} {s : ByteArray} (h : ∀ i, i < s.size → p (bt s i) = true) : allB p s = true := by
  unfold allB; rw [List.all_eq_true]; exact fun i hi => h i (List.mem_range.1 hi)
theorem allB_iff {p : UInt8 → Bool} {s : ByteArray} : allB p s = true ↔ ∀ i, i < s.size → p (bt s i) = true := by
  unfold allB; rw [List.all_eq_true]; exact ⟨fun h i hi => h i (List.mem_range.2 hi), fun h i hi => h i (List.mem_range.1 hi)⟩
/-- a text of digits, one at least -/
def numB (s : ByteArray) : Bool := decide (s ≠ by8 "") && allB digB s
section
variable {E : Env} (hE : E.P = Go.Proofs.Tryz.prog)
include hE
theorem l01Letter_fx (u : UInt8) : Fx E 170 [] [.lit (.int .u8 u.toNat)] [] (.lit (.bool (letB u))) := by
  have hu := u.toNat_lt
  refine (is170.to hE).fx [] (by simp) rfl rfl ?_
  simp [v170]
  rw [wrap_i64 (by omega) (by omega)]
  refine vcall_go (l01In_fx hE u.toNat 97 122) (by simp) (by simp) (by simp) (by simp) ?_
  simp
  cases c1 : inR u.toNat 97 122
  · simp
    rw [wrap_i64 (by omega) (by omega)]
    refine vcall_go (l01In_fx hE u.toNat 48 57) (by simp) (by simp) (by simp) (by simp) ?_
    simp
    exact Fin_ret rfl (by simp [letB, lowB, digB, c1, reC])
  · simp
    exact Fin_ret rfl (by simp [letB, lowB, c1, reC])
theorem l01Great_fx (u : UInt8) : Fx E 225 [] [.lit (.int .u8 u.toNat)] [] (.lit (.bool (grB u))) := by
  have hu := u.toNat_lt
  refine (is225.to hE).fx [] (by simp) rfl rfl ?_
  simp [v225]
  rw [wrap_i64 (by omega) (by omega)]
  refine vcall_go (l01In_fx hE u.toNat 65 90) (by simp) (by simp) (by simp) (by simp) ?_
  simp
  exact Fin_ret rfl rfl
theorem isDigit_fx (u : UInt8) : Fx E 175 [] [.lit (.int .u8 u.toNat)] [] (.lit (.bool (digB u))) := by
  refine (is175.to hE).fx [] (by simp) rfl rfl ?_
  simp [v175]
  by_cases c1 : (48 : Int) ≤ u.toNat
  · simp [c1]
    exact Fin_ret rfl (by simp [digB, inR, c1, reC])
  · simp [c1]
    exact Fin_ret rfl (by simp [digB, inR, c1, reC])
theorem isLower_fx (u : UInt8) : Fx E 174 [] [.lit (.int .u8 u.toNat)] [] (.lit (.bool (lowB u))) := by
  refine (is174.to hE).fx [] (by simp) rfl rfl ?_
  simp [v174]
  by_cases c1 : (97 : Int) ≤ u.toNat
  · simp [c1]
    exact Fin_ret rfl (by simp [lowB, inR, c1, reC])
  · simp [c1]
    exact Fin_ret rfl (by simp [lowB, inR, c1, reC])
theorem isLetter_fx (u : UInt8) : Fx E 231 [] [.lit (.int .u8 u.toNat)] [] (.lit (.bool (lowB u || grB u))) := by
  refine (is231.to hE).fx [] (by simp) rfl rfl ?_
  simp [v231]
  refine vcall_go (isLower_fx hE u) (by simp) (by simp) (by simp) (by simp) ?_
  simp
  cases c1 : lowB u
  · simp
    by_cases c2 : (65 : Int) ≤ u.toNat
    · simp [c2]
      exact Fin_ret rfl (by simp [grB, inR, c2, reC])
    · simp [c2]
      exact Fin_ret rfl (by simp [grB, inR, c2, reC])
  · simp
    exact Fin_ret rfl (by simp [reC])
theorem nameOk1_fx (u : UInt8) : Fx E 173 [] [.lit (.int .u8 u.toNat)] [] (.lit (.bool (nameB u))) := by
  refine (is173.to hE).fx [] (by simp) rfl rfl ?_
  simp [v173]
  refine vcall_go (isLower_fx hE u) (by simp) (by simp) (by simp) (by simp) ?_
  simp
  cases c1 : lowB u
  · simp
    refine vcall_go (isDigit_fx hE u) (by simp) (by simp) (by simp) (by simp) ?_
    simp
    cases c2 : digB u
    · simp
      by_cases c3 : (u.toNat : Int) = 46
      · simp [c3]
        exact Fin_ret rfl (by simp [nameB, isB, c3, reC])
      · simp [c3]
        by_cases c4 : (u.toNat : Int) = 95
        · simp [c4]
          exact Fin_ret rfl (by simp [nameB, isB, c4, reC])
        · simp [c4]
          by_cases c5 : (u.toNat : Int) = 45
          · simp [c5]
            exact Fin_ret rfl (by simp [nameB, isB, c5, reC])
          · simp [c5]
            exact Fin_ret rfl (by simp [nameB, letB, isB, c1, c2, c3, c4, c5, reC])
    · simp
      exact Fin_ret rfl (by simp [nameB, letB, c1, c2, reC])
  · simp
    exact Fin_ret rfl (by simp [nameB, letB, c1, reC])
theorem verOk1_fx (u : UInt8) : Fx E 230 [] [.lit (.int .u8 u.toNat)] [] (.lit (.bool (preB u))) := by
  refine (is230.to hE).fx [] (by simp) rfl rfl ?_
  simp [v230]
  refine vcall_go (isLetter_fx hE u) (by simp) (by simp) (by simp) (by simp) ?_
  simp
  cases c1 : lowB u
  · cases c0 : grB u
    · simp
      refine vcall_go (isDigit_fx hE u) (by simp) (by simp) (by simp) (by simp) ?_
      simp
      cases c2 : digB u
      · simp
        by_cases c5 : (u.toNat : Int) = 45
        · simp [c5]
          exact Fin_ret rfl (by simp [preB, isB, c5, reC])
        · simp [c5]
          exact Fin_ret rfl (by simp [preB, letB, isB, c0, c1, c2, c5, reC])
      · simp
        exact Fin_ret rfl (by simp [preB, letB, c1, c2, reC])
    · simp
      exact Fin_ret rfl (by simp [preB, c0, reC])
  · simp
    exact Fin_ret rfl (by simp [preB, letB, c1, reC])
theorem all_fx {g : Nat} {p : UInt8 → Bool} (hg : fnOk E.P g = true) (hp : ∀ u : UInt8, Fx E g [] [.lit (.int .u8 u.toNat)] [] (.lit (.bool (p u)))) (s : ByteArray) (hs : s.size ≤ 9223372036854775806) : Fx E 146 [] [.lit (.string s), .fn g []] [] (.lit (.bool (allB p s))) := by
  refine (is146.to hE).fx [] (by simp) rfl rfl ?_
  simp [v146]
  refine X_loop (τ := Nat) (fun i => ⟨[(0, .lit (.string s)), (1, .fn g []), (7, .lit (.int .i64 s.size)), (8, .lit (.int .i64 i))], []⟩) (fun i => i ≤ s.size ∧ ∀ k, k < i → p (bt s k) = true) (fun i => s.size - i) 0 (by simp) (Wk.both (by simp [wkL, wkV.same]) trivial) ?_
  rintro i ⟨hi, hall⟩
  simp
  by_cases hlt : i < s.size
  · simp [hlt, hg]
    refine vcall_go (hp (bt s i)) (by simp) (by simp) (by simp) (by simp) ?_
    simp
    by_cases c1 : p (bt s i) = true
    · simp [c1]
      refine ⟨i + 1, ⟨by omega, fun k hk => ?_⟩, by omega, Wk.both (by simp [wkL, wkV.same]; rw [wrapN (by omega)]; exact wkV.same _) trivial⟩
      rcases Nat.lt_succ_iff_lt_or_eq.1 hk with h | rfl
      · exact hall k h
      · exact c1
    · have c2 : p (bt s i) = false := by simpa using c1
      simp [c2]
      exact Fin_ret rfl (by rw [allB_false hlt c2]; rfl)
  · simp [hlt]
    exact Fin_ret rfl (by rw [allB_true fun k hk => hall k (by omega)]; rfl)
theorem isNumber_fx (s : ByteArray) (hs : s.size ≤ 9223372036854775806) : Fx E 209 [] [.lit (.string s)] [] (.lit (.bool (numB s))) := by
  refine (is209.to hE).fx [] (by simp) rfl rfl ?_
  simp [v209]
  by_cases c1 : s = by8 ""
  · simp [c1]
    exact Fin_ret rfl (by simp [numB, reC])
  · simp [c1]
    refine vcall_go (all_fx hE (by rw [hE]; kernel_rfl) (fun u => isDigit_fx hE u) s hs) (by simp; rfl) (by simp; rfl) (by simp; rfl) (by simp) ?_
    simp
    exact Fin_ret rfl (by simp [numB, c1, reC])
theorem l02Digits_fx (s : ByteArray) (hs : s.size ≤ 9223372036854775806) : Fx E 226 [] [.lit (.string s)] [] (.lit (.bool (numB s))) := by
  refine (is226.to hE).fx [] (by simp) rfl rfl ?_
  simp [v226]
  refine X_loop (τ := Nat) (fun i => ⟨[(0, .lit (.string s)), (3, .lit (.int .i64 i))], []⟩) (fun i => i ≤ s.size ∧ ∀ k, k < i → digB (bt s k) = true) (fun i => s.size - i) 0 (by simp) (Wk.both (by simp [wkL, wkV.same]) trivial) ?_
  rintro i ⟨hi, hall⟩
  simp
  by_cases hlt : i < s.size
  · simp [hlt]
    rw [wrap_i64 (by omega) (by have := (bt s i).toNat_lt; omega)]
    refine vcall_go (l01In_fx hE (bt s i).toNat 48 57) (by simp) (by simp) (by simp) (by simp) ?_
    simp
    cases c1 : inR ((bt s i).toNat : Int) 48 57
    · simp
      exact Fin_ret rfl (by simp [numB, allB_false hlt (p := digB) c1, reC])
    · simp
      refine ⟨i + 1, ⟨by omega, fun k hk => ?_⟩, by omega, Wk.both (by simp [wkL, wkV.same]; rw [wrapN (by omega)]; exact wkV.same _) trivial⟩
      rcases Nat.lt_succ_iff_lt_or_eq.1 hk with h | rfl
      · exact hall k h
      · exact c1
  · simp [hlt]
    exact Fin_ret rfl (by simp [numB, allB_true fun k hk => hall k (by omega), reC])
end
end Go.Proofs.YticockdhfglolaaGreatDoor.Vm
namespace Go.Proofs.YticockdhfglolaaGreatDoor.Vm
open Go Go.RowKit
set_option linter.unusedVariables false
set_option linter.unusedSimpArgs false
def v112 : VC := .seq (.reg false [⟨some 2, .as (.c (.lit (.bool false))), none⟩] [2]) (.seq (.reg false [⟨some 7, .mv (.t 0), none⟩, ⟨some 8, .call false 101 [(.t 7), (.c (.lit (.int .u8 47)))], none⟩, ⟨some 3, .as (.t 8), none⟩] [7, 8]) (.seq (.seq (.reg false [⟨some 4, .as (.c (.lit (.int .i64 0))), none⟩] []) (.block 0 (.loop (.seq (.seq (.reg false [⟨some 9, .mv (.t 4), none⟩, ⟨some 10, .mv (.t 3), none⟩, ⟨some 11, .len false (.t 10), none⟩, ⟨some 12, .bin .lss 0 (.t 9) (.t 11), none⟩] [9, 10, 11]) (.cond (.t 12) (.skip) (.exit 0))) (.seq (.block 1 (.seq (.reg false [⟨some 15, .mv (.t 3), none⟩, ⟨some 16, .mv (.t 4), none⟩, ⟨some 17, .ia 1 (.t 15) (.t 16), none⟩, ⟨some 18, .ld false 1 (.t 17), none⟩, ⟨some 5, .as (.t 18), none⟩] [15, 16, 17, 18]) (.seq (.seq (.reg false [⟨some 19, .mv (.t 5), none⟩, ⟨some 20, .bin .eql 0 (.t 19) (.c (.lit (.string (by8 "node_modules")))), none⟩] [19]) (.cond (.t 20) (.seq (.reg false [⟨some 2, .as (.c (.lit (.bool false))), none⟩] []) (.ret)) (.skip))) (.seq (.seq (.reg false [⟨some 21, .mv (.t 4), none⟩, ⟨some 22, .bin .eql 0 (.t 21) (.c (.lit (.int .i64 0))), none⟩, ⟨some 23, .mv (.t 22), none⟩, ⟨some 24, .mv (.t 5), (some (23, true))⟩, ⟨some 25, .len true (.t 24), (some (23, true))⟩, ⟨some 26, .bin .gtr 0 (.t 25) (.c (.lit (.int .i64 0))), (some (23, true))⟩, ⟨some 27, .pick (.t 23) (.t 26) (.c (.lit (.bool false))), none⟩, ⟨some 28, .mv (.t 27), none⟩, ⟨some 29, .mv (.t 5), (some (28, true))⟩, ⟨some 30, .idx (.t 29) (.c (.lit (.int .i64 0))), (some (28, true))⟩, ⟨some 31, .bin .eql 0 (.t 30) (.c (.lit (.int .u8 64))), (some (28, true))⟩, ⟨some 32, .pick (.t 28) (.t 31) (.c (.lit (.bool false))), none⟩] [21, 22, 23, 24, 25, 26, 27, 28, 29, 30, 31]) (.cond (.t 32) (.reg false [⟨some 33, .mv (.t 5), none⟩, ⟨some 34, .slS (.t 33) (some (.c (.lit (.int .i64 1)))) none, none⟩, ⟨some 5, .as (.t 34), none⟩] [33, 34]) (.skip))) (.seq (.seq (.reg false [⟨some 6, .as (.c (.lit (.int .i64 0))), none⟩] []) (.block 2 (.loop (.seq (.seq (.reg false [⟨some 35, .mv (.t 6), none⟩, ⟨some 36, .mv (.t 5), none⟩, ⟨some 37, .len true (.t 36), none⟩, ⟨some 38, .bin .lss 0 (.t 35) (.t 37), none⟩] [35, 36, 37]) (.cond (.t 38) (.skip) (.exit 2))) (.seq (.block 3 (.seq (.reg false [⟨some 41, .mv (.t 5), none⟩, ⟨some 42, .mv (.t 6), none⟩, ⟨some 43, .idx (.t 41) (.t 42), none⟩, ⟨some 44, .call false 170 [(.t 43)], none⟩, ⟨some 45, .un .not (.t 44), none⟩, ⟨some 46, .mv (.t 45), none⟩, ⟨some 47, .mv (.t 5), (some (46, true))⟩, ⟨some 48, .mv (.t 6), (some (46, true))⟩, ⟨some 49, .idx (.t 47) (.t 48), (some (46, true))⟩, ⟨some 50, .bin .neq 0 (.t 49) (.c (.lit (.int .u8 46))), (some (46, true))⟩, ⟨some 51, .pick (.t 46) (.t 50) (.c (.lit (.bool false))), none⟩, ⟨some 52, .mv (.t 51), none⟩, ⟨some 53, .mv (.t 5), (some (52, true))⟩, ⟨some 54, .mv (.t 6), (some (52, true))⟩, ⟨some 55, .idx (.t 53) (.t 54), (some (52, true))⟩, ⟨some 56, .bin .neq 0 (.t 55) (.c (.lit (.int .u8 95))), (some (52, true))⟩, ⟨some 57, .pick (.t 52) (.t 56) (.c (.lit (.bool false))), none⟩, ⟨some 58, .mv (.t 57), none⟩, ⟨some 59, .mv (.t 5), (some (58, true))⟩, ⟨some 60, .mv (.t 6), (some (58, true))⟩, ⟨some 61, .idx (.t 59) (.t 60), (some (58, true))⟩, ⟨some 62, .bin .neq 0 (.t 61) (.c (.lit (.int .u8 45))), (some (58, true))⟩, ⟨some 63, .pick (.t 58) (.t 62) (.c (.lit (.bool false))), none⟩] [41, 42, 43, 44, 45, 46, 47, 48, 49, 50, 51, 52, 53, 54, 55, 56, 57, 58, 59, 60, 61, 62]) (.cond (.t 63) (.seq (.reg false [⟨some 2, .as (.c (.lit (.bool false))), none⟩] []) (.ret)) (.skip)))) (.reg false [⟨some 39, .mv (.t 6), none⟩, ⟨some 40, .bin .add 0 (.t 39) (.c (.lit (.int .i64 1))), none⟩, ⟨some 6, .as (.t 40), none⟩] [39, 40])))))) (.seq (.reg false [⟨some 64, .mv (.t 5), none⟩, ⟨some 65, .bin .eql 0 (.t 64) (.c (.lit (.string (by8 "")))), none⟩] [64]) (.cond (.t 65) (.seq (.reg false [⟨some 2, .as (.c (.lit (.bool false))), none⟩] []) (.ret)) (.skip)))))))) (.reg false [⟨some 13, .mv (.t 4), none⟩, ⟨some 14, .bin .add 0 (.t 13) (.c (.lit (.int .i64 1))), none⟩, ⟨some 4, .as (.t 14), none⟩] [13, 14])))))) (.seq (.reg false [⟨some 66, .mv (.t 0), none⟩, ⟨some 67, .len true (.t 66), none⟩, ⟨some 68, .bin .leq 0 (.t 67) (.c (.lit (.int .i64 60))), none⟩, ⟨some 2, .as (.t 68), none⟩] [66, 67, 68]) (.ret))))
theorem is112 : Is Go.Proofs.Tryz.prog 112 69 v112 [.t 2] := ⟨Go.Proofs.Tryz.f112, dl [(0, [2]), (1, [7, 8]), (3, [9, 10, 11]), (5, [15, 16, 17, 18]), (6, [19]), (8, [21, 22, 23, 24, 25, 26, 27, 28, 29, 30, 31]), (9, [33, 34]), (11, [35, 36, 37]), (13, [41, 42, 43, 44, 45, 46, 47, 48, 49, 50, 51, 52, 53, 54, 55, 56, 57, 58, 59, 60, 61, 62]), (12, [39, 40]), (15, [64]), (4, [13, 14]), (17, [66, 67, 68])], Go.Proofs.Tryz.func112, by kernel_rfl, by kernel_rfl, by kernel_rfl, by kernel_rfl⟩
def v114 : VC := .seq (.reg false [⟨some 2, .as (.c (.lit (.bool false))), none⟩] [2]) (.seq (.reg false [⟨some 6, .mv (.t 0), none⟩, ⟨some 7, .call false 140 [(.t 6), (.c (.lit (.string (by8 "@"))))], none⟩, ⟨some 3, .as (.t 7), none⟩] [6, 7]) (.seq (.seq (.reg false [⟨some 8, .mv (.t 0), none⟩, ⟨some 9, .call false 172 [(.t 8), (.c (.lit (.string (by8 "@"))))], none⟩, ⟨some 10, .call false 138 [(.t 9), (.c (.lit (.string (by8 "/"))))], none⟩, ⟨some 11, .len false (.t 10), none⟩, ⟨some 12, .mv (.c (.lit (.int .i64 0))), none⟩] [8, 9]) (.block 0 (.loop (.seq (.reg false [⟨some 13, .bin .lss 0 (.t 12) (.t 11), none⟩] []) (.seq (.cond (.t 13) (.skip) (.exit 0)) (.seq (.block 1 (.seq (.reg false [⟨some 14, .mv (.t 12), none⟩, ⟨some 15, .ia 1 (.t 10) (.t 12), none⟩, ⟨some 16, .ld false 1 (.t 15), none⟩, ⟨some 4, .as (.t 14), none⟩, ⟨some 5, .as (.t 16), none⟩] [14, 15, 16]) (.seq (.reg false [⟨some 17, .mv (.t 5), none⟩, ⟨some 18, .bin .eql 0 (.t 17) (.c (.lit (.string (by8 "")))), none⟩, ⟨some 19, .mv (.t 18), none⟩, ⟨some 20, .mv (.t 5), (some (19, false))⟩, ⟨some 21, .bin .eql 0 (.t 20) (.c (.lit (.string (by8 "node_modules")))), (some (19, false))⟩, ⟨some 22, .mv (.t 21), (some (19, false))⟩, ⟨some 23, .mv (.t 3), (some (22, true))⟩, ⟨some 24, .mv (.t 23), (some (22, true))⟩, ⟨some 25, .mv (.t 4), (some (24, true))⟩, ⟨some 26, .bin .eql 0 (.t 25) (.c (.lit (.int .i64 0))), (some (24, true))⟩, ⟨some 27, .pick (.t 24) (.t 26) (.c (.lit (.bool false))), (some (22, true))⟩, ⟨some 28, .un .not (.t 27), (some (22, true))⟩, ⟨some 29, .pick (.t 22) (.t 28) (.c (.lit (.bool false))), (some (19, false))⟩, ⟨some 30, .pick (.t 19) (.c (.lit (.bool true))) (.t 29), none⟩, ⟨some 31, .mv (.t 30), none⟩, ⟨some 32, .mv (.t 5), (some (31, false))⟩, ⟨some 33, .call false 146 [(.t 32), (.c (.fn 173 []))], (some (31, false))⟩, ⟨some 34, .un .not (.t 33), (some (31, false))⟩, ⟨some 35, .pick (.t 31) (.c (.lit (.bool true))) (.t 34), none⟩] [17, 18, 19, 20, 21, 22, 23, 24, 25, 26, 27, 28, 29, 30, 31, 32, 33, 34]) (.cond (.t 35) (.seq (.reg false [⟨some 2, .as (.c (.lit (.bool false))), none⟩] []) (.ret)) (.skip))))) (.reg false [⟨some 36, .bin .add 0 (.t 12) (.c (.lit (.int .i64 1))), none⟩, ⟨some 12, .mv (.t 36), none⟩] [36]))))))) (.seq (.reg false [⟨some 37, .mv (.t 0), none⟩, ⟨some 38, .len true (.t 37), none⟩, ⟨some 39, .bin .leq 0 (.t 38) (.c (.lit (.int .i64 60))), none⟩, ⟨some 2, .as (.t 39), none⟩] [37, 38, 39]) (.ret))))
theorem is114 : Is Go.Proofs.Tryz.prog 114 40 v114 [.t 2] := ⟨Go.Proofs.Tryz.f114, dl [(0, [2]), (1, [6, 7]), (2, [8, 9]), (4, [14, 15, 16]), (5, [17, 18, 19, 20, 21, 22, 23, 24, 25, 26, 27, 28, 29, 30, 31, 32, 33, 34]), (7, [36]), (8, [37, 38, 39])], Go.Proofs.Tryz.func114, by kernel_rfl, by kernel_rfl, by kernel_rfl, by kernel_rfl⟩
def hasP (s p : ByteArray) : Bool := Lib.hasPrefix s.data.toList p.data.toList
def trimP (s p : ByteArray) : ByteArray := if hasP s p then s.extract p.size s.size else s
theorem trimP_eq (s p : ByteArray) : (⟨(Lib.trimPrefix s.data.toList p.data.toList).toArray⟩ : ByteArray) = trimP s p := by
  unfold Lib.trimPrefix trimP hasP
  split
  · refine ba_ext ?_
    have e : p.data.toList.length = p.size := by simp
    rw [e]
    simp [ByteArray.data_extract]
    rw [List.take_of_length_le (by simp)]
  · rfl
theorem hasP_one {s : ByteArray} {c : UInt8} : hasP s (one c) = decide (0 < s.size ∧ bt s 0 = c) := by
  have := occ_one (s := s) (i := 0) (c := c)
  unfold Lib.occAt at this
  rwa [List.drop_zero] at this
def partOk (sc : Bool) (i : Nat) (p : ByteArray) : Bool := !decide (p = by8 "") && !(decide (p = by8 "node_modules") && !(sc && decide (i = 0))) && allB nameB p
def allI (f : Nat → ByteArray → Bool) (l : List ByteArray) : Bool := (List.range l.length).all fun i => match l[i]? with | some p => f i p | none => true
theorem allI_false {f : Nat → ByteArray → Bool} {l : List ByteArray} {i : Nat} (h : i < l.length) (hp : f i l[i] = false) : allI f l = false := by
  unfold allI; rw [List.all_eq_false]; exact ⟨i, List.mem_range.2 h, by simp [h, hp]⟩
theorem allI_true {f : Nat → ByteArray → Bool} {l : List ByteArray} (h : ∀ (i : Nat) (p : ByteArray), l[i]? = some p → f i p = true) : allI f l = true := by
  unfold allI; rw [List.all_eq_true]
  intro i hi
  have : i < l.length := List.mem_range.1 hi
  rw [List.getElem?_eq_getElem this]
  exact h i _ (List.getElem?_eq_getElem this)
def nameOk (s : ByteArray) : Bool := allI (partOk (hasP s (one 64))) (spl 47 (trimP s (one 64))) && decide ((s.size : Int) ≤ 60)
def cutAt (i : Nat) (p : ByteArray) : ByteArray := if i = 0 ∧ hasP p (one 64) = true then p.extract 1 p.size else p
def specPart (i : Nat) (p : ByteArray) : Bool := !decide (p = by8 "node_modules") && allB nameB (cutAt i p) && !decide (cutAt i p = by8 "")
section
variable {E : Env} (hE : E.P = Go.Proofs.Tryz.prog) (hZ : ∀ w, E.K w → KZ w)
include hE
theorem hasPrefix_fx (s p : ByteArray) : Fx E 140 [] [.lit (.string s), .lit (.string p)] [] (.lit (.bool (hasP s p))) :=
  Fx_lit (args := [.string s, .string p]) rfl fun w hw => by
    rw [hE]
    refine (Go.Proofs.Tryz.strings_HasPrefix s p w).mono ?_
    rintro e w' ⟨rfl, rfl⟩
    exact ⟨rfl, Below.refl _ _⟩
theorem trimPrefix_fx (s p : ByteArray) : Fx E 172 [] [.lit (.string s), .lit (.string p)] [] (.lit (.string (trimP s p))) :=
  Fx_lit (args := [.string s, .string p]) rfl fun w hw => by
    rw [hE]
    refine (Go.Proofs.Tryz.strings_TrimPrefix s p w).mono ?_
    rintro e w' ⟨rfl, rfl⟩
    rw [trimP_eq]
    exact ⟨rfl, Below.refl _ _⟩
include hZ
theorem implName_fx (s : ByteArray) (hs : s.size ≤ 1099511627) : Fx E 114 [] [.lit (.string s)] [] (.lit (.bool (nameOk s))) := by
  refine (is114.to hE).fx [] (by simp) rfl rfl ?_
  simp [v114]
  refine vcall_go (hasPrefix_fx hE s (by8 "@")) (by simp) (by simp) (by simp) (by simp) ?_
  simp
  refine vcall_go (trimPrefix_fx hE s (by8 "@")) (by simp) (by simp) (by simp) (by simp) ?_
  simp
  have e1 : by8 "@" = one 64 := by decide +kernel
  have e2 : by8 "/" = one 47 := by decide +kernel
  rw [e1, e2]
  have ht : (trimP s (one 64)).size ≤ s.size := by unfold trimP; split; rw [ext_size]; omega; omega
  obtain ⟨t, htt⟩ : ∃ t, trimP s (one 64) = t := ⟨_, rfl⟩
  obtain ⟨sc, hsc⟩ : ∃ sc, hasP s (one 64) = sc := ⟨_, rfl⟩
  have hno : nameOk s = (allI (partOk sc) (spl 47 t) && decide ((s.size : Int) ≤ 60)) := by rw [nameOk, hsc, htt]
  rw [htt] at ht
  rw [hsc, htt, hno]
  refine vcall_go (split_fx hE hZ t (one 47) (by omega) (by decide)) (by simp) (by simp) (by simp) (by simp) ?_
  rw [show spB (one 47) t = spl 47 t from rfl]
  have hlen := spl_len_le 47 t
  have hparts : ∀ (i : Nat) (p : ByteArray), (spl 47 t)[i]? = some p → p.size ≤ 9223372036854775806 := fun i p h => by have := spl_size h; omega
  obtain ⟨ps, hps⟩ : ∃ ps, spl 47 t = ps := ⟨_, rfl⟩
  rw [hps] at hlen hparts ⊢
  simp
  refine X_loop (τ := Nat) (fun i => ⟨[(0, .lit (.string s)), (3, .lit (.bool sc)), (10, .sl ⟨.no, true⟩ 1 (ps.map fun x => .lit (.string x))), (11, .lit (.int .i64 ps.length)), (12, .lit (.int .i64 i))], []⟩) (fun i => i ≤ ps.length ∧ ∀ (k : Nat) (p : ByteArray), k < i → ps[k]? = some p → partOk sc k p = true) (fun i => ps.length - i) 0 (by simp) (Wk.both (by simp [wkL, wkV.same]) trivial) ?_
  rintro i ⟨hi, hall⟩
  simp
  by_cases hlt : i < ps.length
  · simp [hlt, mkF]
    have hpz := hparts i _ (List.getElem?_eq_getElem hlt)
    have hf : partOk sc i ps[i] = false → allI (partOk sc) ps = false := allI_false hlt
    have ht : partOk sc i ps[i] = true → ∀ (k : Nat) (p : ByteArray), k < i + 1 → ps[k]? = some p → partOk sc k p = true := fun h k p hk hp => by
      rcases Nat.lt_succ_iff_lt_or_eq.1 hk with h2 | rfl
      · exact hall k p h2 hp
      · rw [List.getElem?_eq_getElem hlt] at hp; rw [← Option.some.inj hp]; exact h
    have hcall := all_fx hE (g := 173) (hE ▸ (by kernel_rfl : fnOk Go.Proofs.Tryz.prog 173 = true)) (nameOk1_fx hE) ps[i] hpz
    have next : partOk sc i ps[i] = true → ∃ j, (j ≤ ps.length ∧ ∀ (k : Nat) (p : ByteArray), k < j → ps[k]? = some p → partOk sc k p = true) ∧ ps.length - j < ps.length - i ∧ j = i + 1 := fun h => ⟨i + 1, ⟨by omega, ht h⟩, by omega, rfl⟩
    by_cases q1 : ps[i] = by8 ""
    · have := hf (by simp [partOk, q1])
      simp [q1]
      exact Fin_ret rfl (by rw [this]; rfl)
    simp [q1]
    by_cases q2 : ps[i] = by8 "node_modules"
    · simp [q2]
      cases q3 : sc
      · subst q3
        have := hf (by simp [partOk, q2])
        simp
        exact Fin_ret rfl (by rw [this]; rfl)
      · subst q3
        by_cases q4 : i = 0
        · subst q4
          simp
          rw [← q2]
          refine vcall_go hcall (by simp [strip]) (by simp [argOk]) (by simp [ptrs]) (by simp) ?_
          simp
          cases q5 : allB nameB ps[0]
          · have := hf (by simp [partOk, q5])
            simp
            exact Fin_ret rfl (by rw [this]; rfl)
          · obtain ⟨j, h1, h2, rfl⟩ := next (by simp [partOk, q1, q5])
            simp
            exact ⟨_, h1, h2, Wk.both (by simp [wkL, wkV.same]; rw [wrap_i64 (by omega) (by omega)]; exact wkV.same _) trivial⟩
        · have := hf (by simp [partOk, q2, q4])
          simp [q4]
          exact Fin_ret rfl (by rw [this]; rfl)
    · simp [q2]
      refine vcall_go hcall (by simp [strip]) (by simp [argOk]) (by simp [ptrs]) (by simp) ?_
      simp
      cases q5 : allB nameB ps[i]
      · have := hf (by simp [partOk, q5])
        simp
        exact Fin_ret rfl (by rw [this]; rfl)
      · obtain ⟨j, h1, h2, rfl⟩ := next (by simp [partOk, q1, q2, q5])
        simp
        exact ⟨_, h1, h2, Wk.both (by simp [wkL, wkV.same]; rw [wrapN (by omega)]; exact wkV.same _) trivial⟩
  · simp [hlt]
    exact Fin_ret rfl (by rw [allI_true fun k p hp => hall k p (by have := (List.getElem?_eq_some_iff.1 hp).1; omega) hp]; simp [reC])
omit hZ in
set_option maxHeartbeats 1000000 in
theorem specName_fx0 (s : ByteArray) (hs : s.size ≤ 1099511627) : Fx E 112 [] [.lit (.string s)] [] (.lit (.bool (allI specPart (spl 47 s) && decide ((s.size : Int) ≤ 60)))) := by
  refine (is112.to hE).fx [] (by simp) rfl rfl ?_
  simp [v112]
  refine vcall_go (l01Cut_fx hE s 47 (by omega)) (by simp) (by simp) (by simp) (by simp) ?_
  have hlen := spl_len_le 47 s
  have hparts : ∀ (i : Nat) (p : ByteArray), (spl 47 s)[i]? = some p → p.size ≤ 9223372036854775806 := fun i p h => by have := spl_size h; omega
  obtain ⟨ps, hps⟩ : ∃ ps, spl 47 s = ps := ⟨_, rfl⟩
  rw [hps] at hlen hparts ⊢
  simp
  refine X_loop (τ := Nat) (fun i => ⟨[(0, .lit (.string s)), (3, .sl ⟨.no, true⟩ 1 (ps.map fun x => .lit (.string x))), (4, .lit (.int .i64 i))], []⟩) (fun i => i ≤ ps.length ∧ ∀ (k : Nat) (p : ByteArray), k < i → ps[k]? = some p → specPart k p = true) (fun i => ps.length - i) 0 (by simp) (Wk.both (by simp [wkL, wkV.same]) trivial) ?_
  rintro i ⟨hi, hall⟩
  simp
  by_cases hlt : i < ps.length
  · simp [hlt, mkF]
    have hpz := hparts i _ (List.getElem?_eq_getElem hlt)
    have hf : specPart i ps[i] = false → allI specPart ps = false := allI_false hlt
    have ht : specPart i ps[i] = true → ∀ (k : Nat) (p : ByteArray), k < i + 1 → ps[k]? = some p → specPart k p = true := fun h k p hk hp => by
      rcases Nat.lt_succ_iff_lt_or_eq.1 hk with h2 | rfl
      · exact hall k p h2 hp
      · rw [List.getElem?_eq_getElem hlt] at hp; rw [← Option.some.inj hp]; exact h
    have next : specPart i ps[i] = true → ∃ j, (j ≤ ps.length ∧ ∀ (k : Nat) (p : ByteArray), k < j → ps[k]? = some p → specPart k p = true) ∧ ps.length - j < ps.length - i ∧ j = i + 1 := fun h => ⟨i + 1, ⟨by omega, ht h⟩, by omega, rfl⟩
    by_cases q1 : ps[i] = by8 "node_modules"
    · have := hf (by simp [specPart, q1])
      simp [q1]
      exact Fin_ret rfl (by rw [this]; rfl)
    simp [q1]
    obtain ⟨q, hq⟩ : ∃ q, cutAt i ps[i] = q := ⟨_, rfl⟩
    have hsp : specPart i ps[i] = (allB nameB q && !decide (q = by8 "")) := by simp [specPart, q1, hq]
    have hqz : q.size ≤ 9223372036854775806 := by
      rw [← hq]; unfold cutAt; split
      · rw [ext_size]; omega
      · exact hpz
    have four : (¬ i = 0 ∧ ps[i] = q) ∨ (i = 0 ∧ ps[i].size = 0 ∧ ps[i] = q) ∨ (i = 0 ∧ 0 < ps[i].size ∧ ¬ ((bt ps[i] 0).toNat : Int) = 64 ∧ ps[i] = q) ∨ (i = 0 ∧ 0 < ps[i].size ∧ ((bt ps[i] 0).toNat : Int) = 64 ∧ ps[i].extract 1 ps[i].size = q) := by
      rw [← hq]
      unfold cutAt
      rw [hasP_one]
      by_cases c : i = 0
      · by_cases c2 : 0 < ps[i].size
        · by_cases c3 : bt ps[i] 0 = 64
          · right; right; right
            refine ⟨c, c2, by rw [c3]; rfl, ?_⟩
            rw [if_pos ⟨c, by simp [c2, c3]⟩]
          · right; right; left
            refine ⟨c, c2, fun e => c3 (u8_eq.1 (e.trans (by rfl))), ?_⟩
            rw [if_neg fun h => c3 (by simpa using (of_decide_eq_true h.2).2)]
        · right; left
          refine ⟨c, by omega, ?_⟩
          rw [if_neg fun h => c2 (of_decide_eq_true h.2).1]
      · left
        refine ⟨c, ?_⟩
        rw [if_neg fun h => c h.1]
    rcases four with ⟨c, e⟩ | ⟨c, c2, e⟩ | ⟨c, c2, c3, e⟩ | ⟨c, c2, c3, e⟩
    rw [show decide (i = 0) = false by simp [c]]
    simp
    rw [e]
    clear c e
    rotate_left
    rw [show decide (i = 0) = true by simp [c]]
    simp [c2]
    rw [e]
    clear c e c2
    rotate_left
    rw [show decide (i = 0) = true by simp [c]]
    simp [c2, c3]
    rw [e]
    clear c e c2 c3
    rotate_left
    rw [show decide (i = 0) = true by simp [c]]
    simp [c2, c3]
    refine wh_l (l := 1) rfl (by omega) (by omega) ?_
    simp
    rw [e]
    clear c e c2 c3
    rotate_left
    all_goals
      refine X_loop (τ := Nat) (fun k => ⟨[(0, .lit (.string s)), (3, .sl ⟨.no, true⟩ 1 (ps.map fun x => .lit (.string x))), (4, .lit (.int .i64 i)), (5, .lit (.string q)), (6, .lit (.int .i64 k))], []⟩) (fun k => k ≤ q.size ∧ ∀ (m : Nat), m < k → nameB (bt q m) = true) (fun k => q.size - k) 0 (by simp) (Wk.both (by simp [wkL, wkV.same]) trivial) ?_
      rintro k ⟨hk, hall2⟩
      simp
      by_cases hlt2 : k < q.size
      · simp [hlt2]
        have next2 : nameB (bt q k) = true → ∃ j, (j ≤ q.size ∧ ∀ m, m < j → nameB (bt q m) = true) ∧ q.size - j < q.size - k ∧ j = k + 1 := fun h => ⟨k + 1, ⟨by omega, fun m hm => by
          rcases Nat.lt_succ_iff_lt_or_eq.1 hm with h2 | rfl
          · exact hall2 m h2
          · exact h⟩, by omega, rfl⟩
        have no2 : nameB (bt q k) = false → allI specPart ps = false := fun h => hf (by rw [hsp, allB_false hlt2 h]; rfl)
        refine vcall_go (l01Letter_fx hE (bt q k)) (by simp) (by simp) (by simp) (by simp) ?_
        simp
        cases d1 : letB (bt q k)
        · simp [hlt2]
          by_cases d2 : ((bt q k).toNat : Int) = 46
          · simp [d2]
            obtain ⟨j, h1, h2, rfl⟩ := next2 (by simp [nameB, isB, d2])
            exact ⟨_, h1, h2, Wk.both (by simp [wkL, wkV.same]; rw [wrapN (by omega)]; exact wkV.same _) trivial⟩
          · simp [d2, hlt2]
            by_cases d3 : ((bt q k).toNat : Int) = 95
            · simp [d3]
              obtain ⟨j, h1, h2, rfl⟩ := next2 (by simp [nameB, isB, d3])
              exact ⟨_, h1, h2, Wk.both (by simp [wkL, wkV.same]; rw [wrapN (by omega)]; exact wkV.same _) trivial⟩
            · simp [d3, hlt2]
              by_cases d4 : ((bt q k).toNat : Int) = 45
              · simp [d4]
                obtain ⟨j, h1, h2, rfl⟩ := next2 (by simp [nameB, isB, d4])
                exact ⟨_, h1, h2, Wk.both (by simp [wkL, wkV.same]; rw [wrapN (by omega)]; exact wkV.same _) trivial⟩
              · have := no2 (by simp [nameB, isB, d1, d2, d3, d4])
                simp [d4]
                exact Fin_ret rfl (by rw [this]; rfl)
        · simp
          obtain ⟨j, h1, h2, rfl⟩ := next2 (by simp [nameB, d1])
          exact ⟨_, h1, h2, Wk.both (by simp [wkL, wkV.same]; rw [wrapN (by omega)]; exact wkV.same _) trivial⟩
      · simp [hlt2]
        have hq1 : allB nameB q = true := allB_true fun m hm => hall2 m (by omega)
        by_cases d5 : q = by8 ""
        · have := hf (by simp [hsp, d5])
          simp [d5]
          exact Fin_ret rfl (by rw [this]; rfl)
        · obtain ⟨j, h1, h2, rfl⟩ := next (by simp [hsp, hq1, d5])
          simp [d5]
          exact ⟨_, h1, h2, Wk.both (by simp [wkL, wkV.same]; rw [wrapN (by omega)]; exact wkV.same _) trivial⟩
  · simp [hlt]
    exact Fin_ret rfl (by rw [allI_true fun k p hp => hall k p (by have := (List.getElem?_eq_some_iff.1 hp).1; omega) hp]; simp [reC])
end
end Go.Proofs.YticockdhfglolaaGreatDoor.Vm
namespace Go.Proofs.YticockdhfglolaaGreatDoor.Vm
open Go Go.RowKit
set_option linter.unusedVariables false
set_option linter.unusedSimpArgs false
theorem allI_cons (f : Nat → ByteArray → Bool) (p : ByteArray) (r : List ByteArray) : allI f (p :: r) = (f 0 p && allI (fun i => f (i + 1)) r) := by
  unfold allI
  rw [List.length_cons, List.range_succ_eq_map, List.all_cons, List.all_map]
  rfl
theorem allI_congr {f g : Nat → ByteArray → Bool} (h : ∀ i p, f i p = g i p) (l : List ByteArray) : allI f l = allI g l := by
  have : f = g := by funext i p; exact h i p
  rw [this]
theorem part_tail (sc : Bool) (i : Nat) (p : ByteArray) : specPart (i + 1) p = partOk sc (i + 1) p := by
  unfold specPart partOk cutAt
  rw [if_neg (by omega)]
  simp
  cases allB nameB p <;> cases decide (p = by8 "") <;> cases decide (p = by8 "node_modules") <;> rfl
theorem nm_not {p : ByteArray} (h : 0 < p.size) (h2 : bt p 0 = 64) : p ≠ by8 "node_modules" := by
  rintro rfl
  revert h2
  decide +kernel
theorem head_at {p : ByteArray} (h : hasP p (one 64) = true) : specPart 0 p = partOk true 0 (p.extract 1 p.size) := by
  have h' := h
  rw [hasP_one] at h'
  have hp := of_decide_eq_true h'
  unfold specPart partOk cutAt
  rw [if_pos ⟨rfl, h⟩]
  have : decide (p = by8 "node_modules") = false := decide_eq_false (nm_not hp.1 hp.2)
  rw [this]
  simp
  cases allB nameB (p.extract 1 p.size) <;> cases decide (p.extract 1 p.size = by8 "") <;> rfl
theorem head_no {p : ByteArray} (h : hasP p (one 64) = false) : specPart 0 p = partOk false 0 p := by
  unfold specPart partOk cutAt
  rw [if_neg (by rw [h]; simp)]
  simp
  cases allB nameB p <;> cases decide (p = by8 "") <;> cases decide (p = by8 "node_modules") <;> rfl
theorem name_law (s : ByteArray) : allI specPart (spl 47 s) = allI (partOk (hasP s (one 64))) (spl 47 (trimP s (one 64))) := by
  cases hs : hasP s (one 64)
  · have ht : trimP s (one 64) = s := by unfold trimP; rw [hs]; rfl
    rw [ht]
    have hs2 := hs
    rw [hasP_one] at hs2
    have hs2 := of_decide_eq_false hs2
    rcases idx_cases 47 s with ⟨_, hn⟩ | ⟨i, h1, h2, h3, _⟩
    · rw [spl_none hn, allI_cons, allI_cons, head_no hs, allI_congr (part_tail false)]
    · rw [spl_hit h1 h2 h3, allI_cons, allI_cons, head_no ?_, allI_congr (part_tail false)]
      rw [hasP_one]
      refine decide_eq_false ?_
      rintro ⟨h4, h5⟩
      rw [ext_size] at h4
      rw [bt_ext (by omega)] at h5
      exact hs2 ⟨by omega, h5⟩
  · have ht : trimP s (one 64) = s.extract 1 s.size := by unfold trimP; rw [hs]; rfl
    rw [ht]
    have hs2 := hs
    rw [hasP_one] at hs2
    obtain ⟨hs3, hs4⟩ := of_decide_eq_true hs2
    rcases idx_cases 47 s with ⟨_, hn⟩ | ⟨i, h1, h2, h3, _⟩
    · rw [spl_none hn, spl_none (fun j hj => by rw [ext_size] at hj; rw [bt_ext (by omega)]; exact hn _ (by omega)), allI_cons, allI_cons, head_at hs, allI_congr (part_tail true)]
    · have hi : 0 < i := by
        rcases Nat.eq_zero_or_pos i with rfl | h
        · rw [hs4] at h2; cases h2
        · exact h
      rw [spl_hit h1 h2 h3, spl_hit (s := s.extract 1 s.size) (i := i - 1) (by rw [ext_size]; omega) (by rw [bt_ext (by omega), show 1 + (i - 1) = i by omega]; exact h2) (fun j hj => by rw [bt_ext (by omega)]; exact h3 _ (by omega))]
      have hp : hasP (s.extract 0 i) (one 64) = true := by
        rw [hasP_one]
        refine decide_eq_true ⟨by rw [ext_size]; omega, ?_⟩
        rw [bt_ext (by omega)]; exact hs4
      rw [allI_cons, allI_cons, head_at hp, allI_congr (part_tail true), ext_ext, ext_ext, ext_ext, ext_size, ext_size]
      rw [show min (0 + (min i s.size - 0)) i = i by omega, show 1 + 0 = 0 + 1 by omega, show min (1 + (i - 1)) s.size = i by omega, show 1 + (i - 1 + 1) = i + 1 by omega, show min (1 + (min s.size s.size - 1)) s.size = s.size by omega]
section
variable {E : Env} (hE : E.P = Go.Proofs.Tryz.prog)
include hE
theorem specName_fx (s : ByteArray) (hs : s.size ≤ 1099511627) : Fx E 112 [] [.lit (.string s)] [] (.lit (.bool (nameOk s))) := by
  have := specName_fx0 hE s hs
  rwa [name_law] at this
end
end Go.Proofs.YticockdhfglolaaGreatDoor.Vm
namespace Go.Proofs.YticockdhfglolaaGreatDoor.Vm
open Go Go.RowKit
set_option linter.unusedVariables false
set_option linter.unusedSimpArgs false
def v202 : VC := .seq (.reg false [⟨some 2, .as (.c (.lit (.bool false))), none⟩] [2]) (.seq (.seq (.reg false [⟨some 3, .as (.c (.lit (.int .i64 0))), none⟩] []) (.block 0 (.loop (.seq (.seq (.reg false [⟨some 4, .mv (.t 3), none⟩, ⟨some 5, .mv (.t 0), none⟩, ⟨some 6, .len true (.t 5), none⟩, ⟨some 7, .bin .lss 0 (.t 4) (.t 6), none⟩] [4, 5, 6]) (.cond (.t 7) (.skip) (.exit 0))) (.seq (.block 1 (.seq (.reg false [⟨some 10, .mv (.t 0), none⟩, ⟨some 11, .mv (.t 3), none⟩, ⟨some 12, .idx (.t 10) (.t 11), none⟩, ⟨some 13, .call false 170 [(.t 12)], none⟩, ⟨some 14, .un .not (.t 13), none⟩, ⟨some 15, .mv (.t 14), none⟩, ⟨some 16, .mv (.t 0), (some (15, true))⟩, ⟨some 17, .mv (.t 3), (some (15, true))⟩, ⟨some 18, .idx (.t 16) (.t 17), (some (15, true))⟩, ⟨some 19, .call false 225 [(.t 18)], (some (15, true))⟩, ⟨some 20, .un .not (.t 19), (some (15, true))⟩, ⟨some 21, .pick (.t 15) (.t 20) (.c (.lit (.bool false))), none⟩, ⟨some 22, .mv (.t 21), none⟩, ⟨some 23, .mv (.t 0), (some (22, true))⟩, ⟨some 24, .mv (.t 3), (some (22, true))⟩, ⟨some 25, .idx (.t 23) (.t 24), (some (22, true))⟩, ⟨some 26, .bin .neq 0 (.t 25) (.c (.lit (.int .u8 45))), (some (22, true))⟩, ⟨some 27, .pick (.t 22) (.t 26) (.c (.lit (.bool false))), none⟩] [10, 11, 12, 13, 14, 15, 16, 17, 18, 19, 20, 21, 22, 23, 24, 25, 26]) (.cond (.t 27) (.seq (.reg false [⟨some 2, .as (.c (.lit (.bool false))), none⟩] []) (.ret)) (.skip)))) (.reg false [⟨some 8, .mv (.t 3), none⟩, ⟨some 9, .bin .add 0 (.t 8) (.c (.lit (.int .i64 1))), none⟩, ⟨some 3, .as (.t 9), none⟩] [8, 9])))))) (.seq (.reg false [⟨some 28, .mv (.t 0), none⟩, ⟨some 29, .len true (.t 28), none⟩, ⟨some 30, .call false 82 [(.t 29), (.c (.lit (.int .i64 1))), (.c (.lit (.int .i64 20)))], none⟩, ⟨some 31, .mv (.t 30), none⟩, ⟨some 32, .mv (.t 0), (some (31, true))⟩, ⟨some 33, .call false 226 [(.t 32)], (some (31, true))⟩, ⟨some 34, .un .not (.t 33), (some (31, true))⟩, ⟨some 35, .mv (.t 34), (some (31, true))⟩, ⟨some 36, .mv (.t 0), (some (35, false))⟩, ⟨some 37, .call false 102 [(.t 36)], (some (35, false))⟩, ⟨some 38, .bin .geq 0 (.t 37) (.c (.lit (.int .i64 0))), (some (35, false))⟩, ⟨some 39, .pick (.t 35) (.c (.lit (.bool true))) (.t 38), (some (31, true))⟩, ⟨some 40, .pick (.t 31) (.t 39) (.c (.lit (.bool false))), none⟩, ⟨some 2, .as (.t 40), none⟩] [28, 29, 30, 31, 32, 33, 34, 35, 36, 37, 38, 39, 40]) (.ret)))
theorem is202 : Is Go.Proofs.Tryz.prog 202 41 v202 [.t 2] := ⟨Go.Proofs.Tryz.f202, dl [(0, [2]), (2, [4, 5, 6]), (4, [10, 11, 12, 13, 14, 15, 16, 17, 18, 19, 20, 21, 22, 23, 24, 25, 26]), (3, [8, 9]), (6, [28, 29, 30, 31, 32, 33, 34, 35, 36, 37, 38, 39, 40])], Go.Proofs.Tryz.func202, by kernel_rfl, by kernel_rfl, by kernel_rfl, by kernel_rfl⟩
def v154 : VC := .seq (.reg false [⟨some 1, .box 4 (.t 0), none⟩, ⟨some 2, .as (.c (.lit (.bool false))), none⟩] [2]) (.seq (.seq (.reg false [⟨some 3, .as (.c (.lit (.int .i64 0))), none⟩] []) (.block 0 (.loop (.seq (.seq (.reg false [⟨some 4, .mv (.t 3), none⟩, ⟨some 5, .fa 3 (.t 1), none⟩, ⟨some 6, .ld false 1 (.t 5), none⟩, ⟨some 7, .len false (.t 6), none⟩, ⟨some 8, .bin .lss 0 (.t 4) (.t 7), none⟩] [4, 5, 6, 7]) (.cond (.t 8) (.skip) (.exit 0))) (.seq (.block 1 (.seq (.reg false [⟨some 11, .fa 3 (.t 1), none⟩, ⟨some 12, .ld false 1 (.t 11), none⟩, ⟨some 13, .mv (.t 3), none⟩, ⟨some 14, .ia 1 (.t 12) (.t 13), none⟩, ⟨some 15, .ld false 1 (.t 14), none⟩, ⟨some 16, .call false 202 [(.t 15)], none⟩, ⟨some 17, .un .not (.t 16), none⟩] [11, 12, 13, 14, 15, 16]) (.cond (.t 17) (.seq (.reg false [⟨some 2, .as (.c (.lit (.bool false))), none⟩] []) (.ret)) (.skip)))) (.reg false [⟨some 9, .mv (.t 3), none⟩, ⟨some 10, .bin .add 0 (.t 9) (.c (.lit (.int .i64 1))), none⟩, ⟨some 3, .as (.t 10), none⟩] [9, 10])))))) (.seq (.reg false [⟨some 18, .fa 0 (.t 1), none⟩, ⟨some 19, .ld false 1 (.t 18), none⟩, ⟨some 20, .call false 82 [(.t 19), (.c (.lit (.int .i64 0))), (.c (.lit (.int .i64 999999999)))], none⟩, ⟨some 21, .mv (.t 20), none⟩, ⟨some 22, .fa 1 (.t 1), (some (21, true))⟩, ⟨some 23, .ld false 1 (.t 22), (some (21, true))⟩, ⟨some 24, .call false 82 [(.t 23), (.c (.lit (.int .i64 0))), (.c (.lit (.int .i64 999999999)))], (some (21, true))⟩, ⟨some 25, .pick (.t 21) (.t 24) (.c (.lit (.bool false))), none⟩, ⟨some 26, .mv (.t 25), none⟩, ⟨some 27, .fa 2 (.t 1), (some (26, true))⟩, ⟨some 28, .ld false 1 (.t 27), (some (26, true))⟩, ⟨some 29, .call false 82 [(.t 28), (.c (.lit (.int .i64 0))), (.c (.lit (.int .i64 999999999)))], (some (26, true))⟩, ⟨some 30, .pick (.t 26) (.t 29) (.c (.lit (.bool false))), none⟩, ⟨some 31, .mv (.t 30), none⟩, ⟨some 32, .fa 3 (.t 1), (some (31, true))⟩, ⟨some 33, .ld false 1 (.t 32), (some (31, true))⟩, ⟨some 34, .len false (.t 33), (some (31, true))⟩, ⟨some 35, .bin .leq 0 (.t 34) (.c (.lit (.int .i64 5))), (some (31, true))⟩, ⟨some 36, .pick (.t 31) (.t 35) (.c (.lit (.bool false))), none⟩, ⟨some 2, .as (.t 36), none⟩] [18, 19, 20, 21, 22, 23, 24, 25, 26, 27, 28, 29, 30, 31, 32, 33, 34, 35, 36]) (.ret)))
theorem is154 : Is Go.Proofs.Tryz.prog 154 37 v154 [.t 2] := ⟨Go.Proofs.Tryz.f154, dl [(0, [2]), (2, [4, 5, 6, 7]), (4, [11, 12, 13, 14, 15, 16]), (3, [9, 10]), (6, [18, 19, 20, 21, 22, 23, 24, 25, 26, 27, 28, 29, 30, 31, 32, 33, 34, 35, 36])], Go.Proofs.Tryz.func154, by kernel_rfl, by kernel_rfl, by kernel_rfl, by kernel_rfl⟩
structure Ver where
  maj : Int
  min : Int
  pat : Int
  pre : List ByteArray
def Ver.av (v : Ver) : List AV := [.lit (.int .i64 v.maj), .lit (.int .i64 v.min), .lit (.int .i64 v.pat), .sl ro 1 (v.pre.map fun x => .lit (.string x))]
theorem Ver.pl (v : Ver) : PlL v.av := by simp [Ver.av]
noncomputable def preOk (p : ByteArray) : Bool := allB preB p && inR p.size 1 20 && (!numB p || decide (0 ≤ readDec p))
noncomputable def verOk (v : Ver) : Bool := v.pre.all preOk && inR v.maj 0 999999999 && inR v.min 0 999999999 && inR v.pat 0 999999999 && decide (v.pre.length ≤ 5)
theorem all_false {α : Type} {p : α → Bool} {l : List α} {i : Nat} (h : i < l.length) (hp : p l[i] = false) : l.all p = false := by
  rw [List.all_eq_false]; exact ⟨l[i], List.getElem_mem h, by simp [hp]⟩
theorem all_true {α : Type} {p : α → Bool} {l : List α} (h : ∀ (i : Nat) (x : α), l[i]? = some x → p x = true) : l.all p = true := by
  rw [List.all_eq_true]; intro x hx
  obtain ⟨i, hi, rfl⟩ := List.getElem_of_mem hx
  exact h i _ (List.getElem?_eq_getElem hi)
section
variable {E : Env} (hE : E.P = Go.Proofs.Tryz.prog)
include hE
set_option maxHeartbeats 1000000 in
theorem l02Pre_fx (s : ByteArray) (hs : s.size ≤ 9223372036854775806) : Fx E 202 [] [.lit (.string s)] [] (.lit (.bool (preOk s))) := by
  refine (is202.to hE).fx [] (by simp) rfl rfl ?_
  simp [v202]
  refine X_loop (τ := Nat) (fun i => ⟨[(0, .lit (.string s)), (3, .lit (.int .i64 i))], []⟩) (fun i => i ≤ s.size ∧ ∀ k, k < i → preB (bt s k) = true) (fun i => s.size - i) 0 (by simp) (Wk.both (by simp [wkL, wkV.same]) trivial) ?_
  rintro i ⟨hi, hall⟩
  simp
  by_cases hlt : i < s.size
  · simp [hlt]
    have next : preB (bt s i) = true → ∃ j, (j ≤ s.size ∧ ∀ k, k < j → preB (bt s k) = true) ∧ s.size - j < s.size - i ∧ j = i + 1 := fun hk => ⟨i + 1, ⟨by omega, fun k hk' => by
      rcases Nat.lt_succ_iff_lt_or_eq.1 hk' with h | rfl
      · exact hall k h
      · exact hk⟩, by omega, rfl⟩
    have no : preB (bt s i) = false → preOk s = false := fun h => by simp [preOk, allB_false hlt h]
    refine vcall_go (l01Letter_fx hE (bt s i)) (by simp) (by simp) (by simp) (by simp) ?_
    simp
    cases c1 : letB (bt s i)
    · simp [hlt]
      refine vcall_go (l01Great_fx hE (bt s i)) (by simp) (by simp) (by simp) (by simp) ?_
      simp
      cases c2 : grB (bt s i)
      · simp [hlt]
        by_cases c3 : ((bt s i).toNat : Int) = 45
        · simp [c3]
          obtain ⟨j, h1, h2, rfl⟩ := next (by simp [preB, isB, c3])
          exact ⟨_, h1, h2, Wk.both (by simp [wkL, wkV.same]; rw [wrapN (by omega)]; exact wkV.same _) trivial⟩
        · have := no (by simp [preB, isB, c1, c2, c3])
          simp [c3]
          exact Fin_ret rfl (by rw [this]; rfl)
      · simp
        obtain ⟨j, h1, h2, rfl⟩ := next (by simp [preB, c2])
        exact ⟨_, h1, h2, Wk.both (by simp [wkL, wkV.same]; rw [wrapN (by omega)]; exact wkV.same _) trivial⟩
    · simp
      obtain ⟨j, h1, h2, rfl⟩ := next (by simp [preB, c1])
      exact ⟨_, h1, h2, Wk.both (by simp [wkL, wkV.same]; rw [wrapN (by omega)]; exact wkV.same _) trivial⟩
  · simp [hlt]
    have hp : allB preB s = true := allB_true fun k hk => hall k (by omega)
    refine vcall_go (l01In_fx hE s.size 1 20) (by simp) (by simp) (by simp) (by simp) ?_
    simp
    cases c1 : inR s.size 1 20
    · simp
      exact Fin_ret rfl (by simp [preOk, c1, reC])
    · simp
      refine vcall_go (l02Digits_fx hE s hs) (by simp) (by simp) (by simp) (by simp) ?_
      simp
      cases c2 : numB s
      · simp
        exact Fin_ret rfl (by simp [preOk, c1, c2, hp, reC])
      · simp
        refine vcall_go (specReadDec_fx hE s hs) (by simp) (by simp) (by simp) (by simp) ?_
        simp
        exact Fin_ret rfl (by simp [preOk, c1, c2, hp, reC])
set_option maxHeartbeats 1000000 in
theorem specVerOk_fx (v : Ver) (hl : v.pre.length ≤ 4294967296) (hp : ∀ p ∈ v.pre, p.size ≤ 9223372036854775806) : Fx E 154 [] [.agg v.av] [] (.lit (.bool (verOk v))) := by
  have hav : v.av = [.lit (.int .i64 v.maj), .lit (.int .i64 v.min), .lit (.int .i64 v.pat), .sl ro 1 (v.pre.map fun x => .lit (.string x))] := rfl
  refine (is154.to hE).fx [] (by simp) rfl rfl ?_
  simp [v154, hav, okC]
  refine X_loop (τ := Nat) (fun i => ⟨[(1, .ptr 1000000000001 0 0), (3, .lit (.int .i64 i))], [(1000000000001, [.agg v.av])]⟩) (fun i => i ≤ v.pre.length ∧ ∀ (k : Nat) (x : ByteArray), k < i → v.pre[k]? = some x → preOk x = true) (fun i => v.pre.length - i) 0 (by simp) (Wk.both (by simp [wkL, wkV.same]) (by simp [wkB, hav])) ?_
  rintro i ⟨hi, hall⟩
  simp [hav]
  by_cases hlt : i < v.pre.length
  · simp [hlt, mkF]
    refine vcall_go (l02Pre_fx hE v.pre[i] (hp _ (List.getElem_mem hlt))) (by simp) (by simp) (by simp) (by simp) ?_
    simp
    cases c1 : preOk v.pre[i]
    · simp
      exact Fin_ret rfl (by simp only [verOk, all_false hlt c1]; rfl)
    · simp
      refine ⟨i + 1, ⟨by omega, fun k x hk hx => ?_⟩, by omega, Wk.both (by simp [wkL, wkV.same]; rw [wrapN (by omega)]; exact wkV.same _) (by simp [wkB, hav])⟩
      rcases Nat.lt_succ_iff_lt_or_eq.1 hk with h | rfl
      · exact hall k x h hx
      · rw [List.getElem?_eq_getElem hlt] at hx; rw [← Option.some.inj hx]; exact c1
  · simp [hlt]
    have hpre : v.pre.all preOk = true := all_true fun k x hx => hall k x (by have := (List.getElem?_eq_some_iff.1 hx).1; omega) hx
    refine vcall_go (l01In_fx hE v.maj 0 999999999) (by simp) (by simp) (by simp) (by simp) ?_
    simp
    cases c1 : inR v.maj 0 999999999
    · simp
      exact Fin_ret rfl (by simp [verOk, c1, reC])
    · simp
      refine vcall_go (l01In_fx hE v.min 0 999999999) (by simp) (by simp) (by simp) (by simp) ?_
      simp
      cases c2 : inR v.min 0 999999999
      · simp
        exact Fin_ret rfl (by simp [verOk, c1, c2, reC])
      · simp
        refine vcall_go (l01In_fx hE v.pat 0 999999999) (by simp) (by simp) (by simp) (by simp) ?_
        simp
        cases c3 : inR v.pat 0 999999999
        · simp
          exact Fin_ret rfl (by simp [verOk, c1, c2, c3, reC])
        · simp
          exact Fin_ret rfl (by simp [verOk, c1, c2, c3, hpre, reC]; omega)
end
end Go.Proofs.YticockdhfglolaaGreatDoor.Vm
namespace Go.Proofs.YticockdhfglolaaGreatDoor.Vm
open Go Go.RowKit
set_option linter.unusedVariables false
set_option linter.unusedSimpArgs false
def v103 : VC := .seq (.reg false [⟨some 1, .box 4 (.t 0), none⟩, ⟨some 2, .as (.c (.lit (.string (by8 "")))), none⟩] [2]) (.seq (.seq (.reg false [⟨some 5, .ld true 4 (.t 1), none⟩, ⟨some 6, .call false 154 [(.t 5)], none⟩, ⟨some 7, .un .not (.t 6), none⟩] [5, 6]) (.cond (.t 7) (.seq (.reg false [⟨some 2, .as (.c (.lit (.string (by8 "")))), none⟩] []) (.ret)) (.skip))) (.seq (.reg true [⟨some 8, .fa 0 (.t 1), none⟩, ⟨some 9, .ld false 1 (.t 8), none⟩, ⟨some 10, .call true 153 [(.t 9)], none⟩, ⟨some 11, .bin .add 0 (.t 10) (.c (.lit (.string (by8 ".")))), none⟩, ⟨some 12, .fa 1 (.t 1), none⟩, ⟨some 13, .ld false 1 (.t 12), none⟩, ⟨some 14, .call true 153 [(.t 13)], none⟩, ⟨some 15, .bin .add 0 (.t 11) (.t 14), none⟩, ⟨some 16, .bin .add 0 (.t 15) (.c (.lit (.string (by8 ".")))), none⟩, ⟨some 17, .fa 2 (.t 1), none⟩, ⟨some 18, .ld false 1 (.t 17), none⟩, ⟨some 19, .call true 153 [(.t 18)], none⟩, ⟨some 20, .bin .add 0 (.t 16) (.t 19), none⟩, ⟨some 3, .as (.t 20), none⟩] [8, 9, 10, 11, 12, 13, 14, 15, 16, 17, 18, 19, 20]) (.seq (.seq (.reg false [⟨some 4, .as (.c (.lit (.int .i64 0))), none⟩] []) (.block 0 (.loop (.seq (.seq (.reg false [⟨some 21, .mv (.t 4), none⟩, ⟨some 22, .fa 3 (.t 1), none⟩, ⟨some 23, .ld false 1 (.t 22), none⟩, ⟨some 24, .len false (.t 23), none⟩, ⟨some 25, .bin .lss 0 (.t 21) (.t 24), none⟩] [21, 22, 23, 24]) (.cond (.t 25) (.skip) (.exit 0))) (.seq (.block 1 (.seq (.reg false [⟨some 28, .mv (.t 4), none⟩, ⟨some 29, .bin .eql 0 (.t 28) (.c (.lit (.int .i64 0))), none⟩] [28]) (.cond (.t 29) (.reg false [⟨some 30, .mv (.t 3), none⟩, ⟨some 31, .bin .add 0 (.t 30) (.c (.lit (.string (by8 "-")))), none⟩, ⟨some 32, .fa 3 (.t 1), none⟩, ⟨some 33, .ld false 1 (.t 32), none⟩, ⟨some 34, .mv (.t 4), none⟩, ⟨some 35, .ia 1 (.t 33) (.t 34), none⟩, ⟨some 36, .ld false 1 (.t 35), none⟩, ⟨some 37, .bin .add 0 (.t 31) (.t 36), none⟩, ⟨some 3, .as (.t 37), none⟩] [30, 31, 32, 33, 34, 35, 36, 37]) (.reg false [⟨some 38, .mv (.t 3), none⟩, ⟨some 39, .bin .add 0 (.t 38) (.c (.lit (.string (by8 ".")))), none⟩, ⟨some 40, .fa 3 (.t 1), none⟩, ⟨some 41, .ld false 1 (.t 40), none⟩, ⟨some 42, .mv (.t 4), none⟩, ⟨some 43, .ia 1 (.t 41) (.t 42), none⟩, ⟨some 44, .ld false 1 (.t 43), none⟩, ⟨some 45, .bin .add 0 (.t 39) (.t 44), none⟩, ⟨some 3, .as (.t 45), none⟩] [38, 39, 40, 41, 42, 43, 44, 45])))) (.reg false [⟨some 26, .mv (.t 4), none⟩, ⟨some 27, .bin .add 0 (.t 26) (.c (.lit (.int .i64 1))), none⟩, ⟨some 4, .as (.t 27), none⟩] [26, 27])))))) (.seq (.reg false [⟨some 46, .mv (.t 3), none⟩, ⟨some 2, .as (.t 46), none⟩] [46]) (.ret)))))
theorem is103 : Is Go.Proofs.Tryz.prog 103 47 v103 [.t 2] := ⟨Go.Proofs.Tryz.f103, dl [(0, [2]), (1, [5, 6]), (3, [8, 9, 10, 11, 12, 13, 14, 15, 16, 17, 18, 19, 20]), (5, [21, 22, 23, 24]), (7, [28]), (9, [38, 39, 40, 41, 42, 43, 44, 45]), (8, [30, 31, 32, 33, 34, 35, 36, 37]), (6, [26, 27]), (10, [46])], Go.Proofs.Tryz.func103, by kernel_rfl, by kernel_rfl, by kernel_rfl, by kernel_rfl⟩
def tailT : List ByteArray → ByteArray
  | [] => by8 ""
  | p :: r => by8 "." ++ p ++ tailT r
def preT : List ByteArray → ByteArray
  | [] => by8 ""
  | p :: r => by8 "-" ++ p ++ tailT r
def coreT (v : Ver) : ByteArray := decT v.maj.toNat ++ by8 "." ++ decT v.min.toNat ++ by8 "." ++ decT v.pat.toNat
noncomputable def verT (v : Ver) : ByteArray := if verOk v then coreT v ++ preT v.pre else by8 ""
theorem tailT_snoc : ∀ (r : List ByteArray) (x : ByteArray), tailT (r ++ [x]) = tailT r ++ (by8 "." ++ x)
  | [], x => by simp [tailT, app_nil]; rw [ba_nil, ByteArray.empty_append]
  | p :: r, x => by simp [tailT, tailT_snoc r x, ByteArray.append_assoc]
theorem preT_one (x : ByteArray) : preT [x] = by8 "-" ++ x := by simp [preT, tailT, app_nil]
theorem preT_snoc (p : ByteArray) (r : List ByteArray) (x : ByteArray) : preT (p :: r ++ [x]) = preT (p :: r) ++ (by8 "." ++ x) := by simp [preT, tailT_snoc, ByteArray.append_assoc]
theorem next0 {l : List ByteArray} (h : 0 < l.length) : preT (l.take 1) = by8 "-" ++ l[0] := by
  rw [List.take_succ_eq_append_getElem h, List.take_zero, List.nil_append, preT_one]
theorem nextT {l : List ByteArray} {k : Nat} (h0 : k ≠ 0) (h : k < l.length) : preT (l.take (k + 1)) = preT (l.take k) ++ (by8 "." ++ l[k]) := by
  rw [List.take_succ_eq_append_getElem h]
  cases l with
  | nil => simp at h
  | cons p r =>
    cases k with
    | zero => exact absurd rfl h0
    | succ k => rw [List.take_succ_cons]; exact preT_snoc p _ _
theorem tailT_size : ∀ (l : List ByteArray) (k : Nat), (∀ p ∈ l, p.size ≤ k) → (tailT l).size ≤ l.length * (k + 1)
  | [], k, _ => by have : (tailT []).size = 0 := by decide +kernel
                   omega
  | p :: r, k, h => by
    have h1 := tailT_size r k fun q hq => h q (by simp [hq])
    have h2 := h p (by simp)
    have e : (by8 ".").size = 1 := by decide +kernel
    simp only [tailT, ByteArray.size_append, List.length_cons, Nat.add_mul, e]
    omega
theorem preT_size (l : List ByteArray) (k : Nat) (h : ∀ p ∈ l, p.size ≤ k) : (preT l).size ≤ l.length * (k + 1) := by
  cases l with
  | nil => have : (preT []).size = 0 := by decide +kernel
           omega
  | cons p r =>
    have h1 := tailT_size r k fun q hq => h q (by simp [hq])
    have h2 := h p (by simp)
    have e : (by8 "-").size = 1 := by decide +kernel
    simp only [preT, ByteArray.size_append, List.length_cons, Nat.add_mul, e]
    omega
structure VerB (v : Ver) : Prop where
  maj : ∃ n : Nat, v.maj = n ∧ n ≤ 999999999
  min : ∃ n : Nat, v.min = n ∧ n ≤ 999999999
  pat : ∃ n : Nat, v.pat = n ∧ n ≤ 999999999
  len : v.pre.length ≤ 5
  pre : ∀ p ∈ v.pre, p.size ≤ 20
theorem inR_nat {x : Int} (h : inR x 0 999999999 = true) : ∃ n : Nat, x = n ∧ n ≤ 999999999 := by
  simp [inR] at h
  exact ⟨x.toNat, by omega, by omega⟩
theorem verOk_b {v : Ver} (h : verOk v = true) : VerB v := by
  unfold verOk at h
  simp only [Bool.and_eq_true, decide_eq_true_eq, List.all_eq_true] at h
  obtain ⟨⟨⟨⟨h1, h2⟩, h3⟩, h4⟩, h5⟩ := h
  refine ⟨inR_nat h2, inR_nat h3, inR_nat h4, h5, fun p hp => ?_⟩
  have := h1 p hp
  unfold preOk at this
  simp only [Bool.and_eq_true] at this
  have := this.1.2
  simp [inR] at this
  omega
theorem coreT_size {v : Ver} (h : VerB v) : (coreT v).size ≤ 29 := by
  obtain ⟨a, e1, h1⟩ := h.maj
  obtain ⟨b, e2, h2⟩ := h.min
  obtain ⟨c, e3, h3⟩ := h.pat
  have k1 := decT_size (k := 8) (n := a) (by omega)
  have k2 := decT_size (k := 8) (n := b) (by omega)
  have k3 := decT_size (k := 8) (n := c) (by omega)
  have e : (by8 ".").size = 1 := by decide +kernel
  unfold coreT
  rw [e1, e2, e3]
  simp only [ByteArray.size_append, Int.toNat_natCast, e]
  omega
section
variable {E : Env} (hE : E.P = Go.Proofs.Tryz.prog)
include hE
set_option maxHeartbeats 2000000 in
theorem specVerT_fx (v : Ver) (hl : v.pre.length ≤ 4294967296) (hp : ∀ p ∈ v.pre, p.size ≤ 9223372036854775806) : Fx E 103 [] [.agg v.av] [] (.lit (.string (verT v))) := by
  have hav : v.av = [.lit (.int .i64 v.maj), .lit (.int .i64 v.min), .lit (.int .i64 v.pat), .sl ro 1 (v.pre.map fun x => .lit (.string x))] := rfl
  refine (is103.to hE).fx [] (by simp) rfl rfl ?_
  simp [v103, hav, okC]
  refine vcall_go (specVerOk_fx hE v hl hp) (by simp [hav, ro]) (by simp [hav]) (by simp [hav]) (by simp) ?_
  simp
  cases c1 : verOk v
  · simp
    exact Fin_ret rfl (by simp [verT, c1, reC])
  · obtain ⟨⟨a, e1, h1⟩, ⟨b, e2, h2⟩, ⟨c, e3, h3⟩, h4, h5⟩ := verOk_b c1
    have k1 := decT_size (k := 8) (n := a) (by omega)
    have k2 := decT_size (k := 8) (n := b) (by omega)
    have k3 := decT_size (k := 8) (n := c) (by omega)
    have es : (by8 ".").size = 1 := by decide +kernel
    have es2 : (by8 "-").size = 1 := by decide +kernel
    have hv : verT v = coreT v ++ preT v.pre := by simp [verT, c1]
    have hc : coreT v = decT a ++ by8 "." ++ decT b ++ by8 "." ++ decT c := by simp [coreT, e1, e2, e3]
    have hcs := coreT_size (verOk_b c1)
    simp
    rw [e1, e2, e3]
    refine vcall_go (specDec_fx hE a h1) (by simp) (by simp) (by simp) (by simp) ?_
    simp
    refine ⟨by omega, ?_⟩
    refine vcall_go (specDec_fx hE b h2) (by simp) (by simp) (by simp) (by simp) ?_
    simp
    refine ⟨by omega, by omega, ?_⟩
    refine vcall_go (specDec_fx hE c h3) (by simp) (by simp) (by simp) (by simp) ?_
    simp
    refine ⟨by omega, ?_⟩
    rw [← hc]
    have hps : ∀ k, (preT (v.pre.take k)).size ≤ 105 := fun k => by
      have := preT_size (v.pre.take k) 20 fun p hp => h5 p (List.mem_of_mem_take hp)
      have : (v.pre.take k).length ≤ 5 := by simp; omega
      omega
    refine X_loop (τ := Nat) (fun k => ⟨[(1, .ptr 1000000000001 0 0), (3, .lit (.string (coreT v ++ preT (v.pre.take k)))), (4, .lit (.int .i64 k))], [(1000000000001, [.agg [.lit (.int .i64 a), .lit (.int .i64 b), .lit (.int .i64 c), .sl ro 1 (v.pre.map fun x => .lit (.string x))]])]⟩) (fun k => k ≤ v.pre.length) (fun k => v.pre.length - k) 0 (by simp) (Wk.both (by simp [wkL, wkV.same, preT, app_nil]) (by simp [wkB])) ?_
    rintro k hk
    simp
    have hk1 := hps k
    by_cases hlt : k < v.pre.length
    · have h20 := h5 _ (List.getElem_mem hlt)
      simp [hlt, mkF]
      by_cases k0 : k = 0
      · subst k0
        have hn := next0 hlt
        have hz : (preT []).size = 0 := by decide +kernel
        simp [hlt, mkF]
        refine ⟨by omega, by omega, 1, by omega, by omega, Wk.both (by simp [wkL, wkV.same]; rw [wrap_i64 (by omega) (by omega), hn]; simp [preT, app_nil, ByteArray.append_assoc, wkV.same]) (by simp [wkB])⟩
      · have hn := nextT k0 hlt
        simp [k0, hlt, mkF]
        refine ⟨by omega, by omega, k + 1, by omega, by omega, Wk.both (by simp [wkL, wkV.same]; rw [wrapN (by omega), hn]; simp [ByteArray.append_assoc, wkV.same]) (by simp [wkB])⟩
    · obtain rfl : k = v.pre.length := by omega
      simp
      rw [← hv]
      exact Fin_ret rfl rfl
end
end Go.Proofs.YticockdhfglolaaGreatDoor.Vm
namespace Go.Proofs.YticockdhfglolaaGreatDoor.Vm
open Go Go.RowKit
set_option linter.unusedVariables false
set_option linter.unusedSimpArgs false
def v57 : VC := .seq (.reg false [⟨some 2, .alloc (.agg [(.lit (.int .i64 0)), (.lit (.int .i64 0)), (.lit (.int .i64 0)), (.sl ⟨.nl, true⟩ 1 [])]), none⟩, ⟨some 3, .as (.c (.lit (.bool false))), none⟩] [3]) (.seq (.reg false [⟨some 8, .bld [(.lit (.int .i64 0)), (.lit (.int .i64 0)), (.lit (.int .i64 0)), (.sl ⟨.nl, true⟩ 1 [])] [], none⟩, ⟨some 4, .alloc (.agg [(.lit (.int .i64 0)), (.lit (.int .i64 0)), (.lit (.int .i64 0)), (.sl ⟨.nl, true⟩ 1 [])]), none⟩, ⟨none, .st 4 (.t 4) (.t 8), none⟩] [8]) (.seq (.reg false [⟨some 9, .mv (.t 0), none⟩, ⟨some 5, .as (.t 9), none⟩] [9]) (.seq (.seq (.reg false [⟨some 10, .mv (.t 0), none⟩, ⟨some 11, .call false 100 [(.t 10), (.c (.lit (.int .u8 45)))], none⟩, ⟨some 6, .as (.t 11), none⟩] [10, 11]) (.seq (.reg false [⟨some 12, .mv (.t 6), none⟩, ⟨some 13, .bin .geq 0 (.t 12) (.c (.lit (.int .i64 0))), none⟩] [12]) (.cond (.t 13) (.seq (.reg false [⟨some 14, .mv (.t 0), none⟩, ⟨some 15, .mv (.t 6), none⟩, ⟨some 16, .slS (.t 14) none (some (.t 15)), none⟩, ⟨some 5, .as (.t 16), none⟩] [14, 15, 16]) (.reg false [⟨some 17, .mv (.t 0), none⟩, ⟨some 18, .mv (.t 6), none⟩, ⟨some 19, .bin .add 0 (.t 18) (.c (.lit (.int .i64 1))), none⟩, ⟨some 20, .slS (.t 17) (some (.t 19)) none, none⟩, ⟨some 21, .call false 101 [(.t 20), (.c (.lit (.int .u8 46)))], none⟩, ⟨some 22, .fa 3 (.t 4), none⟩, ⟨none, .st 1 (.t 22) (.t 21), none⟩] [17, 18, 19, 20, 21, 22])) (.skip)))) (.seq (.reg false [⟨some 23, .mv (.t 5), none⟩, ⟨some 24, .call false 101 [(.t 23), (.c (.lit (.int .u8 46)))], none⟩, ⟨some 7, .as (.t 24), none⟩] [23, 24]) (.seq (.seq (.reg false [⟨some 25, .mv (.t 7), none⟩, ⟨some 26, .len false (.t 25), none⟩, ⟨some 27, .bin .neq 0 (.t 26) (.c (.lit (.int .i64 3))), none⟩] [25, 26]) (.cond (.t 27) (.seq (.reg false [⟨some 28, .bld [(.lit (.int .i64 0)), (.lit (.int .i64 0)), (.lit (.int .i64 0)), (.sl ⟨.nl, true⟩ 1 [])] [], none⟩, ⟨none, .st 4 (.t 2) (.t 28), none⟩, ⟨some 3, .as (.c (.lit (.bool false))), none⟩] [28]) (.ret)) (.skip))) (.seq (.reg false [⟨some 29, .mv (.t 7), none⟩, ⟨some 30, .ia 1 (.t 29) (.c (.lit (.int .i64 0))), none⟩, ⟨some 31, .ld false 1 (.t 30), none⟩, ⟨some 32, .call false 102 [(.t 31)], none⟩, ⟨some 33, .fa 0 (.t 4), none⟩, ⟨none, .st 1 (.t 33) (.t 32), none⟩] [29, 30, 31, 32, 33]) (.seq (.reg false [⟨some 34, .mv (.t 7), none⟩, ⟨some 35, .ia 1 (.t 34) (.c (.lit (.int .i64 1))), none⟩, ⟨some 36, .ld false 1 (.t 35), none⟩, ⟨some 37, .call false 102 [(.t 36)], none⟩, ⟨some 38, .fa 1 (.t 4), none⟩, ⟨none, .st 1 (.t 38) (.t 37), none⟩] [34, 35, 36, 37, 38]) (.seq (.reg false [⟨some 39, .mv (.t 7), none⟩, ⟨some 40, .ia 1 (.t 39) (.c (.lit (.int .i64 2))), none⟩, ⟨some 41, .ld false 1 (.t 40), none⟩, ⟨some 42, .call false 102 [(.t 41)], none⟩, ⟨some 43, .fa 2 (.t 4), none⟩, ⟨none, .st 1 (.t 43) (.t 42), none⟩] [39, 40, 41, 42, 43]) (.seq (.seq (.reg false [⟨some 44, .ld true 4 (.t 4), none⟩, ⟨some 45, .call false 103 [(.t 44)], none⟩, ⟨some 46, .mv (.t 0), none⟩, ⟨some 47, .bin .neq 0 (.t 45) (.t 46), none⟩] [44, 45, 46]) (.cond (.t 47) (.seq (.reg false [⟨some 48, .bld [(.lit (.int .i64 0)), (.lit (.int .i64 0)), (.lit (.int .i64 0)), (.sl ⟨.nl, true⟩ 1 [])] [], none⟩, ⟨none, .st 4 (.t 2) (.t 48), none⟩, ⟨some 3, .as (.c (.lit (.bool false))), none⟩] [48]) (.ret)) (.skip))) (.seq (.reg false [⟨some 49, .ld true 4 (.t 4), none⟩, ⟨none, .st 4 (.t 2) (.t 49), none⟩, ⟨some 3, .as (.c (.lit (.bool true))), none⟩] [49]) (.ret)))))))))))
theorem is57 : Is Go.Proofs.Tryz.prog 57 50 v57 [.b 2 true 4, .t 3] := ⟨Go.Proofs.Tryz.f57, dl [(0, [3]), (1, [8]), (2, [9]), (3, [10, 11]), (4, [12]), (5, [14, 15, 16]), (6, [17, 18, 19, 20, 21, 22]), (7, [23, 24]), (8, [25, 26]), (9, [28]), (10, [29, 30, 31, 32, 33]), (11, [34, 35, 36, 37, 38]), (12, [39, 40, 41, 42, 43]), (13, [44, 45, 46]), (14, [48]), (15, [49])], Go.Proofs.Tryz.func57, by kernel_rfl, by kernel_rfl, by kernel_rfl, by kernel_rfl⟩
def dashI (s : ByteArray) : Int := Lib.indexB s (one 45)
def coreS (s : ByteArray) : ByteArray := if 0 ≤ dashI s then s.extract 0 (dashI s).toNat else s
def preS (s : ByteArray) : List ByteArray := if 0 ≤ dashI s then spl 46 (s.extract ((dashI s).toNat + 1) s.size) else []
def apS (s : ByteArray) : Ap := if 0 ≤ dashI s then .no else .nl
theorem apS_cases (s : ByteArray) : apS s = .no ∨ apS s = .nl := by unfold apS; split; exact .inl rfl; exact .inr rfl
noncomputable def mk3 (pre : List ByteArray) : List ByteArray → Option Ver
  | [a, b, c] => some ⟨readDec a, readDec b, readDec c, pre⟩
  | _ => none
theorem mk3_none {pre ps : List ByteArray} (h : ¬ ps.length = 3) : mk3 pre ps = none := by
  match ps, h with
  | [], _ => rfl
  | [_], _ => rfl
  | [_, _], _ => rfl
  | _ :: _ :: _ :: _ :: _, _ => rfl
  | [_, _, _], h => exact absurd rfl h
noncomputable def cand (s : ByteArray) : Option Ver := mk3 (preS s) (spl 46 (coreS s))
noncomputable def readVer (s : ByteArray) : Option Ver := (cand s).bind fun v => if verT v = s then some v else none
def verNone : AV := .tup [.agg [.lit (.int .i64 0), .lit (.int .i64 0), .lit (.int .i64 0), .sl ⟨.nl, true⟩ 1 []], .lit (.bool false)]
def verSome (ap : Ap) (v : Ver) : AV := .tup [.agg [.lit (.int .i64 v.maj), .lit (.int .i64 v.min), .lit (.int .i64 v.pat), .sl ⟨ap, true⟩ 1 (v.pre.map fun x => .lit (.string x))], .lit (.bool true)]
noncomputable def verRes (s : ByteArray) : AV := match readVer s with
  | some v => verSome (apS s) v
  | none => verNone
theorem verRes_ok (s : ByteArray) : resOk (verRes s) = true := by
  unfold verRes
  cases readVer s with
  | none => rfl
  | some v =>
    simp only [verSome, apS]
    split <;> rfl
theorem preS_size {s p : ByteArray} (h : p ∈ preS s) : p.size ≤ s.size := by
  unfold preS at h
  split at h
  · obtain ⟨i, hi, rfl⟩ := List.getElem_of_mem h
    have := spl_size (List.getElem?_eq_getElem hi)
    rw [ext_size] at this
    omega
  · simp at h
theorem preS_len (s : ByteArray) : (preS s).length ≤ s.size + 1 := by
  unfold preS
  split
  · have := spl_len_le 46 (s.extract ((dashI s).toNat + 1) s.size)
    rw [ext_size] at this
    omega
  · simp
theorem coreS_size (s : ByteArray) : (coreS s).size ≤ s.size := by
  unfold coreS
  split
  · rw [ext_size]; omega
  · omega
section
variable {E : Env} (hE : E.P = Go.Proofs.Tryz.prog)
include hE
set_option maxHeartbeats 2000000 in
theorem specReadVer_fx (s : ByteArray) (hs : s.size ≤ 1099511627) : Fx E 57 [] [.lit (.string s)] [] (verRes s) := by
  refine (is57.to hE).fx [] (by simp) rfl (verRes_ok s) ?_
  simp [v57, okC, putElem, upd, fill]
  refine vcall_go (l01At_fx hE s 45 (by omega)) (by simp) (by simp) (by simp) (by simp) ?_
  simp
  rw [show Lib.indexB s (one 45) = dashI s from rfl]
  obtain ⟨core, hcore⟩ : ∃ core, coreS s = core := ⟨_, rfl⟩
  obtain ⟨pre, hpre⟩ : ∃ pre, preS s = pre := ⟨_, rfl⟩
  obtain ⟨ap, hap⟩ : ∃ ap, apS s = ap := ⟨_, rfl⟩
  have hcz : core.size ≤ s.size := hcore ▸ coreS_size s
  have hpl : pre.length ≤ s.size + 1 := hpre ▸ preS_len s
  have hpz : ∀ p ∈ pre, p.size ≤ s.size := fun p hp => preS_size (hpre ▸ hp)
  rcases idx_cases 45 s with ⟨h1, _⟩ | ⟨i, h1, _, _, h2⟩
  have h1 : dashI s = -1 := h1
  have e1 : core = s := by rw [← hcore, coreS, h1]; rfl
  have e2 : pre = [] := by rw [← hpre, preS, h1]; rfl
  have e3 : ap = .nl := by rw [← hap, apS, h1]; rfl
  rw [h1]
  simp
  refine vcall_go (l01Cut_fx hE core 46 (by omega)) (by simp [e1]) (by simp) (by simp) (by simp) ?_
  rotate_left
  have h2 : dashI s = i := h2
  have e1 : s.extract 0 i = core := by rw [← hcore, coreS, h2, if_pos (by omega)]; rfl
  have e2 : spl 46 (s.extract (i + 1) s.size) = pre := by rw [← hpre, preS, h2, if_pos (by omega)]; rfl
  have e3 : ap = .no := by rw [← hap, apS, h2, if_pos (by omega)]
  have hi0 : (0 : Int) ≤ i := by omega
  rw [h2]
  simp [hi0]
  refine wh_h (h := i) rfl (by omega) (by omega) ?_
  simp
  rw [wrapN (by omega)]
  refine wh_l (l := (i + 1 : Nat)) rfl (by omega) (by omega) ?_
  simp
  refine vcall_go (l01Cut_fx hE (s.extract (i + 1) s.size) 46 (by rw [ext_size]; omega)) (by simp) (by simp) (by simp) (by simp) ?_
  rw [e2]
  simp [okC, putElem, upd]
  refine vcall_go (l01Cut_fx hE core 46 (by omega)) (by simp [e1]) (by simp) (by simp) (by simp) ?_
  rotate_left
  all_goals
    have hpz' : ∀ (i : Nat) (p : ByteArray), (spl 46 core)[i]? = some p → p.size ≤ s.size := fun i p h => by have := spl_size h; omega
    have hcand : cand s = mk3 pre (spl 46 core) := by rw [cand, hcore, hpre]
    obtain ⟨ps, hps⟩ : ∃ ps, spl 46 core = ps := ⟨_, rfl⟩
    rw [hps] at hpz' hcand ⊢
    simp
    by_cases hl3 : ps.length = 3
    · obtain ⟨a, b, c, rfl⟩ : ∃ a b c, ps = [a, b, c] := by
        match ps, hl3 with
        | [a, b, c], _ => exact ⟨a, b, c, rfl⟩
      have hca : cand s = some ⟨readDec a, readDec b, readDec c, pre⟩ := hcand
      have za := hpz' 0 a rfl
      have zb := hpz' 1 b rfl
      have zc := hpz' 2 c rfl
      simp [mkF]
      refine vcall_go (specReadDec_fx hE a (by omega)) (by simp) (by simp) (by simp) (by simp) ?_
      simp [okC, putElem, upd, mkF]
      refine vcall_go (specReadDec_fx hE b (by omega)) (by simp) (by simp) (by simp) (by simp) ?_
      simp [okC, putElem, upd, mkF]
      refine vcall_go (specReadDec_fx hE c (by omega)) (by simp) (by simp) (by simp) (by simp) ?_
      simp [okC, putElem, upd, mkF]
      refine vcall_go (specVerT_fx hE ⟨readDec a, readDec b, readDec c, pre⟩ (by simp; omega) (fun p hp => by have := hpz p hp; omega)) (by simp [Ver.av, ro, e2]) (by simp) (by simp) (by simp) ?_
      simp
      by_cases hv : verT ⟨readDec a, readDec b, readDec c, pre⟩ = s
      · have hr : verRes s = verSome ap ⟨readDec a, readDec b, readDec c, pre⟩ := by rw [verRes, readVer, hca]; simp [hv, hap]
        rw [hr]
        simp [hv, okC, putElem, upd]
        exact Fin_ret2 rfl (by simp [verSome, e2, e3, reC, reC.reL])
      · have hr : verRes s = verNone := by rw [verRes, readVer, hca]; simp [hv]
        rw [hr]
        simp [hv, okC, putElem, upd, fill]
        exact Fin_ret2 rfl rfl
    · have hl3' : ¬ (ps.length : Int) = 3 := by omega
      have hr : verRes s = verNone := by
        rw [verRes, readVer, hcand, mk3_none hl3]; rfl
      rw [hr]
      simp [hl3', okC, putElem, upd, fill]
      exact Fin_ret2 rfl rfl
end
end Go.Proofs.YticockdhfglolaaGreatDoor.Vm
namespace Go.Proofs.YticockdhfglolaaGreatDoor.Vm
open Go Go.RowKit
set_option linter.unusedVariables false
set_option linter.unusedSimpArgs false
def v205 : VC := .seq (.reg false [⟨some 1, .box 4 (.t 0), none⟩, ⟨some 2, .as (.c (.lit (.bool false))), none⟩] [2]) (.seq (.seq (.reg false [⟨some 7, .fa 0 (.t 1), none⟩, ⟨some 8, .ld false 1 (.t 7), none⟩, ⟨some 9, .fa 1 (.t 1), none⟩, ⟨some 10, .ld false 1 (.t 9), none⟩, ⟨some 11, .fa 2 (.t 1), none⟩, ⟨some 12, .ld false 1 (.t 11), none⟩, ⟨some 13, .bsl 1 [(.t 8), (.t 10), (.t 12)], none⟩, ⟨some 14, .len false (.t 13), none⟩, ⟨some 15, .mv (.c (.lit (.int .i64 0))), none⟩] [7, 8, 9, 10, 11, 12]) (.block 0 (.loop (.seq (.reg false [⟨some 16, .bin .lss 0 (.t 15) (.t 14), none⟩] []) (.seq (.cond (.t 16) (.skip) (.exit 0)) (.seq (.block 1 (.seq (.reg false [⟨some 17, .ia 1 (.t 13) (.t 15), none⟩, ⟨some 18, .ld false 1 (.t 17), none⟩, ⟨some 4, .as (.t 18), none⟩] [17, 18]) (.seq (.reg false [⟨some 19, .mv (.t 4), none⟩, ⟨some 20, .call false 89 [(.t 19), (.c (.lit (.int .i64 0))), (.c (.lit (.int .i64 999999999)))], none⟩, ⟨some 21, .un .not (.t 20), none⟩] [19, 20]) (.cond (.t 21) (.seq (.reg false [⟨some 2, .as (.c (.lit (.bool false))), none⟩] []) (.ret)) (.skip))))) (.reg false [⟨some 22, .bin .add 0 (.t 15) (.c (.lit (.int .i64 1))), none⟩, ⟨some 15, .mv (.t 22), none⟩] [22]))))))) (.seq (.seq (.reg false [⟨some 23, .fa 3 (.t 1), none⟩, ⟨some 24, .ld false 1 (.t 23), none⟩, ⟨some 25, .len false (.t 24), none⟩, ⟨some 26, .mv (.c (.lit (.int .i64 0))), none⟩] [23]) (.block 2 (.loop (.seq (.reg false [⟨some 27, .bin .lss 0 (.t 26) (.t 25), none⟩] []) (.seq (.cond (.t 27) (.skip) (.exit 2)) (.seq (.block 3 (.seq (.reg false [⟨some 28, .ia 1 (.t 24) (.t 26), none⟩, ⟨some 29, .ld false 1 (.t 28), none⟩, ⟨some 6, .as (.t 29), none⟩] [28, 29]) (.seq (.reg false [⟨some 30, .mv (.t 6), none⟩, ⟨some 31, .len true (.t 30), none⟩, ⟨some 32, .call false 89 [(.t 31), (.c (.lit (.int .i64 1))), (.c (.lit (.int .i64 20)))], none⟩, ⟨some 33, .un .not (.t 32), none⟩, ⟨some 34, .mv (.t 33), none⟩, ⟨some 35, .mv (.t 6), (some (34, false))⟩, ⟨some 36, .call false 146 [(.t 35), (.c (.fn 230 []))], (some (34, false))⟩, ⟨some 37, .un .not (.t 36), (some (34, false))⟩, ⟨some 38, .pick (.t 34) (.c (.lit (.bool true))) (.t 37), none⟩, ⟨some 39, .mv (.t 38), none⟩, ⟨some 40, .mv (.t 6), (some (39, false))⟩, ⟨some 41, .call false 209 [(.t 40)], (some (39, false))⟩, ⟨some 42, .mv (.t 41), (some (39, false))⟩, ⟨some 43, .mv (.t 6), (some (42, true))⟩, ⟨some 44, .call false 157 [(.t 43)], (some (42, true))⟩, ⟨some 45, .bin .lss 0 (.t 44) (.c (.lit (.int .i64 0))), (some (42, true))⟩, ⟨some 46, .pick (.t 42) (.t 45) (.c (.lit (.bool false))), (some (39, false))⟩, ⟨some 47, .pick (.t 39) (.c (.lit (.bool true))) (.t 46), none⟩] [30, 31, 32, 33, 34, 35, 36, 37, 38, 39, 40, 41, 42, 43, 44, 45, 46]) (.cond (.t 47) (.seq (.reg false [⟨some 2, .as (.c (.lit (.bool false))), none⟩] []) (.ret)) (.skip))))) (.reg false [⟨some 48, .bin .add 0 (.t 26) (.c (.lit (.int .i64 1))), none⟩, ⟨some 26, .mv (.t 48), none⟩] [48]))))))) (.seq (.reg false [⟨some 49, .fa 3 (.t 1), none⟩, ⟨some 50, .ld false 1 (.t 49), none⟩, ⟨some 51, .len false (.t 50), none⟩, ⟨some 52, .bin .leq 0 (.t 51) (.c (.lit (.int .i64 5))), none⟩, ⟨some 2, .as (.t 52), none⟩] [49, 50, 51, 52]) (.ret))))
theorem is205 : Is Go.Proofs.Tryz.prog 205 53 v205 [.t 2] := ⟨Go.Proofs.Tryz.f205, dl [(0, [2]), (1, [7, 8, 9, 10, 11, 12]), (3, [17, 18]), (4, [19, 20]), (6, [22]), (7, [23]), (9, [28, 29]), (10, [30, 31, 32, 33, 34, 35, 36, 37, 38, 39, 40, 41, 42, 43, 44, 45, 46]), (12, [48]), (13, [49, 50, 51, 52])], Go.Proofs.Tryz.func205, by kernel_rfl, by kernel_rfl, by kernel_rfl, by kernel_rfl⟩
def v158 : VC := .seq (.reg false [⟨some 1, .box 4 (.t 0), none⟩, ⟨some 2, .as (.c (.lit (.string (by8 "")))), none⟩] [2]) (.seq (.seq (.reg false [⟨some 4, .ld true 4 (.t 1), none⟩, ⟨some 5, .call false 205 [(.t 4)], none⟩, ⟨some 6, .un .not (.t 5), none⟩] [4, 5]) (.cond (.t 6) (.seq (.reg false [⟨some 2, .as (.c (.lit (.string (by8 "")))), none⟩] []) (.ret)) (.skip))) (.seq (.reg true [⟨some 7, .fa 0 (.t 1), none⟩, ⟨some 8, .ld false 1 (.t 7), none⟩, ⟨some 9, .call true 204 [(.t 8)], none⟩, ⟨some 10, .bin .add 0 (.t 9) (.c (.lit (.string (by8 ".")))), none⟩, ⟨some 11, .fa 1 (.t 1), none⟩, ⟨some 12, .ld false 1 (.t 11), none⟩, ⟨some 13, .call true 204 [(.t 12)], none⟩, ⟨some 14, .bin .add 0 (.t 10) (.t 13), none⟩, ⟨some 15, .bin .add 0 (.t 14) (.c (.lit (.string (by8 ".")))), none⟩, ⟨some 16, .fa 2 (.t 1), none⟩, ⟨some 17, .ld false 1 (.t 16), none⟩, ⟨some 18, .call true 204 [(.t 17)], none⟩, ⟨some 19, .bin .add 0 (.t 15) (.t 18), none⟩, ⟨some 3, .as (.t 19), none⟩] [7, 8, 9, 10, 11, 12, 13, 14, 15, 16, 17, 18, 19]) (.seq (.seq (.reg false [⟨some 20, .fa 3 (.t 1), none⟩, ⟨some 21, .ld false 1 (.t 20), none⟩, ⟨some 22, .len false (.t 21), none⟩, ⟨some 23, .bin .gtr 0 (.t 22) (.c (.lit (.int .i64 0))), none⟩] [20, 21, 22]) (.cond (.t 23) (.reg false [⟨some 24, .mv (.t 3), none⟩, ⟨some 25, .fa 3 (.t 1), none⟩, ⟨some 26, .ld false 1 (.t 25), none⟩, ⟨some 27, .call false 54 [(.t 26), (.c (.lit (.string (by8 "."))))], none⟩, ⟨some 28, .bin .add 0 (.c (.lit (.string (by8 "-")))) (.t 27), none⟩, ⟨some 29, .bin .add 0 (.t 24) (.t 28), none⟩, ⟨some 3, .as (.t 29), none⟩] [24, 25, 26, 27, 28, 29]) (.skip))) (.seq (.reg false [⟨some 30, .mv (.t 3), none⟩, ⟨some 2, .as (.t 30), none⟩] [30]) (.ret)))))
theorem is158 : Is Go.Proofs.Tryz.prog 158 31 v158 [.t 2] := ⟨Go.Proofs.Tryz.f158, dl [(0, [2]), (1, [4, 5]), (3, [7, 8, 9, 10, 11, 12, 13, 14, 15, 16, 17, 18, 19]), (4, [20, 21, 22]), (5, [24, 25, 26, 27, 28, 29]), (6, [30])], Go.Proofs.Tryz.func158, by kernel_rfl, by kernel_rfl, by kernel_rfl, by kernel_rfl⟩
def v107 : VC := .seq (.reg false [⟨some 2, .alloc (.agg [(.lit (.int .i64 0)), (.lit (.int .i64 0)), (.lit (.int .i64 0)), (.sl ⟨.nl, true⟩ 1 [])]), none⟩, ⟨some 3, .as (.c (.lit (.bool false))), none⟩] [3]) (.seq (.reg false [⟨some 10, .mv (.t 0), none⟩, ⟨some 11, .call false 143 [(.t 10), (.c (.lit (.string (by8 "-"))))], none⟩, ⟨some 9, .mv (.t 11), none⟩, ⟨some 12, .ext (.t 9) 0, none⟩, ⟨some 13, .ext (.t 9) 1, none⟩, ⟨some 14, .ext (.t 9) 2, none⟩, ⟨some 4, .as (.t 12), none⟩, ⟨some 5, .as (.t 13), none⟩, ⟨some 6, .as (.t 14), none⟩] [10, 11, 9, 12, 13, 14]) (.seq (.reg false [⟨some 15, .mv (.t 4), none⟩, ⟨some 16, .call false 138 [(.t 15), (.c (.lit (.string (by8 "."))))], none⟩, ⟨some 7, .as (.t 16), none⟩] [15, 16]) (.seq (.seq (.reg false [⟨some 17, .mv (.t 7), none⟩, ⟨some 18, .len false (.t 17), none⟩, ⟨some 19, .bin .neq 0 (.t 18) (.c (.lit (.int .i64 3))), none⟩] [17, 18]) (.cond (.t 19) (.seq (.reg false [⟨some 20, .bld [(.lit (.int .i64 0)), (.lit (.int .i64 0)), (.lit (.int .i64 0)), (.sl ⟨.nl, true⟩ 1 [])] [], none⟩, ⟨none, .st 4 (.t 2) (.t 20), none⟩, ⟨some 3, .as (.c (.lit (.bool false))), none⟩] [20]) (.ret)) (.skip))) (.seq (.reg true [⟨some 21, .mv (.t 7), none⟩, ⟨some 22, .ia 1 (.t 21) (.c (.lit (.int .i64 0))), none⟩, ⟨some 23, .ld false 1 (.t 22), none⟩, ⟨some 24, .call true 157 [(.t 23)], none⟩, ⟨some 25, .mv (.t 7), none⟩, ⟨some 26, .ia 1 (.t 25) (.c (.lit (.int .i64 1))), none⟩, ⟨some 27, .ld false 1 (.t 26), none⟩, ⟨some 28, .call true 157 [(.t 27)], none⟩, ⟨some 29, .mv (.t 7), none⟩, ⟨some 30, .ia 1 (.t 29) (.c (.lit (.int .i64 2))), none⟩, ⟨some 31, .ld false 1 (.t 30), none⟩, ⟨some 32, .call true 157 [(.t 31)], none⟩, ⟨some 33, .bld [(.lit (.int .i64 0)), (.lit (.int .i64 0)), (.lit (.int .i64 0)), (.sl ⟨.nl, true⟩ 1 [])] [(0, 1, (.t 24)), (1, 1, (.t 28)), (2, 1, (.t 32))], none⟩, ⟨some 8, .alloc (.agg [(.lit (.int .i64 0)), (.lit (.int .i64 0)), (.lit (.int .i64 0)), (.sl ⟨.nl, true⟩ 1 [])]), none⟩, ⟨none, .st 4 (.t 8) (.t 33), none⟩] [21, 22, 23, 24, 25, 26, 27, 28, 29, 30, 31, 32, 33]) (.seq (.seq (.reg false [⟨some 34, .mv (.t 6), none⟩] []) (.cond (.t 34) (.reg false [⟨some 35, .mv (.t 5), none⟩, ⟨some 36, .call false 138 [(.t 35), (.c (.lit (.string (by8 "."))))], none⟩, ⟨some 37, .fa 3 (.t 8), none⟩, ⟨none, .st 1 (.t 37) (.t 36), none⟩] [35, 36, 37]) (.skip))) (.seq (.seq (.reg false [⟨some 38, .ld true 4 (.t 8), none⟩, ⟨some 39, .call false 158 [(.t 38)], none⟩, ⟨some 40, .mv (.t 0), none⟩, ⟨some 41, .bin .neq 0 (.t 39) (.t 40), none⟩, ⟨some 42, .mv (.t 41), none⟩, ⟨some 43, .mv (.t 0), (some (42, false))⟩, ⟨some 44, .bin .eql 0 (.t 43) (.c (.lit (.string (by8 "")))), (some (42, false))⟩, ⟨some 45, .pick (.t 42) (.c (.lit (.bool true))) (.t 44), none⟩] [38, 39, 40, 41, 42, 43, 44]) (.cond (.t 45) (.seq (.reg false [⟨some 46, .bld [(.lit (.int .i64 0)), (.lit (.int .i64 0)), (.lit (.int .i64 0)), (.sl ⟨.nl, true⟩ 1 [])] [], none⟩, ⟨none, .st 4 (.t 2) (.t 46), none⟩, ⟨some 3, .as (.c (.lit (.bool false))), none⟩] [46]) (.ret)) (.skip))) (.seq (.reg false [⟨some 47, .ld true 4 (.t 8), none⟩, ⟨none, .st 4 (.t 2) (.t 47), none⟩, ⟨some 3, .as (.c (.lit (.bool true))), none⟩] [47]) (.ret))))))))
theorem is107 : Is Go.Proofs.Tryz.prog 107 48 v107 [.b 2 true 4, .t 3] := ⟨Go.Proofs.Tryz.f107, dl [(0, [3]), (1, [10, 11, 9, 12, 13, 14]), (2, [15, 16]), (3, [17, 18]), (4, [20]), (5, [21, 22, 23, 24, 25, 26, 27, 28, 29, 30, 31, 32, 33]), (7, [35, 36, 37]), (8, [38, 39, 40, 41, 42, 43, 44]), (9, [46]), (10, [47])], Go.Proofs.Tryz.func107, by kernel_rfl, by kernel_rfl, by kernel_rfl, by kernel_rfl⟩
def v60 : VC := .seq (.reg false [⟨some 2, .as (.c (.lit (.bool false))), none⟩] [2]) (.seq (.reg false [⟨some 6, .mv (.t 0), none⟩, ⟨some 7, .call false 107 [(.t 6)], none⟩, ⟨some 5, .mv (.t 7), none⟩, ⟨some 8, .ext (.t 5) 0, none⟩, ⟨some 9, .ext (.t 5) 1, none⟩, ⟨some 3, .alloc (.agg [(.lit (.int .i64 0)), (.lit (.int .i64 0)), (.lit (.int .i64 0)), (.sl ⟨.nl, true⟩ 1 [])]), none⟩, ⟨none, .st 4 (.t 3) (.t 8), none⟩, ⟨some 4, .as (.t 9), none⟩] [6, 7, 5, 8, 9, 3]) (.seq (.reg false [⟨some 10, .mv (.t 4), none⟩, ⟨some 2, .as (.t 10), none⟩] [10]) (.ret)))
theorem is60 : Is Go.Proofs.Tryz.prog 60 11 v60 [.t 2] := ⟨Go.Proofs.Tryz.f60, dl [(0, [2]), (1, [6, 7, 5, 8, 9, 3]), (2, [10])], Go.Proofs.Tryz.func60, by kernel_rfl, by kernel_rfl, by kernel_rfl, by kernel_rfl⟩
theorem joinB_pre : ∀ (p : ByteArray) (r : List ByteArray), joinB (p :: r) (by8 ".") = p ++ tailT r := by
  intro p r
  refine ba_ext ?_
  have h1 : (joinB (p :: r) (by8 ".")).data.toList = Lib.join ((p :: r).map (·.data.toList)) (by8 ".").data.toList := rfl
  rw [h1, List.map_cons, Lib.join_cons]
  have h2 : ∀ r : List ByteArray, (tailT r).data.toList = Lib.joinTail (by8 ".").data.toList (r.map (·.data.toList)) := by
    intro r
    induction r with
    | nil => simp [tailT, Lib.joinTail]; decide +kernel
    | cons q r ih =>
      simp only [tailT, Lib.joinTail, List.map_cons, List.flatten_cons] at ih ⊢
      rw [← ih]
      simp
  rw [← h2]
  simp
section
variable {E : Env} (hE : E.P = Go.Proofs.Tryz.prog) (hZ : ∀ w, E.K w → KZ w)
include hE hZ
set_option maxHeartbeats 2000000 in
theorem implVerOk_fx (v : Ver) (hl : v.pre.length ≤ 4294967296) (hp : ∀ p ∈ v.pre, p.size ≤ 281474976710656) : Fx E 205 [] [.agg v.av] [] (.lit (.bool (verOk v))) := by
  have hav : v.av = [.lit (.int .i64 v.maj), .lit (.int .i64 v.min), .lit (.int .i64 v.pat), .sl ro 1 (v.pre.map fun x => .lit (.string x))] := rfl
  refine (is205.to hE).fx [] (by simp) rfl rfl ?_
  simp [v205, hav, okC, frA, frA.frL]
  refine X_loop (τ := Nat) (fun i => ⟨[(1, .ptr 1000000000001 0 0), (13, .sl ⟨.no, true⟩ 1 [.lit (.int .i64 v.maj), .lit (.int .i64 v.min), .lit (.int .i64 v.pat)]), (14, .lit (.int .i64 3)), (15, .lit (.int .i64 i))], [(1000000000001, [.agg v.av])]⟩) (fun i => i ≤ 3 ∧ (0 < i → inR v.maj 0 999999999 = true) ∧ (1 < i → inR v.min 0 999999999 = true) ∧ (2 < i → inR v.pat 0 999999999 = true)) (fun i => 3 - i) 0 (by simp) (Wk.both (by simp [wkL, wkV.same]; exact wkV_no _ _ _ _) (by simp [wkB, hav])) ?_
  rintro i ⟨hi, g1, g2, g3⟩
  simp [hav]
  match i, hi with
  | 0, _ =>
    simp [mkF]
    refine vcall_go (within_fx hE v.maj 0 999999999) (by simp) (by simp) (by simp) (by simp) ?_
    simp
    cases c1 : inR v.maj 0 999999999
    · simp
      exact Fin_ret rfl (by simp [verOk, c1, reC])
    · simp
      exact ⟨1, ⟨by omega, fun h => by omega, fun h => by omega⟩, by omega, Wk.both (by simp [wkL, wkV.same]; rw [wrap_i64 (by omega) (by omega)]; exact wkV.same _) (by simp [wkB, hav])⟩
  | 1, _ =>
    simp [mkF]
    refine vcall_go (within_fx hE v.min 0 999999999) (by simp) (by simp) (by simp) (by simp) ?_
    simp
    cases c1 : inR v.min 0 999999999
    · simp
      exact Fin_ret rfl (by simp [verOk, c1, reC])
    · simp
      exact ⟨2, ⟨by omega, fun _ => g1 (by omega), fun h => by omega⟩, by omega, Wk.both (by simp [wkL, wkV.same]; rw [wrap_i64 (by omega) (by omega)]; exact wkV.same _) (by simp [wkB, hav])⟩
  | 2, _ =>
    simp [mkF]
    refine vcall_go (within_fx hE v.pat 0 999999999) (by simp) (by simp) (by simp) (by simp) ?_
    simp
    cases c1 : inR v.pat 0 999999999
    · simp
      exact Fin_ret rfl (by simp [verOk, c1, reC])
    · simp
      exact ⟨3, ⟨by omega, fun _ => g1 (by omega), fun h => g2 (by omega)⟩, by omega, Wk.both (by simp [wkL, wkV.same]; rw [wrap_i64 (by omega) (by omega)]; exact wkV.same _) (by simp [wkB, hav])⟩
  | 3, _ =>
    have k1 := g1 (by omega)
    have k2 := g2 (by omega)
    have k3 := g3 (by omega)
    simp
    refine X_loop (τ := Nat) (fun i => ⟨[(1, .ptr 1000000000001 0 0), (24, .sl ro 1 (v.pre.map fun x => .lit (.string x))), (25, .lit (.int .i64 v.pre.length)), (26, .lit (.int .i64 i))], [(1000000000001, [.agg v.av])]⟩) (fun i => i ≤ v.pre.length ∧ ∀ (k : Nat) (x : ByteArray), k < i → v.pre[k]? = some x → preOk x = true) (fun i => v.pre.length - i) 0 (by simp) (Wk.both (by simp [wkL, wkV.same]) (by simp [wkB, hav])) ?_
    rintro i ⟨hi, hall⟩
    simp [hav]
    by_cases hlt : i < v.pre.length
    · have hpz := hp _ (List.getElem_mem hlt)
      have no : preOk v.pre[i] = false → verOk v = false := fun h => by simp only [verOk, all_false hlt h]; rfl
      have next : preOk v.pre[i] = true → ∃ j, (j ≤ v.pre.length ∧ ∀ (k : Nat) (x : ByteArray), k < j → v.pre[k]? = some x → preOk x = true) ∧ v.pre.length - j < v.pre.length - i ∧ j = i + 1 := fun h => ⟨i + 1, ⟨by omega, fun k x hk hx => by
        rcases Nat.lt_succ_iff_lt_or_eq.1 hk with h2 | rfl
        · exact hall k x h2 hx
        · rw [List.getElem?_eq_getElem hlt] at hx; rw [← Option.some.inj hx]; exact h⟩, by omega, rfl⟩
      obtain ⟨p, hpe⟩ : ∃ p, v.pre[i] = p := ⟨_, rfl⟩
      simp [hlt, mkF]
      rw [hpe] at no next hpz ⊢
      refine vcall_go (within_fx hE p.size 1 20) (by simp) (by simp) (by simp) (by simp) ?_
      simp
      cases c1 : inR p.size 1 20
      · have := no (by simp [preOk, c1])
        simp
        exact Fin_ret rfl (by rw [this]; rfl)
      · simp
        refine vcall_go (all_fx hE (g := 230) (hE ▸ (by kernel_rfl : fnOk Go.Proofs.Tryz.prog 230 = true)) (verOk1_fx hE) p (by omega)) (by simp [strip]) (by simp [argOk]) (by simp [ptrs]) (by simp) ?_
        simp
        cases c2 : allB preB p
        · have := no (by simp [preOk, c2])
          simp
          exact Fin_ret rfl (by rw [this]; rfl)
        · simp
          refine vcall_go (isNumber_fx hE p (by omega)) (by simp) (by simp) (by simp) (by simp) ?_
          simp
          cases c3 : numB p
          · obtain ⟨j, h1, h2, rfl⟩ := next (by simp [preOk, c1, c2, c3])
            simp
            exact ⟨_, h1, h2, Wk.both (by simp [wkL, wkV.same]; rw [wrapN (by omega)]; exact wkV.same _) (by simp [wkB, hav])⟩
          · simp
            refine vcall_go (implReadDec_fx hE hZ p (by omega)) (by simp) (by simp) (by simp) (by simp) ?_
            simp
            by_cases c4 : readDec p < 0
            · have := no (by simp [preOk, c1, c2, c3]; omega)
              simp [c4]
              exact Fin_ret rfl (by rw [this]; rfl)
            · obtain ⟨j, h1, h2, rfl⟩ := next (by simp [preOk, c1, c2, c3]; omega)
              simp [c4]
              exact ⟨_, h1, h2, Wk.both (by simp [wkL, wkV.same]; rw [wrapN (by omega)]; exact wkV.same _) (by simp [wkB, hav])⟩
    · have hpre : v.pre.all preOk = true := all_true fun k x hx => hall k x (by have := (List.getElem?_eq_some_iff.1 hx).1; omega) hx
      simp [hlt]
      exact Fin_ret rfl (by simp [verOk, k1, k2, k3, hpre, reC]; omega)
set_option maxHeartbeats 2000000 in
theorem implVerT_fx (v : Ver) (hl : v.pre.length ≤ 4294967296) (hp : ∀ p ∈ v.pre, p.size ≤ 281474976710656) : Fx E 158 [] [.agg v.av] [] (.lit (.string (verT v))) := by
  have hav : v.av = [.lit (.int .i64 v.maj), .lit (.int .i64 v.min), .lit (.int .i64 v.pat), .sl ro 1 (v.pre.map fun x => .lit (.string x))] := rfl
  refine (is158.to hE).fx [] (by simp) rfl rfl ?_
  simp [v158, hav, okC]
  refine vcall_go (implVerOk_fx hE hZ v hl hp) (by simp [hav, ro]) (by simp [hav]) (by simp [hav]) (by simp) ?_
  simp
  cases c1 : verOk v
  · simp
    exact Fin_ret rfl (by simp [verT, c1, reC])
  · obtain ⟨⟨a, e1, h1⟩, ⟨b, e2, h2⟩, ⟨c, e3, h3⟩, h4, h5⟩ := verOk_b c1
    have k1 := decT_size (k := 8) (n := a) (by omega)
    have k2 := decT_size (k := 8) (n := b) (by omega)
    have k3 := decT_size (k := 8) (n := c) (by omega)
    have es : (by8 ".").size = 1 := by decide +kernel
    have es2 : (by8 "-").size = 1 := by decide +kernel
    have hv : verT v = coreT v ++ preT v.pre := by simp [verT, c1]
    have hc : coreT v = decT a ++ by8 "." ++ decT b ++ by8 "." ++ decT c := by simp [coreT, e1, e2, e3]
    have hcs := coreT_size (verOk_b c1)
    have hps : (preT v.pre).size ≤ 105 := by
      have := preT_size v.pre 20 h5
      omega
    simp
    rw [e1, e2, e3]
    refine vcall_go (implDec_fx hE hZ a (by omega)) (by simp) (by simp) (by simp) (by simp) ?_
    simp
    refine ⟨by omega, ?_⟩
    refine vcall_go (implDec_fx hE hZ b (by omega)) (by simp) (by simp) (by simp) (by simp) ?_
    simp
    refine ⟨by omega, by omega, ?_⟩
    refine vcall_go (implDec_fx hE hZ c (by omega)) (by simp) (by simp) (by simp) (by simp) ?_
    simp
    refine ⟨by omega, ?_⟩
    rw [← hc]
    cases hpr : v.pre with
    | nil =>
      rw [hpr] at hv
      simp
      exact Fin_ret rfl (by rw [hv, preT, app_nil]; rfl)
    | cons p r =>
      have hj := joinB_pre p r
      rw [hpr] at hv hps h4
      have hjs : (joinB (p :: r) (by8 ".")).size ≤ 105 := by
        rw [hj]
        simp only [preT, ByteArray.size_append] at hps ⊢
        omega
      simp
      refine vcall_go (join_fx hE (p :: r) (by8 ".") (by omega) (by omega)) (by simp [ro]) (by simp) (by simp) (by simp) ?_
      simp
      refine ⟨by omega, by omega, ?_⟩
      exact Fin_ret rfl (by rw [hv, preT, hj]; simp [reC, ByteArray.append_assoc])
end
def cutC (c : UInt8) (s : ByteArray) : AV := .tup (if 0 ≤ Lib.indexB s (one c) then [.lit (.string (s.extract 0 (Lib.indexB s (one c)).toNat)), .lit (.string (s.extract ((Lib.indexB s (one c)).toNat + 1) s.size)), .lit (.bool true)] else [.lit (.string s), .lit (.string (by8 "")), .lit (.bool false)])
section
variable {E : Env} (hE : E.P = Go.Proofs.Tryz.prog) (hZ : ∀ w, E.K w → KZ w)
include hE hZ
omit hZ in
theorem cutM_fx (hM : ∀ w, E.K w → KM w) (c : UInt8) (s : ByteArray) (hs : s.size < 4294967281) : Fx E 143 [] [.lit (.string s), .lit (.string (one c))] [] (cutC c s) := by
  have hres : resOk (cutC c s) = true := by unfold cutC; split <;> rfl
  have hrel : ∀ x base, Rel x base (.tuple #[.string ⟨(Lib.cut s.data.toList (one c).data.toList).1.toArray⟩, .string ⟨(Lib.cut s.data.toList (one c).data.toList).2.1.toArray⟩, .bool (Lib.cut s.data.toList (one c).data.toList).2.2]) (cutC c s) := by
    intro x base
    have tup3 : ∀ (a b : ByteArray) (d : Bool), Rel x base (.tuple #[.string a, .string b, .bool d]) (.tup [.lit (.string a), .lit (.string b), .lit (.bool d)]) := by
      intro a b d
      refine .tup _ _ rfl fun j v e hv he => ?_
      match j with
      | 0 => obtain rfl := Option.some.inj hv; obtain rfl := Option.some.inj he; exact .lit _ rfl
      | 1 => obtain rfl := Option.some.inj hv; obtain rfl := Option.some.inj he; exact .lit _ rfl
      | 2 => obtain rfl := Option.some.inj hv; obtain rfl := Option.some.inj he; exact .lit _ rfl
      | j + 3 => simp at he
    rcases idx_cases c s with ⟨h, _⟩ | ⟨i, _, _, _, h⟩
    · obtain ⟨q1, q2, q3⟩ := Lib.cutB_miss s (one c) h
      rw [q1, q2, q3, cutC, h, ← ba_nil]
      exact tup3 _ _ _
    · obtain ⟨q1, q2, q3⟩ := Lib.cutB_hit s (one c) i h
      rw [q1, q2, q3, cutC, h, if_pos (by omega)]
      exact tup3 _ _ _
  refine Fx_res (args := [.string s, .string (one c)]) hres hrel fun w hw => ?_
  rw [hE]
  obtain ⟨m, hm⟩ := hM w hw
  refine (Go.Proofs.Tryz.strings_Cut s (one c) m w hs hm).mono ?_
  rintro e w' ⟨rfl, n, rfl⟩
  exact ⟨rfl, ⟨rfl, rfl, rfl, Nat.le_refl _, fun _ _ => rfl⟩⟩
theorem cut_fx (c : UInt8) (s : ByteArray) (hs : s.size < 4294967281) : Fx E 143 [] [.lit (.string s), .lit (.string (one c))] [] (cutC c s) := cutM_fx hE (fun w h => (hZ w h).km) c s hs
set_option maxHeartbeats 2000000 in
theorem implReadVer_fx (s : ByteArray) (hs : s.size ≤ 1099511627) : Fx E 107 [] [.lit (.string s)] [] (verRes s) := by
  have e45 : by8 "-" = one 45 := by decide +kernel
  have e46 : by8 "." = one 46 := by decide +kernel
  refine (is107.to hE).fx [] (by simp) rfl (verRes_ok s) ?_
  simp [v107, okC, putElem, upd, fill]
  rw [e45, e46]
  refine vcall_go (cut_fx hE hZ 45 s (by omega)) (by simp) (by simp) (by simp) (by simp) ?_
  obtain ⟨core, hcore⟩ : ∃ core, coreS s = core := ⟨_, rfl⟩
  obtain ⟨pre, hpre⟩ : ∃ pre, preS s = pre := ⟨_, rfl⟩
  obtain ⟨ap, hap⟩ : ∃ ap, apS s = ap := ⟨_, rfl⟩
  have hcz : core.size ≤ s.size := hcore ▸ coreS_size s
  have hpl : pre.length ≤ s.size + 1 := hpre ▸ preS_len s
  have hpz : ∀ p ∈ pre, p.size ≤ s.size := fun p hp => preS_size (hpre ▸ hp)
  rcases idx_cases 45 s with ⟨h1, _⟩ | ⟨i, hi, _, _, h2⟩
  have e0 : cutC 45 s = .tup [.lit (.string core), .lit (.string (by8 "")), .lit (.bool false)] := by rw [cutC, h1, ← hcore, coreS, dashI, h1]; rfl
  have e2 : pre = [] := by rw [← hpre, preS, dashI, h1]; rfl
  have e3 : ap = .nl := by rw [← hap, apS, dashI, h1]; rfl
  rw [e0]
  obtain ⟨hs', hsr⟩ : ∃ b : Bool, b = false := ⟨_, rfl⟩
  rotate_left
  have e0 : cutC 45 s = .tup [.lit (.string core), .lit (.string (s.extract (i + 1) s.size)), .lit (.bool true)] := by rw [cutC, h2, ← hcore, coreS, dashI, h2, if_pos (by omega), if_pos (by omega)]; rfl
  have e2 : spl 46 (s.extract (i + 1) s.size) = pre := by rw [← hpre, preS, dashI, h2, if_pos (by omega)]; rfl
  have e3 : ap = .no := by rw [← hap, apS, dashI, h2, if_pos (by omega)]
  have hsplit := split_fx hE hZ (s.extract (i + 1) s.size) (one 46) (by rw [ext_size]; omega) (by decide)
  rw [show spB (one 46) (s.extract (i + 1) s.size) = pre from e2] at hsplit
  rw [e0]
  rotate_left
  all_goals
    simp
    refine vcall_go (split_fx hE hZ core (one 46) (by omega) (by decide)) (by simp) (by simp) (by simp) (by simp) ?_
    rw [show spB (one 46) core = spl 46 core from rfl]
    have hpz' : ∀ (i : Nat) (p : ByteArray), (spl 46 core)[i]? = some p → p.size ≤ s.size := fun i p h => by have := spl_size h; omega
    have hcand : cand s = mk3 pre (spl 46 core) := by rw [cand, hcore, hpre]
    obtain ⟨ps, hps⟩ : ∃ ps, spl 46 core = ps := ⟨_, rfl⟩
    rw [hps] at hpz' hcand ⊢
    simp
    by_cases hl3 : ps.length = 3
    · obtain ⟨a, b, c, rfl⟩ : ∃ a b c, ps = [a, b, c] := by
        match ps, hl3 with
        | [a, b, c], _ => exact ⟨a, b, c, rfl⟩
      have hca : cand s = some ⟨readDec a, readDec b, readDec c, pre⟩ := hcand
      have za := hpz' 0 a rfl
      have zb := hpz' 1 b rfl
      have zc := hpz' 2 c rfl
      simp [mkF]
      refine vcall_go (implReadDec_fx hE hZ a (by omega)) (by simp) (by simp) (by simp) (by simp) ?_
      simp [okC, putElem, upd, mkF]
      refine vcall_go (implReadDec_fx hE hZ b (by omega)) (by simp) (by simp) (by simp) (by simp) ?_
      simp [okC, putElem, upd, mkF]
      refine vcall_go (implReadDec_fx hE hZ c (by omega)) (by simp) (by simp) (by simp) (by simp) ?_
      simp [okC, putElem, upd, mkF, fill]
      first
        | (refine vcall_go hsplit (by simp) (by simp) (by simp) (by simp) ?_; simp [okC, putElem, upd, mkF, fill])
        | skip
      refine vcall_go (implVerT_fx hE hZ ⟨readDec a, readDec b, readDec c, pre⟩ (by simp; omega) (fun p hp => by have := hpz p hp; omega)) (by simp [Ver.av, ro, e2]) (by simp) (by simp) (by simp) ?_
      simp
      by_cases hv : verT ⟨readDec a, readDec b, readDec c, pre⟩ = s
      · have hr : verRes s = verSome ap ⟨readDec a, readDec b, readDec c, pre⟩ := by rw [verRes, readVer, hca]; simp [hv, hap]
        rw [hr]
        have hne : ¬ s = by8 "" := by
          rintro rfl
          have h3 := spl_len_le 46 core
          rw [hps] at h3
          have h4 : (by8 "").size = 0 := by decide +kernel
          simp at h3
          omega
        simp [hv, hne, okC, putElem, upd]
        exact Fin_ret2 rfl (by simp [verSome, e2, e3, reC, reC.reL])
      · have hr : verRes s = verNone := by rw [verRes, readVer, hca]; simp [hv]
        rw [hr]
        simp [hv, okC, putElem, upd, fill]
        exact Fin_ret2 rfl rfl
    · have hl3' : ¬ (ps.length : Int) = 3 := by omega
      have hr : verRes s = verNone := by
        rw [verRes, readVer, hcand, mk3_none hl3]; rfl
      rw [hr]
      simp [hl3', okC, putElem, upd, fill]
      exact Fin_ret2 rfl rfl
noncomputable def isVer (s : ByteArray) : Bool := (readVer s).isSome
theorem isVersion_fx (s : ByteArray) (hs : s.size ≤ 1099511627) : Fx E 60 [] [.lit (.string s)] [] (.lit (.bool (isVer s))) := by
  refine (is60.to hE).fx [] (by simp) rfl rfl ?_
  simp [v60]
  refine vcall_go (implReadVer_fx hE hZ s hs) (by simp) (by simp) (by simp) (by simp) ?_
  unfold isVer verRes
  cases readVer s with
  | none =>
    simp [verNone, okC, putElem, upd]
    exact Fin_ret rfl rfl
  | some v =>
    rcases apS_cases s with h | h
    · simp [verSome, okC, putElem, upd, h]
      exact Fin_ret rfl rfl
    · simp [verSome, okC, putElem, upd, h]
      exact Fin_ret rfl rfl
end
end Go.Proofs.YticockdhfglolaaGreatDoor.Vm
namespace Go.Proofs.YticockdhfglolaaGreatDoor.Vm
open Go Go.RowKit
set_option linter.unusedVariables false
set_option linter.unusedSimpArgs false
theorem by46 : by8 "." = one 46 := by decide +kernel
theorem by45 : by8 "-" = one 45 := by decide +kernel
theorem preT_join (p : ByteArray) (r : List ByteArray) : preT (p :: r) = one 45 ++ joinB (p :: r) (one 46) := by
  rw [← by46, joinB_pre, preT, by45, ByteArray.append_assoc]
theorem dec_free {c : UInt8} (h : c.toNat < 48 ∨ 57 < c.toNat) (n : Nat) : free c (decT n) := by
  rw [free_iff]
  intro b hb e
  subst e
  have := dec_digits n b (by rwa [← decT_list])
  unfold isD at this
  omega
theorem coreT_join (v : Ver) : coreT v = joinB [decT v.maj.toNat, decT v.min.toNat, decT v.pat.toNat] (one 46) := by
  rw [coreT, joinB_cons, joinB_cons, joinB_one, by46]
  simp only [ByteArray.append_assoc]
theorem core_free (v : Ver) : free 45 (coreT v) := by
  rw [coreT]
  simp only [free_app]
  have h := fun n => dec_free (c := 45) (by decide) n
  exact ⟨⟨⟨⟨h _, free_dec (by decide +kernel)⟩, h _⟩, free_dec (by decide +kernel)⟩, h _⟩
theorem core_spl (v : Ver) : spl 46 (coreT v) = [decT v.maj.toNat, decT v.min.toNat, decT v.pat.toNat] := by
  rw [coreT_join]
  refine spl_join 46 _ (by simp) fun p hp => ?_
  have h := fun n => dec_free (c := 46) (by decide) n
  simp only [List.mem_cons, List.not_mem_nil, or_false] at hp
  rcases hp with rfl | rfl | rfl
  · exact h _
  · exact h _
  · exact h _
/-- what is read out of such a text -/
theorem cand_text (a b c : Nat) (ha : a ≤ 999999999) (hb : b ≤ 999999999) (hc : c ≤ 999999999) (pre : List ByteArray) (hf : ∀ p ∈ pre, free 46 p) : cand (coreT ⟨a, b, c, pre⟩ ++ preT pre) = some ⟨a, b, c, pre⟩ := by
  have h3 : mk3 pre (spl 46 (coreT ⟨a, b, c, pre⟩)) = some ⟨a, b, c, pre⟩ := by
    rw [core_spl]
    simp only [mk3, Int.toNat_natCast]
    rw [readDec_some ha, readDec_some hb, readDec_some hc]
  have hfr := core_free ⟨a, b, c, pre⟩
  generalize coreT ⟨a, b, c, pre⟩ = core at h3 hfr
  cases pre with
  | nil =>
    have hd : dashI core = -1 := idx_miss hfr
    rw [preT, app_nil]
    unfold cand
    rw [preS, coreS, hd, if_neg (by omega), if_neg (by omega)]
    exact h3
  | cons p r =>
    rw [preT_join]
    obtain ⟨J, hJ⟩ : ∃ J, joinB (p :: r) (one 46) = J := ⟨_, rfl⟩
    rw [hJ]
    have e1 : bt (core ++ (one 45 ++ J)) core.size = 45 := by
      have := bt_appR (a := core) (b := one 45 ++ J) (j := 0) (by rw [ByteArray.size_append, one_size]; omega)
      rw [Nat.add_zero] at this
      rw [this, bt_appL (by rw [one_size]; omega)]
      rfl
    have hd : dashI (core ++ (one 45 ++ J)) = core.size := idx_hit (by rw [ByteArray.size_append, ByteArray.size_append, one_size]; omega) e1 fun j hj => by rw [bt_appL hj]; exact hfr j hj
    have e3 := ext_appR (core ++ one 45) J _ rfl
    rw [ByteArray.size_append, one_size, ByteArray.append_assoc] at e3
    unfold cand
    rw [preS, coreS, hd, if_pos (by omega), if_pos (by omega), Int.toNat_natCast, ext_appL, e3, ← hJ, spl_join 46 _ (by simp) hf]
    exact h3
theorem pre_free {p : ByteArray} (h : preOk p = true) : free 46 p := by
  intro j hj e
  simp only [preOk, Bool.and_eq_true] at h
  have := allB_iff.1 h.1.1 j hj
  rw [e] at this
  revert this
  decide +kernel
theorem verOk_pre {v : Ver} (h : verOk v = true) : ∀ p ∈ v.pre, preOk p = true := by
  simp only [verOk, Bool.and_eq_true] at h
  exact fun p hp => List.all_eq_true.1 h.1.1.1.1 p hp
theorem ver_round {v : Ver} (h : verOk v = true) : readVer (verT v) = some v := by
  have hp := verOk_pre h
  obtain ⟨⟨a, e1, h1⟩, ⟨b, e2, h2⟩, ⟨c, e3, h3⟩, h4, h5⟩ := verOk_b h
  obtain ⟨maj, min, pat, pre⟩ := v
  simp only at e1 e2 e3 hp
  subst e1 e2 e3
  have hc := cand_text a b c h1 h2 h3 pre fun p hm => pre_free (hp p hm)
  have ht : verT ⟨a, b, c, pre⟩ = coreT ⟨a, b, c, pre⟩ ++ preT pre := by simp [verT, h]
  rw [ht, readVer, hc, Option.bind_some, ht, if_pos rfl]
theorem verT_ne {v : Ver} (h : verOk v = true) : verT v ≠ by8 "" := by
  intro e
  have := congrArg ByteArray.size e
  have es : (by8 ".").size = 1 := by decide +kernel
  rw [verT, if_pos h, by8_nil, coreT] at this
  simp only [ByteArray.size_append, es] at this
  omega
theorem cand_nil : cand (by8 "") = none := by
  have h : dashI (by8 "") = -1 := idx_miss fun j hj => by rw [by8_nil] at hj; omega
  unfold cand
  rw [coreS, h, if_neg (by omega), spl_none fun j hj => by rw [by8_nil] at hj; omega]
  rfl
theorem ver_back {s : ByteArray} {v : Ver} (h : readVer s = some v) : verOk v = true ∧ verT v = s := by
  unfold readVer at h
  cases hc : cand s with
  | none => rw [hc] at h; cases h
  | some w =>
    rw [hc, Option.bind_some] at h
    split at h
    · rename_i e
      obtain rfl := Option.some.inj h
      refine ⟨?_, e⟩
      cases ho : verOk w
      · rw [verT, if_neg (by simp [ho])] at e
        rw [← e, cand_nil] at hc
        cases hc
      · rfl
    · cases h
theorem verT_nil {v : Ver} : verT v = by8 "" ↔ verOk v = false := by
  constructor
  · intro h
    cases ho : verOk v
    · rfl
    · exact absurd h (verT_ne ho)
  · intro h
    rw [verT, if_neg (by simp [h])]
theorem isVer_of {s : ByteArray} {v : Ver} (h : readVer s = some v) : isVer s = true := by rw [isVer, h]; rfl
theorem isVer_nil : isVer (by8 "") = false := by rw [isVer, readVer, cand_nil]; rfl
/-- the version behind it, among those with texts behind -/
def Ver.app0 (v : Ver) : Ver := ⟨v.maj, v.min, v.pat, v.pre ++ [by8 "0"]⟩
theorem zero_pre : preOk (by8 "0") = true := by
  have e : by8 "0" = decT 0 := by rw [decT, Lib.decDigits]; decide +kernel
  have h : readDec (by8 "0") = 0 := by rw [e]; exact readDec_some (by omega)
  simp only [preOk, h]
  decide +kernel
theorem zero_free : free 46 (by8 "0") := pre_free zero_pre
theorem text_app0 {v : Ver} (hp : v.pre ≠ []) : coreT v.app0 ++ preT v.app0.pre = coreT v ++ preT v.pre ++ by8 ".0" := by
  have e : by8 ".0" = by8 "." ++ by8 "0" := by decide +kernel
  obtain ⟨maj, min, pat, pre⟩ := v
  cases pre with
  | nil => exact absurd rfl hp
  | cons p r =>
    rw [show coreT (Ver.app0 ⟨maj, min, pat, p :: r⟩) = coreT ⟨maj, min, pat, p :: r⟩ from rfl, show (Ver.app0 ⟨maj, min, pat, p :: r⟩).pre = p :: r ++ [by8 "0"] from rfl, preT_snoc, e]
    simp only [ByteArray.append_assoc]
theorem ver_dot {s : ByteArray} {v : Ver} (h : readVer s = some v) (hp : v.pre ≠ []) : readVer (s ++ by8 ".0") = if verOk v.app0 = true then some v.app0 else none := by
  obtain ⟨ho, hs⟩ := ver_back h
  have hpp := verOk_pre ho
  obtain ⟨⟨a, e1, h1⟩, ⟨b, e2, h2⟩, ⟨c, e3, h3⟩, h4, h5⟩ := verOk_b ho
  have ht := text_app0 hp
  have hvt : verT v = coreT v ++ preT v.pre := by simp [verT, ho]
  rw [← hvt, hs] at ht
  have hc : cand (s ++ by8 ".0") = some v.app0 := by
    obtain ⟨maj, min, pat, pre⟩ := v
    simp only at e1 e2 e3 hpp
    subst e1 e2 e3
    have := cand_text a b c h1 h2 h3 (pre ++ [by8 "0"]) fun p hm => by
      rcases List.mem_append.1 hm with hm | hm
      · exact pre_free (hpp p hm)
      · rw [List.mem_singleton.1 hm]; exact zero_free
    rw [← ht]
    exact this
  rw [readVer, hc, Option.bind_some]
  cases hk : verOk v.app0
  · have e1 : verT v.app0 ≠ s ++ by8 ".0" := by
      rw [verT_nil.2 hk]
      intro e
      have := congrArg ByteArray.size e
      have es : (by8 ".0").size = 2 := by decide +kernel
      rw [by8_nil, ByteArray.size_append, es] at this
      omega
    rw [if_neg e1]
    simp
  · have e1 : verT v.app0 = s ++ by8 ".0" := by rw [← ht, verT, if_pos hk]
    rw [if_pos e1]
    simp
/-- the end of the range of a version alone -/
noncomputable def exHigh (v : Ver) : ByteArray := if v.pre = [] then verT ⟨v.maj, v.min, v.pat + 1, [by8 "0"]⟩ else verT v.app0
noncomputable def exactO (s : ByteArray) : Option (ByteArray × ByteArray) := match readVer s with
  | some v => if exHigh v = by8 "" then none else some (s, exHigh v)
  | none => none
def bndV (l h : ByteArray) : AV := .agg [.lit (.string l), .lit (.string h)]
noncomputable def exactRes (s : ByteArray) : AV := .sl ⟨.no, true⟩ 2 (match exactO s with
  | some p => [bndV p.1 p.2]
  | none => [])
theorem verOk_pre0 (a b c : Int) : verOk ⟨a, b, c, [by8 "0"]⟩ = verOk ⟨a, b, c, []⟩ := by
  simp [verOk, zero_pre]
theorem verT_size (w : Ver) : (verT w).size ≤ 200 := by
  cases hw : verOk w
  · rw [verT_nil.2 hw, by8_nil]; omega
  · have hb := verOk_b hw
    have h1 := coreT_size hb
    have h2 := preT_size w.pre 20 hb.pre
    have h3 := hb.len
    rw [verT, if_pos hw, ByteArray.size_append]
    omega
end Go.Proofs.YticockdhfglolaaGreatDoor.Vm
