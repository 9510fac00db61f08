/- DERIVED: THE SHELF's CONTRACTS AT THIS DUMP, IN PLAIN WORDS (tools/lay-plain.mjs out of 'TryzShelf.lean', which tools/lay-shelf.mjs wrote): THE SAME DECLARATIONS UNDER THE SAME NAMES: 'import', 'names. -/
import Derived.Shelf.Strings.Trim
import Derived.Shelf.Small.Utf8
import Derived.Shelf.Small.Bits
import Derived.Shelf.Small.Strs
import Derived.Shelf.LaysM
import Derived.Shelf.Bits.Mul64
import Derived.Shelf.Slices.Turned
import Derived.Shelf.Strings.SlTrimAscii
import Derived.Test.YtaoplcclemckjaaGreatDoorProg
namespace Go.Proofs
open Go.Shelf
def Tryz.lays160_ren : Go.Shelf.Ren := ⟨fun | 160 => 221 | 232 => 264 | 231 => 263 | 227 => 265 | 234 => 267 | 233 => 266 | 236 => 269 | 235 => 268 | 228 => 307 | 271 => 310 | 151 => 309 | 197 => 308 | 120 => 336 | 152 => 335 | 260 => 334 | 137 => 350 | 119 => 351 | 224 => 352 | 225 => 353 | 217 => 361 | 266 => 368 | n => n, fun | 9 => 9 | 4 => 4 | 3 => 3 | 5 => 5 | 117 => 309 | 116 => 308 | 0 => 0 | 124 => 312 | 21 => 21 | 105 => 336 | 46 => 289 | 119 => 383 | 139 => 386 | 138 => 385 | n => n, fun | 3 => 0 | 4 => 1 | n => n⟩
theorem Tryz.lays160 : Go.Proofs.Lays.n160 Tryz.prog Tryz.lays160_ren := {
  mixed := by kernel_rfl
  f119 := Tryz.func351.trans (congrArg some (by kernel_rfl))
  f120 := Tryz.func336.trans (congrArg some (by kernel_rfl))
  f137 := Tryz.func350.trans (congrArg some (by kernel_rfl))
  f151 := Tryz.func309.trans (congrArg some (by kernel_rfl))
  f152 := Tryz.func335.trans (congrArg some (by kernel_rfl))
  f160 := Tryz.func221.trans (congrArg some (by kernel_rfl))
  f197 := Tryz.func308.trans (congrArg some (by kernel_rfl))
  f217 := Tryz.func361.trans (congrArg some (by kernel_rfl))
  f224 := Tryz.func352.trans (congrArg some (by kernel_rfl))
  f225 := Tryz.func353.trans (congrArg some (by kernel_rfl))
  f227 := Tryz.func265.trans (congrArg some (by kernel_rfl))
  f228 := Tryz.func307.trans (congrArg some (by kernel_rfl))
  f231 := Tryz.func263.trans (congrArg some (by kernel_rfl))
  f232 := Tryz.func264.trans (congrArg some (by kernel_rfl))
  f233 := Tryz.func266.trans (congrArg some (by kernel_rfl))
  f234 := Tryz.func267.trans (congrArg some (by kernel_rfl))
  f235 := Tryz.func268.trans (congrArg some (by kernel_rfl))
  f236 := Tryz.func269.trans (congrArg some (by kernel_rfl))
  f260 := Tryz.func334.trans (congrArg some (by kernel_rfl))
  f266 := Tryz.func368.trans (congrArg some (by kernel_rfl))
  f271 := Tryz.func310.trans (congrArg some (by kernel_rfl))
  t0 := Tryz.underlying0
  a0 := Tryz.isAgg0
  z0 := Tryz.sizeOf0
  v0 := Tryz.zeroValue0
  t3 := Tryz.underlying3
  a3 := Tryz.isAgg3
  z3 := Tryz.sizeOf3
  v3 := Tryz.zeroValue3
  t4 := Tryz.underlying4
  a4 := Tryz.isAgg4
  z4 := Tryz.sizeOf4
  v4 := Tryz.zeroValue4
  t5 := Tryz.underlying5
  a5 := Tryz.isAgg5
  z5 := Tryz.sizeOf5
  v5 := Tryz.zeroValue5
  t9 := Tryz.underlying9
  a9 := Tryz.isAgg9
  z9 := Tryz.sizeOf9
  v9 := Tryz.zeroValue9
  t21 := Tryz.underlying21
  a21 := Tryz.isAgg21
  z21 := Tryz.sizeOf21
  v21 := Tryz.zeroValue21
  t46 := Tryz.underlying289
  a46 := Tryz.isAgg289
  z46 := Tryz.sizeOf289
  v46 := Tryz.zeroValue289
  t105 := Tryz.underlying336
  a105 := Tryz.isAgg336
  z105 := Tryz.sizeOf336
  v105 := Tryz.zeroValue336
  t116 := Tryz.underlying308
  a116 := Tryz.isAgg308
  z116 := Tryz.sizeOf308
  t117 := Tryz.underlying309
  a117 := Tryz.isAgg309
  z117 := Tryz.sizeOf309
  v117 := Tryz.zeroValue309
  t119 := Tryz.underlying383
  a119 := Tryz.isAgg383
  z119 := Tryz.sizeOf383
  t124 := Tryz.underlying312
  a124 := Tryz.isAgg312
  z124 := Tryz.sizeOf312
  v124 := Tryz.zeroValue312
  t138 := Tryz.underlying385
  a138 := Tryz.isAgg385
  z138 := Tryz.sizeOf385
  v138 := Tryz.zeroValue385
  t139 := Tryz.underlying386
  a139 := Tryz.isAgg386
  z139 := Tryz.sizeOf386
  v139 := Tryz.zeroValue386
  g3 := by kernel_rfl
  g4 := by kernel_rfl }
def Tryz.lays125_ren : Go.Shelf.Ren := ⟨fun | 125 => 240 | 128 => 296 | 129 => 297 | n => n, fun | 46 => 289 | 3 => 3 | 51 => 328 | 53 => 330 | 4 => 4 | 5 => 5 | 9 => 9 | n => n, fun | n => n⟩
theorem Tryz.lays125 : Go.Proofs.Lays.n125 Tryz.prog Tryz.lays125_ren := {
  mixed := by kernel_rfl
  f125 := Tryz.func240.trans (congrArg some (by kernel_rfl))
  f128 := Tryz.func296.trans (congrArg some (by kernel_rfl))
  f129 := Tryz.func297.trans (congrArg some (by kernel_rfl))
  t3 := Tryz.underlying3
  a3 := Tryz.isAgg3
  z3 := Tryz.sizeOf3
  v3 := Tryz.zeroValue3
  t4 := Tryz.underlying4
  a4 := Tryz.isAgg4
  z4 := Tryz.sizeOf4
  v4 := Tryz.zeroValue4
  t5 := Tryz.underlying5
  a5 := Tryz.isAgg5
  z5 := Tryz.sizeOf5
  v5 := Tryz.zeroValue5
  t9 := Tryz.underlying9
  a9 := Tryz.isAgg9
  z9 := Tryz.sizeOf9
  v9 := Tryz.zeroValue9
  t46 := Tryz.underlying289
  a46 := Tryz.isAgg289
  z46 := Tryz.sizeOf289
  v46 := Tryz.zeroValue289
  t51 := Tryz.underlying328
  a51 := Tryz.isAgg328
  z51 := Tryz.sizeOf328
  v51 := Tryz.zeroValue328
  t53 := Tryz.underlying330
  a53 := Tryz.isAgg330
  z53 := Tryz.sizeOf330
  v53 := Tryz.zeroValue330 }
theorem Tryz.bits_Len (x : Int) (w : World) (h0 : 0 ≤ x) (h1 : x ≤ 18446744073709551615) :
    Calls Tryz.prog 240 #[.int .u64 x] w fun e w' => e = .returned (.int .i64 (Lib.bitLen x.toNat)) ∧ w' = w := Any.bits_Len Tryz.lays125 x w h0 h1
def Tryz.lays212_ren : Go.Shelf.Ren := ⟨fun | 212 => 323 | 263 => 344 | 264 => 345 | n => n, fun | 46 => 289 | 51 => 328 | 146 => 373 | 53 => 330 | 148 => 375 | n => n, fun | n => n⟩
theorem Tryz.lays212 : Go.Proofs.Lays.n212 Tryz.prog Tryz.lays212_ren := {
  mixed := by kernel_rfl
  f212 := Tryz.func323.trans (congrArg some (by kernel_rfl))
  f263 := Tryz.func344.trans (congrArg some (by kernel_rfl))
  f264 := Tryz.func345.trans (congrArg some (by kernel_rfl))
  t46 := Tryz.underlying289
  a46 := Tryz.isAgg289
  z46 := Tryz.sizeOf289
  v46 := Tryz.zeroValue289
  t51 := Tryz.underlying328
  a51 := Tryz.isAgg328
  z51 := Tryz.sizeOf328
  v51 := Tryz.zeroValue328
  t53 := Tryz.underlying330
  a53 := Tryz.isAgg330
  z53 := Tryz.sizeOf330
  v53 := Tryz.zeroValue330
  t146 := Tryz.underlying373
  a146 := Tryz.isAgg373
  z146 := Tryz.sizeOf373
  v146 := Tryz.zeroValue373
  t148 := Tryz.underlying375
  a148 := Tryz.isAgg375
  z148 := Tryz.sizeOf375
  v148 := Tryz.zeroValue375 }
open Go.RowKit Go.Lib in
theorem Tryz.bits_Mul (x y : Nat) (hx : x < 18446744073709551616) (hy : y < 18446744073709551616) (w : World) :
    Calls Tryz.prog 323 #[.int .u64 x, .int .u64 y] w fun e w' => e = .returned (.tuple #[.int .u64 ((x * y / 18446744073709551616 : Nat) : Int), .int .u64 ((x * y % 18446744073709551616 : Nat) : Int)]) ∧ w' = w := Any.bits_Mul Tryz.lays212 x y hx hy w
theorem Tryz.strings_Trim_ascii (s cutset : ByteArray) (w : World) (hs : s.size ≤ 9223372036854775807) (hcs : cutset.size < 4294967281) (hascii : ∀ (j : Nat) b, cutset.data.toList[j]? = some b → b.toNat < 128) :
    Calls Tryz.prog 221 #[.string s, .string cutset] w fun e w' => e = .returned (.string ⟨(Lib.trimS s.data.toList cutset.data.toList).toArray⟩) ∧ Go.RowKit.Below w.heap.size w w' := Any.strings_Trim_laid Tryz.lays160 (by kernel_rfl) s cutset w hs hcs hascii
end Go.Proofs
