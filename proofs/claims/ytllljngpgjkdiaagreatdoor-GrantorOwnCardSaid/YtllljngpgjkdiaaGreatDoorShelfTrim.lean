/-
  DERIVED: THE SHELF's CONTRACTS AT THIS DUMP, IN PLAIN WORDS (tools/lay-plain.mjs out of 'ShelfSrcTmp.lean', which tools/lay-shelf.mjs wrote): THE SAME DECLARATIONS UNDER THE SAME NAMES: 'import', 'namespace', 'open', 'def', 'theorem' AND NOTHING ELSE: no command of the shelf's: FOR A HAND-IN. Each laying: the table of numbers ('.._ren') and one theorem, a field a fact of the dump's own or the kernel's comparison; each contract: ONE APPLICATION.
-/
import Derived.Shelf.Bytes.SlTrim
import Derived.Ground.SlbvProg
import Derived.Test.YtllljngpgjkdiaaGreatDoorProg
namespace Go.Proofs
open Go.Shelf
def Tryz.lays104_ren : Go.Shelf.Ren := ⟨fun | 6 => 132 | 10 => 164 | 9 => 163 | 11 => 165 | 13 => 167 | 12 => 166 | 15 => 169 | 14 => 168 | 16 => 197 | 19 => 200 | 18 => 199 | 17 => 198 | 21 => 212 | 20 => 211 | n => n, fun | 22 => 127 | 9 => 9 | 3 => 3 | 4 => 4 | 5 => 5 | 28 => 233 | 27 => 232 | 0 => 0 | 31 => 236 | 21 => 21 | 33 => 261 | 36 => 278 | 37 => 222 | 40 => 281 | 39 => 280 | n => n, fun | 0 => 1 | 1 => 2 | n => n⟩
theorem Tryz.lays104 : Go.Proofs.SlLaysV.n6 Tryz.prog Tryz.lays104_ren := {
  mixed := by kernel_rfl
  f6 := Tryz.func132.trans (congrArg some (by kernel_rfl))
  f9 := Tryz.func163.trans (congrArg some (by kernel_rfl))
  f10 := Tryz.func164.trans (congrArg some (by kernel_rfl))
  f11 := Tryz.func165.trans (congrArg some (by kernel_rfl))
  f12 := Tryz.func166.trans (congrArg some (by kernel_rfl))
  f13 := Tryz.func167.trans (congrArg some (by kernel_rfl))
  f14 := Tryz.func168.trans (congrArg some (by kernel_rfl))
  f15 := Tryz.func169.trans (congrArg some (by kernel_rfl))
  f16 := Tryz.func197.trans (congrArg some (by kernel_rfl))
  f17 := Tryz.func198.trans (congrArg some (by kernel_rfl))
  f18 := Tryz.func199.trans (congrArg some (by kernel_rfl))
  f19 := Tryz.func200.trans (congrArg some (by kernel_rfl))
  f20 := Tryz.func211.trans (congrArg some (by kernel_rfl))
  f21 := Tryz.func212.trans (congrArg some (by kernel_rfl))
  t0 := Tryz.underlying0
  a0 := Tryz.isAgg0
  z0 := Tryz.sizeOf0
  v0 := Tryz.zeroValue0
  t3 := Tryz.underlying3
  a3 := Tryz.isAgg3
  z3 := Tryz.sizeOf3
  v3 := Tryz.zeroValue3
  t4 := Tryz.underlying4
  a4 := Tryz.isAgg4
  z4 := Tryz.sizeOf4
  v4 := Tryz.zeroValue4
  t5 := Tryz.underlying5
  a5 := Tryz.isAgg5
  z5 := Tryz.sizeOf5
  v5 := Tryz.zeroValue5
  t9 := Tryz.underlying9
  a9 := Tryz.isAgg9
  z9 := Tryz.sizeOf9
  v9 := Tryz.zeroValue9
  t21 := Tryz.underlying21
  a21 := Tryz.isAgg21
  z21 := Tryz.sizeOf21
  v21 := Tryz.zeroValue21
  t22 := Tryz.underlying127
  a22 := Tryz.isAgg127
  z22 := Tryz.sizeOf127
  v22 := Tryz.zeroValue127
  t27 := Tryz.underlying232
  a27 := Tryz.isAgg232
  z27 := Tryz.sizeOf232
  t28 := Tryz.underlying233
  a28 := Tryz.isAgg233
  z28 := Tryz.sizeOf233
  v28 := Tryz.zeroValue233
  t31 := Tryz.underlying236
  a31 := Tryz.isAgg236
  z31 := Tryz.sizeOf236
  v31 := Tryz.zeroValue236
  t33 := Tryz.underlying261
  a33 := Tryz.isAgg261
  z33 := Tryz.sizeOf261
  v33 := Tryz.zeroValue261
  t36 := Tryz.underlying278
  a36 := Tryz.isAgg278
  z36 := Tryz.sizeOf278
  t37 := Tryz.underlying222
  a37 := Tryz.isAgg222
  z37 := Tryz.sizeOf222
  v37 := Tryz.zeroValue222
  t39 := Tryz.underlying280
  a39 := Tryz.isAgg280
  z39 := Tryz.sizeOf280
  v39 := Tryz.zeroValue280
  t40 := Tryz.underlying281
  a40 := Tryz.isAgg281
  z40 := Tryz.sizeOf281
  v40 := Tryz.zeroValue281 }
end Go.Proofs
