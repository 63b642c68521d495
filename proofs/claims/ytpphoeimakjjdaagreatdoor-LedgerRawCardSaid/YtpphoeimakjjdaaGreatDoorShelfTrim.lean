/-
  DERIVED: THE SHELF's CONTRACTS AT THIS DUMP, IN PLAIN WORDS (tools/lay-plain.mjs out of 'ShelfSrcTmp.lean', which tools/lay-shelf.mjs wrote): THE SAME DECLARATIONS UNDER THE SAME NAMES: 'import', 'namespace', 'open', 'def', 'theorem' AND NOTHING ELSE: no command of the shelf's: FOR A HAND-IN. Each laying: the table of numbers ('.._ren') and one theorem, a field a fact of the dump's own or the kernel's comparison; each contract: ONE APPLICATION.
-/
import Derived.Shelf.Bytes.SlTrim
import Derived.Ground.SlbvProg
import Derived.Test.YtpphoeimakjjdaaGreatDoorProg
namespace Go.Proofs
open Go.Shelf
def Tryz.lays104_ren : Go.Shelf.Ren := ⟨fun | 6 => 104 | 10 => 142 | 9 => 141 | 11 => 143 | 13 => 145 | 12 => 144 | 15 => 147 | 14 => 146 | 16 => 167 | 19 => 170 | 18 => 169 | 17 => 168 | 21 => 181 | 20 => 180 | n => n, fun | 22 => 71 | 9 => 9 | 3 => 3 | 4 => 4 | 5 => 5 | 28 => 201 | 27 => 200 | 0 => 0 | 31 => 204 | 21 => 21 | 33 => 224 | 36 => 238 | 37 => 182 | 40 => 241 | 39 => 240 | n => n, fun | 0 => 0 | 1 => 1 | n => n⟩
theorem Tryz.lays104 : Go.Proofs.SlLaysV.n6 Tryz.prog Tryz.lays104_ren := {
  mixed := by kernel_rfl
  f6 := Tryz.func104.trans (congrArg some (by kernel_rfl))
  f9 := Tryz.func141.trans (congrArg some (by kernel_rfl))
  f10 := Tryz.func142.trans (congrArg some (by kernel_rfl))
  f11 := Tryz.func143.trans (congrArg some (by kernel_rfl))
  f12 := Tryz.func144.trans (congrArg some (by kernel_rfl))
  f13 := Tryz.func145.trans (congrArg some (by kernel_rfl))
  f14 := Tryz.func146.trans (congrArg some (by kernel_rfl))
  f15 := Tryz.func147.trans (congrArg some (by kernel_rfl))
  f16 := Tryz.func167.trans (congrArg some (by kernel_rfl))
  f17 := Tryz.func168.trans (congrArg some (by kernel_rfl))
  f18 := Tryz.func169.trans (congrArg some (by kernel_rfl))
  f19 := Tryz.func170.trans (congrArg some (by kernel_rfl))
  f20 := Tryz.func180.trans (congrArg some (by kernel_rfl))
  f21 := Tryz.func181.trans (congrArg some (by kernel_rfl))
  t0 := Tryz.underlying0
  a0 := Tryz.isAgg0
  z0 := Tryz.sizeOf0
  v0 := Tryz.zeroValue0
  t3 := Tryz.underlying3
  a3 := Tryz.isAgg3
  z3 := Tryz.sizeOf3
  v3 := Tryz.zeroValue3
  t4 := Tryz.underlying4
  a4 := Tryz.isAgg4
  z4 := Tryz.sizeOf4
  v4 := Tryz.zeroValue4
  t5 := Tryz.underlying5
  a5 := Tryz.isAgg5
  z5 := Tryz.sizeOf5
  v5 := Tryz.zeroValue5
  t9 := Tryz.underlying9
  a9 := Tryz.isAgg9
  z9 := Tryz.sizeOf9
  v9 := Tryz.zeroValue9
  t21 := Tryz.underlying21
  a21 := Tryz.isAgg21
  z21 := Tryz.sizeOf21
  v21 := Tryz.zeroValue21
  t22 := Tryz.underlying71
  a22 := Tryz.isAgg71
  z22 := Tryz.sizeOf71
  v22 := Tryz.zeroValue71
  t27 := Tryz.underlying200
  a27 := Tryz.isAgg200
  z27 := Tryz.sizeOf200
  t28 := Tryz.underlying201
  a28 := Tryz.isAgg201
  z28 := Tryz.sizeOf201
  v28 := Tryz.zeroValue201
  t31 := Tryz.underlying204
  a31 := Tryz.isAgg204
  z31 := Tryz.sizeOf204
  v31 := Tryz.zeroValue204
  t33 := Tryz.underlying224
  a33 := Tryz.isAgg224
  z33 := Tryz.sizeOf224
  v33 := Tryz.zeroValue224
  t36 := Tryz.underlying238
  a36 := Tryz.isAgg238
  z36 := Tryz.sizeOf238
  t37 := Tryz.underlying182
  a37 := Tryz.isAgg182
  z37 := Tryz.sizeOf182
  v37 := Tryz.zeroValue182
  t39 := Tryz.underlying240
  a39 := Tryz.isAgg240
  z39 := Tryz.sizeOf240
  v39 := Tryz.zeroValue240
  t40 := Tryz.underlying241
  a40 := Tryz.isAgg241
  z40 := Tryz.sizeOf241
  v40 := Tryz.zeroValue241 }
end Go.Proofs
