/-
  DERIVED: THE SHELF's CONTRACTS AT THIS DUMP, IN PLAIN WORDS (tools/lay-plain.mjs out of 'ShelfSrcTmp.lean', which tools/lay-shelf.mjs wrote): THE SAME DECLARATIONS UNDER THE SAME NAMES: 'import', 'namespace', 'open', 'def', 'theorem' AND NOTHING ELSE: no command of the shelf's: FOR A HAND-IN. Each laying: the table of numbers ('.._ren') and one theorem, a field a fact of the dump's own or the kernel's comparison; each contract: ONE APPLICATION.
-/
import Derived.Shelf.Bytes.SlTrim
import Derived.Ground.SlbvProg
import Derived.Test.YtkfhapidoolfdaaGreatDoorProg
namespace Go.Proofs
open Go.Shelf
def Tryz.lays104_ren : Go.Shelf.Ren := ⟨fun | 6 => 279 | 10 => 352 | 9 => 351 | 11 => 353 | 13 => 355 | 12 => 354 | 15 => 357 | 14 => 356 | 16 => 410 | 19 => 413 | 18 => 412 | 17 => 411 | 21 => 425 | 20 => 424 | n => n, fun | 22 => 152 | 9 => 9 | 3 => 3 | 4 => 4 | 5 => 5 | 28 => 436 | 27 => 435 | 0 => 0 | 31 => 439 | 21 => 21 | 33 => 474 | 36 => 491 | 37 => 323 | 40 => 494 | 39 => 493 | n => n, fun | 0 => 1 | 1 => 2 | n => n⟩
theorem Tryz.lays104 : Go.Proofs.SlLaysV.n6 Tryz.prog Tryz.lays104_ren := {
  mixed := by kernel_rfl
  f6 := Tryz.func279.trans (congrArg some (by kernel_rfl))
  f9 := Tryz.func351.trans (congrArg some (by kernel_rfl))
  f10 := Tryz.func352.trans (congrArg some (by kernel_rfl))
  f11 := Tryz.func353.trans (congrArg some (by kernel_rfl))
  f12 := Tryz.func354.trans (congrArg some (by kernel_rfl))
  f13 := Tryz.func355.trans (congrArg some (by kernel_rfl))
  f14 := Tryz.func356.trans (congrArg some (by kernel_rfl))
  f15 := Tryz.func357.trans (congrArg some (by kernel_rfl))
  f16 := Tryz.func410.trans (congrArg some (by kernel_rfl))
  f17 := Tryz.func411.trans (congrArg some (by kernel_rfl))
  f18 := Tryz.func412.trans (congrArg some (by kernel_rfl))
  f19 := Tryz.func413.trans (congrArg some (by kernel_rfl))
  f20 := Tryz.func424.trans (congrArg some (by kernel_rfl))
  f21 := Tryz.func425.trans (congrArg some (by kernel_rfl))
  t0 := Tryz.underlying0
  a0 := Tryz.isAgg0
  z0 := Tryz.sizeOf0
  v0 := Tryz.zeroValue0
  t3 := Tryz.underlying3
  a3 := Tryz.isAgg3
  z3 := Tryz.sizeOf3
  v3 := Tryz.zeroValue3
  t4 := Tryz.underlying4
  a4 := Tryz.isAgg4
  z4 := Tryz.sizeOf4
  v4 := Tryz.zeroValue4
  t5 := Tryz.underlying5
  a5 := Tryz.isAgg5
  z5 := Tryz.sizeOf5
  v5 := Tryz.zeroValue5
  t9 := Tryz.underlying9
  a9 := Tryz.isAgg9
  z9 := Tryz.sizeOf9
  v9 := Tryz.zeroValue9
  t21 := Tryz.underlying21
  a21 := Tryz.isAgg21
  z21 := Tryz.sizeOf21
  v21 := Tryz.zeroValue21
  t22 := Tryz.underlying152
  a22 := Tryz.isAgg152
  z22 := Tryz.sizeOf152
  v22 := Tryz.zeroValue152
  t27 := Tryz.underlying435
  a27 := Tryz.isAgg435
  z27 := Tryz.sizeOf435
  t28 := Tryz.underlying436
  a28 := Tryz.isAgg436
  z28 := Tryz.sizeOf436
  v28 := Tryz.zeroValue436
  t31 := Tryz.underlying439
  a31 := Tryz.isAgg439
  z31 := Tryz.sizeOf439
  v31 := Tryz.zeroValue439
  t33 := Tryz.underlying474
  a33 := Tryz.isAgg474
  z33 := Tryz.sizeOf474
  v33 := Tryz.zeroValue474
  t36 := Tryz.underlying491
  a36 := Tryz.isAgg491
  z36 := Tryz.sizeOf491
  t37 := Tryz.underlying323
  a37 := Tryz.isAgg323
  z37 := Tryz.sizeOf323
  v37 := Tryz.zeroValue323
  t39 := Tryz.underlying493
  a39 := Tryz.isAgg493
  z39 := Tryz.sizeOf493
  v39 := Tryz.zeroValue493
  t40 := Tryz.underlying494
  a40 := Tryz.isAgg494
  z40 := Tryz.sizeOf494
  v40 := Tryz.zeroValue494 }
end Go.Proofs
