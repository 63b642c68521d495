/-
  DERIVED: THE SHELF's CONTRACTS AT THIS DUMP, IN PLAIN WORDS (tools/lay-plain.mjs out of 'ShelfSrcTmp.lean', which tools/lay-shelf.mjs wrote): THE SAME DECLARATIONS UNDER THE SAME NAMES: 'import', 'namespace', 'open', 'def', 'theorem' AND NOTHING ELSE: no command of the shelf's: FOR A HAND-IN. Each laying: the table of numbers ('.._ren') and one theorem, a field a fact of the dump's own or the kernel's comparison; each contract: ONE APPLICATION.
-/
import Derived.Shelf.SlGeneric
import Derived.Shelf.SlIterI.Nil
import Derived.Shelf.SortM.Plain
import Derived.Shelf.SortM.SortNone
import Derived.Ground.GgzProg
import Derived.Ground.SlgmProg
import Derived.Test.YtkfhapidoolfdaaGreatDoorProg
namespace Go.Proofs
open Go.Shelf
def Tryz.laysKeys_ren : Go.Shelf.Ren := ⟨fun | 7 => 185 | 10 => 275 | n => n, fun | 23 => 201 | 26 => 3 | 3 => 89 | 28 => 266 | 0 => 0 | 27 => 265 | 33 => 99 | 4 => 4 | n => n, fun | n => n⟩
theorem Tryz.laysKeys : Go.Proofs.SlLaysZI.n7 Tryz.prog Tryz.laysKeys_ren := {
  mixed := by kernel_rfl
  f7 := ⟨Tryz.f185.name, by decide, Tryz.func185.trans (congrArg some (by kernel_rfl))⟩
  f10 := ⟨Tryz.f275.name, by decide, Tryz.func275.trans (congrArg some (by kernel_rfl))⟩
  t0 := Tryz.underlying0
  a0 := Tryz.isAgg0
  z0 := Tryz.sizeOf0
  v0 := Tryz.zeroValue0
  t4 := Tryz.underlying4
  a4 := Tryz.isAgg4
  z4 := Tryz.sizeOf4
  v4 := Tryz.zeroValue4
  t23 := Tryz.underlying201
  a23 := Tryz.isAgg201
  z23 := Tryz.sizeOf201
  v23 := Tryz.zeroValue201
  t26 := Tryz.underlying3
  a26 := Tryz.isAgg3
  z26 := Tryz.sizeOf3
  v26 := Tryz.zeroValue3
  t27 := Tryz.underlying265
  a27 := Tryz.isAgg265
  z27 := Tryz.sizeOf265
  v27 := Tryz.zeroValue265
  t28 := Tryz.underlying266
  a28 := Tryz.isAgg266
  z28 := Tryz.sizeOf266
  v28 := Tryz.zeroValue266
  t33 := Tryz.underlying99
  a33 := Tryz.isAgg99
  z33 := Tryz.sizeOf99
  v33 := Tryz.zeroValue99 }
def Tryz.laysSorted_ren : Go.Shelf.Ren := ⟨fun | 6 => 184 | 8 => 273 | 9 => 274 | 11 => 348 | 13 => 229 | 12 => 349 | 23 => 330 | 24 => 331 | 14 => 401 | 15 => 402 | 16 => 403 | 17 => 404 | 18 => 405 | 19 => 406 | 20 => 407 | 21 => 408 | 22 => 409 | 25 => 421 | 26 => 392 | 27 => 393 | 28 => 422 | 29 => 423 | 30 => 230 | 31 => 429 | n => n, fun | 26 => 3 | 28 => 266 | 24 => 45 | 0 => 0 | 3 => 3 | 37 => 323 | 48 => 360 | 50 => 351 | 4 => 4 | 40 => 411 | 39 => 410 | 45 => 380 | 5 => 5 | 9 => 9 | 51 => 460 | 55 => 338 | 57 => 481 | 58 => 482 | 33 => 99 | n => n, fun | n => n⟩
theorem Tryz.laysSorted : Go.Proofs.SlLaysZI.n6 Tryz.prog Tryz.laysSorted_ren := {
  mixed := by kernel_rfl
  f6 := ⟨Tryz.f184.name, by decide, Tryz.func184.trans (congrArg some (by kernel_rfl))⟩
  f8 := ⟨Tryz.f273.name, by decide, Tryz.func273.trans (congrArg some (by kernel_rfl))⟩
  f11 := ⟨Tryz.f348.name, by decide, Tryz.func348.trans (congrArg some (by kernel_rfl))⟩
  t0 := Tryz.underlying0
  a0 := Tryz.isAgg0
  z0 := Tryz.sizeOf0
  v0 := Tryz.zeroValue0
  t24 := Tryz.underlying45
  a24 := Tryz.isAgg45
  z24 := Tryz.sizeOf45
  v24 := Tryz.zeroValue45
  t26 := Tryz.underlying3
  a26 := Tryz.isAgg3
  z26 := Tryz.sizeOf3
  v26 := Tryz.zeroValue3
  t28 := Tryz.underlying266
  a28 := Tryz.isAgg266
  z28 := Tryz.sizeOf266
  v28 := Tryz.zeroValue266
  i26 := by kernel_rfl }
def Tryz.laysSortInt_ren : Go.Shelf.Ren := ⟨fun | 5 => 274 | 8 => 229 | 7 => 349 | 19 => 330 | 20 => 331 | 10 => 401 | 11 => 402 | 12 => 403 | 13 => 404 | 14 => 405 | 15 => 406 | 16 => 407 | 17 => 408 | 18 => 409 | 30 => 421 | 31 => 392 | 32 => 393 | 33 => 422 | 34 => 423 | 35 => 230 | 40 => 429 | n => n, fun | 23 => 45 | 25 => 3 | 3 => 3 | 32 => 323 | 22 => 45 | 0 => 0 | 44 => 360 | 46 => 351 | 4 => 4 | 36 => 411 | 35 => 410 | 41 => 380 | 5 => 5 | 9 => 9 | 53 => 460 | 57 => 338 | 63 => 481 | 64 => 482 | n => n, fun | n => n⟩
theorem Tryz.laysSortInt : Go.Proofs.SlLaysM.n5 Tryz.prog Tryz.laysSortInt_ren := {
  mixed := by kernel_rfl
  f5 := ⟨Tryz.f274.name, by decide, Tryz.func274.trans (congrArg some (by kernel_rfl))⟩
  f7 := ⟨Tryz.f349.name, by decide, Tryz.func349.trans (congrArg some (by kernel_rfl))⟩
  f8 := Tryz.func229.trans (congrArg some (by kernel_rfl))
  f10 := ⟨Tryz.f401.name, by decide, Tryz.func401.trans (congrArg some (by kernel_rfl))⟩
  f11 := ⟨Tryz.f402.name, by decide, Tryz.func402.trans (congrArg some (by kernel_rfl))⟩
  f12 := ⟨Tryz.f403.name, by decide, Tryz.func403.trans (congrArg some (by kernel_rfl))⟩
  f13 := ⟨Tryz.f404.name, by decide, Tryz.func404.trans (congrArg some (by kernel_rfl))⟩
  f14 := ⟨Tryz.f405.name, by decide, Tryz.func405.trans (congrArg some (by kernel_rfl))⟩
  f15 := ⟨Tryz.f406.name, by decide, Tryz.func406.trans (congrArg some (by kernel_rfl))⟩
  f16 := ⟨Tryz.f407.name, by decide, Tryz.func407.trans (congrArg some (by kernel_rfl))⟩
  f17 := ⟨Tryz.f408.name, by decide, Tryz.func408.trans (congrArg some (by kernel_rfl))⟩
  f18 := ⟨Tryz.f409.name, by decide, Tryz.func409.trans (congrArg some (by kernel_rfl))⟩
  f19 := Tryz.func330.trans (congrArg some (by kernel_rfl))
  f20 := Tryz.func331.trans (congrArg some (by kernel_rfl))
  f30 := ⟨Tryz.f421.name, by decide, Tryz.func421.trans (congrArg some (by kernel_rfl))⟩
  f31 := Tryz.func392.trans (congrArg some (by kernel_rfl))
  f32 := Tryz.func393.trans (congrArg some (by kernel_rfl))
  f33 := ⟨Tryz.f422.name, by decide, Tryz.func422.trans (congrArg some (by kernel_rfl))⟩
  f34 := ⟨Tryz.f423.name, by decide, Tryz.func423.trans (congrArg some (by kernel_rfl))⟩
  f35 := ⟨Tryz.f230.name, by decide, Tryz.func230.trans (congrArg some (by kernel_rfl))⟩
  f40 := ⟨Tryz.f429.name, by decide, Tryz.func429.trans (congrArg some (by kernel_rfl))⟩
  t0 := Tryz.underlying0
  a0 := Tryz.isAgg0
  z0 := Tryz.sizeOf0
  v0 := Tryz.zeroValue0
  t3 := Tryz.underlying3
  a3 := Tryz.isAgg3
  z3 := Tryz.sizeOf3
  v3 := Tryz.zeroValue3
  t4 := Tryz.underlying4
  a4 := Tryz.isAgg4
  z4 := Tryz.sizeOf4
  v4 := Tryz.zeroValue4
  t5 := Tryz.underlying5
  a5 := Tryz.isAgg5
  z5 := Tryz.sizeOf5
  v5 := Tryz.zeroValue5
  t9 := Tryz.underlying9
  a9 := Tryz.isAgg9
  z9 := Tryz.sizeOf9
  v9 := Tryz.zeroValue9
  t22 := Tryz.underlying45
  a22 := Tryz.isAgg45
  z22 := Tryz.sizeOf45
  v22 := Tryz.zeroValue45
  t23 := Tryz.underlying45
  a23 := Tryz.isAgg45
  z23 := Tryz.sizeOf45
  v23 := Tryz.zeroValue45
  t25 := Tryz.underlying3
  a25 := Tryz.isAgg3
  z25 := Tryz.sizeOf3
  v25 := Tryz.zeroValue3
  t32 := Tryz.underlying323
  a32 := Tryz.isAgg323
  z32 := Tryz.sizeOf323
  v32 := Tryz.zeroValue323
  t35 := Tryz.underlying410
  a35 := Tryz.isAgg410
  z35 := Tryz.sizeOf410
  v35 := Tryz.zeroValue410
  t36 := Tryz.underlying411
  a36 := Tryz.isAgg411
  z36 := Tryz.sizeOf411
  v36 := Tryz.zeroValue411
  t41 := Tryz.underlying380
  a41 := Tryz.isAgg380
  z41 := Tryz.sizeOf380
  v41 := Tryz.zeroValue380
  t44 := Tryz.underlying360
  a44 := Tryz.isAgg360
  z44 := Tryz.sizeOf360
  v44 := Tryz.zeroValue360
  t46 := Tryz.underlying351
  a46 := Tryz.isAgg351
  z46 := Tryz.sizeOf351
  v46 := Tryz.zeroValue351
  t53 := Tryz.underlying460
  a53 := Tryz.isAgg460
  z53 := Tryz.sizeOf460
  v53 := Tryz.zeroValue460
  t57 := Tryz.underlying338
  a57 := Tryz.isAgg338
  z57 := Tryz.sizeOf338
  v57 := Tryz.zeroValue338
  t63 := Tryz.underlying481
  a63 := Tryz.isAgg481
  z63 := Tryz.sizeOf481
  v63 := Tryz.zeroValue481
  t64 := Tryz.underlying482
  a64 := Tryz.isAgg482
  z64 := Tryz.sizeOf482
  v64 := Tryz.zeroValue482 }
end Go.Proofs
