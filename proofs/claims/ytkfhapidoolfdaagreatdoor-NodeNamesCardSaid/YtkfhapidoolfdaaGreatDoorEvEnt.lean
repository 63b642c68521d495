/-
  MEMORY: layer 5: an entry as a value and in memory.
-/
import Derived.Test.YtkfhapidoolfdaaGreatDoorKeyIS
import Derived.Test.YtkfhapidoolfdaaGreatDoorProg
import Derived.Test.YtkfhapidoolfdaaGreatDoorBlk
namespace Go.Proofs.YtkfhapidoolfdaaGreatDoor
open Go.RowKit Go.Maps

structure Ent where
  id : Int
  path : ByteArray
  mode : Int
  who : Int
deriving DecidableEq
def iK : KeyT Tryz.prog 3 Int where
  K := int_keyed Tryz.underlying3
  kv x := .int .i64 x
  kl x := .int .i64 x
  ok x := (Lit.int .i64 x).wf = true
  of := (intK Tryz.underlying3).of
  inj := (intK Tryz.underlying3).inj
  inv := (intK Tryz.underlying3).inv
def aggE (e : Ent) : Value := .agg #[.int .i64 e.id, .string e.path, .int .i64 e.mode, .int .i64 e.who]
def entV (e : Ent) : Int × Value := (e.id, aggE e)
abbrev objE (id : Int) (p : ByteArray) (m who : Int) : Obj := .cells #[.int .i64 id, .string p, .int .i64 m, .int .i64 who] 302 (0, 0)
end Go.Proofs.YtkfhapidoolfdaaGreatDoor
