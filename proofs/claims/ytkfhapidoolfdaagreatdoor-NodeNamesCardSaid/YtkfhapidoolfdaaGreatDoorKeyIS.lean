/-
  THE KEYS' TYPES int AND string, OVER ANY PROGRAM.
-/
import Derived.Test.YtkfhapidoolfdaaGreatDoorMapL
import Derived.StringKeys
namespace Go.Proofs.YtkfhapidoolfdaaGreatDoor
open Go.RowKit Go.Maps

def intK {P : Program} {k : TypeId} (hk : P.underlying k = some (.int .i64)) : KeyT P k Int where
  K := int_keyed hk
  kv x := .int .i64 x
  kl x := .int .i64 x
  ok x := (Lit.int .i64 x).wf = true
  of _ h := keyOf_int_mk hk h
  inj x y h _ _ := by simpa using h
  inv v l h := by
    obtain ⟨x, rfl, rfl, hw⟩ := keyOf_int_inv hk h
    exact ⟨x, hw, rfl, rfl⟩
def strK {P : Program} {k : TypeId} (hk : P.underlying k = some .string) : KeyT P k ByteArray where
  K := string_keyed hk
  kv x := .string x
  kl x := .string x.data.toList
  ok x := x.size ≤ maxLen
  of _ h := WideMaps.keyOf_string_mk hk h
  inj x y h _ _ := by
    cases x; cases y
    have h' := Lit.string.inj h
    simp only at h'
    congr 1
    exact Array.toList_inj.1 h'
  inv v l h := by
    cases v <;> simp [keyOf, hk, mapKey] at h
    exact ⟨_, h.1, rfl, h.2.symm⟩
end Go.Proofs.YtkfhapidoolfdaaGreatDoor
