/-
  WALKS: layer 17: Use and Get at a nil holder, with their results given.
-/
import Derived.Test.YtifllaeldcimgaaHoldO
namespace Go.Proofs.Ytifllaeldcimgaa
open Go.RowKit

theorem use_nil2 (now : Int) (path : ByteArray) (md : Int) (w : World) : Calls Try.prog 14 #[.pointer none, .int .i64 now, .string path, .int .i64 md] w fun en w' => ∃ q c, en = .returned (.tuple #[.agg #[.int .i64 0, .int .i64 0, .string ByteArray.empty, .int .i64 0, .slice q 0 c, .int .i64 0, .int .i64 0, .int .i64 0, .bool false], .int .i64 1]) ∧ Mod [] w w' :=
  (huse_nil now path md w).mono fun e w' ho => by
    obtain ⟨v, fb, rfl, hv, hf, hm⟩ := ho
    obtain ⟨q, c, rfl⟩ : ∃ q c, v = .slice q 0 c := hv.rd.len
    exact ⟨q, c, rfl, hm⟩
theorem get_nil2 (f i : Int) (w : World) : Calls Try.prog 17 #[.pointer none, .int .i64 f, .int .i64 i] w fun en w' => ∃ q c, en = .returned (.tuple #[.agg #[.int .i64 0, .int .i64 0, .string ByteArray.empty, .int .i64 0, .slice q 0 c, .int .i64 0, .int .i64 0, .int .i64 0, .bool false], .bool false]) ∧ Mod [] w w' :=
  (hget_nil f i w).mono fun e w' ho => by
    obtain ⟨v, rfl, hr, hm⟩ := ho
    obtain ⟨q, c, rfl⟩ : ∃ q c, v = .slice q 0 c := (RdN.of_row hr).len
    exact ⟨q, c, rfl, hm⟩
theorem list_nil2 (w : World) : Calls Try.prog 12 #[.pointer none] w fun en w' => en = .returned (.slice none 0 0) ∧ Mod [] w w' :=
  (hlist_nil w).mono fun _ _ ⟨h1, h2⟩ => ⟨h1, h2 ▸ Mod.refl _ _⟩
end Go.Proofs.Ytifllaeldcimgaa
