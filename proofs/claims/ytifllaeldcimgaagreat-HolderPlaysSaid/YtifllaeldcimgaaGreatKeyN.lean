/-
  THE KEY's TYPE holder.name: a struct of two ints.
-/
import Derived.Test.YtifllaeldcimgaaGreatMapL
import Derived.Test.YtifllaeldcimgaaGreatProg
import Derived.DeepKeys4
namespace Go.Proofs.YtifllaeldcimgaaGreat
open Go.RowKit Go.Maps

def i64w (n : Int) : Prop := (Lit.int .i64 n).wf = true
theorem i64w_of {n : Int} (h1 : -9223372036854775808 ≤ n) (h2 : n ≤ 9223372036854775807) : i64w n := by
  unfold i64w
  have e1 : IntKind.i64.min = -9223372036854775808 := by decide
  have e2 : IntKind.i64.max = 9223372036854775807 := by decide
  simp [Lit.wf, e1, e2, h1, h2]
theorem nameKeyType : Tryz.prog.keyTypeAt (Tryz.prog.types.size + 1) 73 = true := by kernel_rfl
theorem nameLaid : laidOutB Tryz.prog = true := by kernel_rfl
theorem name_law : Keyed Tryz.prog 73 :=
  Keyed.of_law (deep_law_laid nameLaid (m := Tryz.prog.types.size + 1) (by decide +kernel) (by decide +kernel) nameKeyType (by kernel_rfl))
theorem name_fields : ∃ f0 f1, Tryz.prog.underlying 73 = some (.struct #[f0, f1]) ∧ f0.type = 3 ∧ f0.offset = 0 ∧ f1.type = 3 ∧ f1.offset = 1 ∧ f0.name ≠ "_" ∧ f1.name ≠ "_" :=
  ⟨_, _, Tryz.underlying73, rfl, rfl, rfl, rfl, by decide, by decide⟩
theorem name_cells : Tryz.prog.cellsOf 73 = 2 := by kernel_rfl
theorem int_cells : Tryz.prog.cellsOf 3 = 1 := by kernel_rfl
theorem name_keyOf {a b : Int} (ha : i64w a) (hb : i64w b) : keyOf Tryz.prog 73 (.agg #[.int .i64 a, .int .i64 b]) = some (.string (keyBytes [.int .i64 a, .int .i64 b])) := by
  obtain ⟨f0, f1, hs, t0, o0, t1, o1, n0, n1⟩ := name_fields
  have hk : Tryz.prog.keyType 73 = true := nameKeyType
  have hf : (Value.agg #[.int .i64 a, .int .i64 b]).formed Tryz.prog 73 = true := by simp [Value.formed, hs, name_cells]
  have hint : ∀ n, i64w n → Tryz.prog.keyLits Tryz.prog.types.size 3 [.int .i64 n] = some [.int .i64 n] := by
    intro n hn
    obtain ⟨m, hm⟩ : ∃ m, Tryz.prog.types.size = m + 1 := ⟨Tryz.prog.types.size - 1, by kernel_rfl⟩
    rw [hm]
    unfold Program.keyLits
    rw [Tryz.underlying3]
    have hn' : (Lit.int .i64 n).wf = true := hn
    simp [hn']
  have hl : Tryz.prog.keyLits (Tryz.prog.types.size + 1) 73 (Value.agg #[.int .i64 a, .int .i64 b]).cells.toList = some [.int .i64 a, .int .i64 b] := by
    unfold Program.keyLits
    rw [hs]
    simp only [Value.cells, name_cells]
    rw [if_pos ⟨rfl, by simp [n0, n1]⟩]
    have e1 : List.mapM (fun f : Field => Tryz.prog.keyLits Tryz.prog.types.size f.type (([.int .i64 a, .int .i64 b] : List Value).drop f.offset |>.take (Tryz.prog.cellsOf f.type))) [f0, f1] = some [[.int .i64 a], [.int .i64 b]] := by
      rw [List.mapM_cons, List.mapM_cons, List.mapM_nil]
      rw [t0, o0, t1, o1, int_cells]
      show (Tryz.prog.keyLits _ _ [.int .i64 a] >>= fun r => (Tryz.prog.keyLits _ _ [.int .i64 b] >>= fun r' => _) >>= _) = _
      rw [hint a ha, hint b hb]
      rfl
    exact congrArg (Option.map List.flatten) e1
  unfold keyOf
  rw [hs]
  simp only [hk, hf, Bool.and_self, if_true, hl, Option.map_some]
set_option maxRecDepth 100000 in
theorem name_inv {v : Value} {l : Lit} (h : keyOf Tryz.prog 73 v = some l) : ∃ a b, i64w a ∧ i64w b ∧ v = .agg #[.int .i64 a, .int .i64 b] := by
  obtain ⟨f0, f1, hs, t0, o0, t1, o1, n0, n1⟩ := name_fields
  unfold keyOf at h
  rw [hs] at h
  simp only at h
  split at h
  · rename_i hc
    rw [Bool.and_eq_true] at hc
    have hf := hc.2
    cases v <;> simp [Value.formed, hs] at hf
    rename_i cs
    rw [name_cells] at hf
    obtain ⟨cs⟩ := cs
    match cs, hf with
    | [x, y], _ =>
      rw [Option.map_eq_some_iff] at h
      obtain ⟨ls, hls, _⟩ := h
      unfold Program.keyLits at hls
      rw [hs] at hls
      simp only [Value.cells, name_cells] at hls
      rw [if_pos ⟨rfl, by simp [n0, n1]⟩, Option.map_eq_some_iff] at hls
      obtain ⟨la, hla, _⟩ := hls
      have e1 : List.mapM (fun f : Field => Tryz.prog.keyLits Tryz.prog.types.size f.type (([x, y] : List Value).drop f.offset |>.take (Tryz.prog.cellsOf f.type))) [f0, f1] = some la := hla
      rw [List.mapM_cons, List.mapM_cons, List.mapM_nil, t0, o0, t1, o1, int_cells] at e1
      simp only [List.drop_zero, List.take_succ_cons, List.take_zero, List.drop_succ_cons, Option.bind_eq_bind, Option.bind_eq_some_iff] at e1
      obtain ⟨lx, hlx, _, ⟨ly, hly, _⟩, _⟩ := e1
      have key : ∀ z lz, Tryz.prog.keyLits Tryz.prog.types.size 3 [z] = some lz → ∃ n, i64w n ∧ z = .int .i64 n := by
        intro z lz hz
        obtain ⟨m, hm⟩ : ∃ m, Tryz.prog.types.size = m + 1 := ⟨Tryz.prog.types.size - 1, by kernel_rfl⟩
        rw [hm] at hz
        unfold Program.keyLits at hz
        rw [Tryz.underlying3] at hz
        cases z <;> simp at hz
        rename_i q n
        exact ⟨n, hz.1.2, by rw [hz.1.1]⟩
      obtain ⟨a, ha, rfl⟩ := key x lx hlx
      obtain ⟨b, hb, rfl⟩ := key y ly hly
      exact ⟨a, b, ha, hb, rfl⟩
  · cases h
def nameT : KeyT Tryz.prog 73 (Int × Int) where
  K := name_law
  kv x := .agg #[.int .i64 x.1, .int .i64 x.2]
  kl x := .string (keyBytes [.int .i64 x.1, .int .i64 x.2])
  ok x := i64w x.1 ∧ i64w x.2
  of x h := name_keyOf h.1 h.2
  inj x y h hx hy := by
    have h1 := name_keyOf hx.1 hx.2
    have h2 := name_keyOf hy.1 hy.2
    rw [← h] at h2
    have := name_law.inj h1 h2
    simp at this
    exact Prod.ext this.1 this.2
  inv v l h := by
    obtain ⟨a, b, ha, hb, rfl⟩ := name_inv h
    refine ⟨(a, b), ⟨ha, hb⟩, rfl, ?_⟩
    rw [name_keyOf ha hb] at h
    exact (Option.some.inj h).symm
end Go.Proofs.YtifllaeldcimgaaGreat
