/-
  PLAIN LAWS OF MEMORY: rows of slices that read as bytes (rows of their own, or arrays).
-/
import Derived.Test.YtkfhapidoolfdaaGreatDoorBytes2
namespace Go.Proofs.YtkfhapidoolfdaaGreatDoor
open Go.RowKit

theorem alloc_here {w : World} {o : Obj} {n : Nat} (h : n = w.heap.size) : (w.alloc o).heap[n]? = some o := by rw [h]; exact heap_alloc_new w o
/-- a slice that reads as bytes, its block from base on -/
def ElY (w : World) (base : Nat) (v : Value) (m : B8) : Prop := RdY w v m ∧ ∀ k, k ∈ ob v → base ≤ k ∧ k < w.heap.size
theorem ElY.rd {w : World} {base : Nat} {v : Value} {m : B8} (h : ElY w base v m) : RdY w v m := h.1
theorem ElY.blk {w : World} {base : Nat} {v : Value} {m : B8} (h : ElY w base v m) : ∀ k, k ∈ ob v → base ≤ k ∧ k < w.heap.size := h.2
theorem ElY.mod {w w' : World} {base : Nat} {v : Value} {m : B8} (h : ElY w base v m) {S : List Nat} (k : Mod S w w') (hf : ∀ x, x ∈ ob v → x ∉ S) : ElY w' base v m := ⟨h.1.mod k hf, fun x hx => ⟨(h.2 x hx).1, Nat.lt_of_lt_of_le (h.2 x hx).2 k.size⟩⟩
theorem ElY.base {w : World} {base b' : Nat} {v : Value} {m : B8} (h : ElY w base v m) (hb : b' ≤ base) : ElY w b' v m := ⟨h.1, fun x hx => ⟨Nat.le_trans hb (h.2 x hx).1, (h.2 x hx).2⟩⟩
theorem ElY.gr {w w' : World} {base : Nat} {v : Value} {m : B8} (h : ElY w base v m) (k : Gr w w') : ElY w' base v m := h.mod (k.mod []) (by simp)
theorem RowY.el {w : World} {base : Nat} {v : Value} {m : B8} (h : RowY w base v m) : ElY w base v m := ⟨h.rd, h.blk⟩
structure RdsY (w : World) (base : Nat) (v : Value) (vs : List Value) (ls : List B8) : Prop where
  row : w.ownsRow base 152 1 v ls.length vs
  el : ∀ i, i < ls.length → ElY w base (vs.getD i nilS) (ls.getD i [])
  apart : ∀ i, i < ls.length → ∀ k, k ∈ ob (vs.getD i nilS) → k ∉ ob v
theorem RdsY.nil (w : World) (base : Nat) : RdsY w base nilS [] [] := ⟨World.ownsRow_nil _ _ _ _, fun i h => by simp at h, fun i h => by simp at h⟩
theorem RdsY.len {w : World} {base : Nat} {v : Value} {vs : List Value} {ls : List B8} (h : RdsY w base v vs ls) : vs.length = ls.length := by have := h.row.1; omega
theorem RdsY.mod {w w' : World} {base : Nat} {v : Value} {vs : List Value} {ls : List B8} (h : RdsY w base v vs ls) {S : List Nat} (m : Mod S w w') (hS : ∀ k, k ∈ S → k < base ∨ w.heap.size ≤ k) : RdsY w' base v vs ls := by
  refine ⟨m.row h.row (fun k hk e => ?_), fun i hi => (h.el i hi).mod m (fun k hk e => ?_), h.apart⟩
  · have := h.row.lt k hk
    have := hS k e
    omega
  · have := (h.el i hi).blk k hk
    have := hS k e
    omega
theorem RdsY.base {w : World} {base b' : Nat} {v : Value} {vs : List Value} {ls : List B8} (h : RdsY w base v vs ls) (hb : b' ≤ base) : RdsY w b' v vs ls := ⟨World.ownsRow.mono h.row hb, fun i hi => (h.el i hi).base hb, h.apart⟩
theorem RdsY.blk {w : World} {base : Nat} {v : Value} {vs : List Value} {ls : List B8} (h : RdsY w base v vs ls) : ∀ k, k ∈ ob v → base ≤ k ∧ k < w.heap.size := fun k hk => by
  have h2 := World.ownsRow.lt h.row k (by simpa [ob] using hk)
  omega
theorem RdsY.shape {w : World} {base : Nat} {v : Value} {vs : List Value} {ls : List B8} (h : RdsY w base v vs ls) : ∃ p c, v = .slice p ls.length c ∧ ls.length ≤ maxLen := by
  rcases h.row.2 with ⟨rfl, hn⟩ | ⟨g, cap, cur, rfl, _, hg, hh1, hh2, _⟩
  · exact ⟨none, 0, by rw [hn], by omega⟩
  · exact ⟨_, cap, rfl, by omega⟩
theorem RdsY.at_ {w : World} {base : Nat} {p : Option Addr} {n c : Nat} {vs : List Value} {ls : List B8} (h : RdsY w base (.slice p n c) vs ls) (i : Nat) (hi : i < ls.length) :
    ∃ b, p = some ⟨b, 0, none⟩ ∧ b < w.heap.size ∧ w.cell? ⟨b, i, none⟩ = some (vs.getD i nilS) ∧ ElY w base (vs.getD i nilS) (ls.getD i []) := by
  rcases h.row.2 with ⟨hv, hn⟩ | ⟨g, cap, cur, hv, _, hg, hh1, hh2, _⟩
  · omega
  · simp only [Value.slice.injEq] at hv
    obtain ⟨rfl, rfl, rfl⟩ := hv
    have hl := h.len
    refine ⟨g, rfl, lt_of_block hg, ?_, h.el i hi⟩
    rw [h.row.cellAt i (by omega)]
    simp [show i < vs.length by omega]
/-- a slice of bytes more -/
theorem wpList_app_rs {ops : Array Oper} {rest : List Oper} {o : Oper} {a : Act} {Q : Exit → Act → World → Prop} (w : World) (hgd : o.guard = none) (s x : Operand)
    (ho : o.op = .call { callee := .builtin .append, args := #[s, x], argTypes := #[275, 275] })
    (base : Nat) (v : Value) (vs : List Value) (ls : List B8) (hs : a.eval s = v) (hown : RdsY w base v vs ls) (k : Nat) (sv : Value) (b : B8) (hx : a.eval x = .slice (some ⟨k, 0, none⟩) 1 1)
    (hc : w.heap[k]? = some (.cells #[sv] 152 (0, 0))) (hone : sv.oneCell' = true) (hsv : ElY w base sv b) (hap : ∀ k, k ∈ ob sv → k ∉ ob v) (hsz : ls.length ≤ 1000000) (hbase : base ≤ w.heap.size)
    (h : ∀ g cap w', RdsY w' base (.slice (some ⟨g, 0, none⟩) (ls.length + 1) cap) (vs ++ [sv]) (ls ++ [b]) → Mod (ob v) w w' → (g ∈ ob v ∨ g = w.heap.size) → g < w'.heap.size → wpList Tryz.prog ops Q rest (a.put o.dst (.slice (some ⟨g, 0, none⟩) (ls.length + 1) cap)) w') :
    wpList Tryz.prog ops Q (o :: rest) a w := by
  obtain ⟨i0, hi0, hz0, hs0, hb0⟩ := info_parts (show (Tryz.prog.info? 152).map (fun i => (i.zero, i.size, i.bytes)) = some (some (.slice none 0 0), 1, 24) by kernel_rfl)
  have hl := hown.len
  refine wpList_append_lies w hgd s x 275 ho base 152 i0 _ 1 24 Tryz.underlying275 hi0 hz0 hs0 hb0 rfl (by decide) v ls.length vs hs hown.row ⟨k, 0, none⟩ 1 1 [sv] hx rfl ?_ (by simp [hone]) (by decide) (by unfold maxLen; omega) (by omega) hbase ?_
  · intro j u hu
    obtain ⟨hj, rfl⟩ := List.getElem?_eq_some_iff.1 hu
    obtain rfl : j = 0 := by simp at hj; omega
    rw [Addr.add_lit]
    simp [World.cell?, hc]
  · intro g cap' w' hr hg hat
    have hm : Mod (ob v) w w' := (Mod.refl (ob v) w).grown hg (fun k e _ => by simp [ob, e])
    have hat' : g ∈ ob v ∨ g = w.heap.size := hat.imp (fun e => by simp [ob, e]) id
    have hrl : w'.ownsRow base 152 1 (.slice (some ⟨g, 0, none⟩) (ls.length + 1) cap') (ls ++ [b]).length (vs ++ [sv]) := by rw [List.length_append]; exact hr
    have hg' : g < w'.heap.size := (World.ownsRow.lt hrl g rfl).2
    refine h g cap' w' ⟨hrl, fun i hi => ?_, fun i hi q hq => ?_⟩ hm hat' hg'
    · rcases Nat.lt_or_ge i ls.length with h1 | h1
      · have e1 : (vs ++ [sv]).getD i nilS = vs.getD i nilS := by simp [List.getD, List.getElem?_append_left (show i < vs.length by omega)]
        have e2 : (ls ++ [b]).getD i [] = ls.getD i [] := by simp [List.getD, List.getElem?_append_left h1]
        rw [e1, e2]
        exact (hown.el i h1).mod hm (hown.apart i h1)
      · obtain rfl : i = ls.length := by simp at hi; omega
        have e1 : (vs ++ [sv]).getD ls.length nilS = sv := by rw [← hl]; simp [List.getD]
        have e2 : (ls ++ [b]).getD ls.length [] = b := by simp [List.getD]
        rw [e1, e2]
        exact hsv.mod hm hap
    · have hq' : q ∉ ob v ∧ q < w.heap.size := by
        rcases Nat.lt_or_ge i ls.length with h1 | h1
        · have e1 : (vs ++ [sv]).getD i nilS = vs.getD i nilS := by simp [List.getD, List.getElem?_append_left (show i < vs.length by omega)]
          rw [e1] at hq
          exact ⟨hown.apart i h1 q hq, ((hown.el i h1).blk q hq).2⟩
        · obtain rfl : i = ls.length := by simp at hi; omega
          have e1 : (vs ++ [sv]).getD ls.length nilS = sv := by rw [← hl]; simp [List.getD]
          rw [e1] at hq
          exact ⟨hap q hq, (hsv.blk q hq).2⟩
      intro e
      have : q = g := by simpa [ob, Value.ownBlock] using e
      subst this
      rcases hat' with h1 | h1
      · exact hq'.1 h1
      · omega
theorem RowsY.rds {w : World} {base : Nat} {v : Value} {vs : List Value} {ls : List B8} (h : RowsY w base v vs ls) : RdsY w base v vs ls := ⟨h.row, fun i hi => (h.el i hi).el, h.apart⟩
end Go.Proofs.YtkfhapidoolfdaaGreatDoor
