/-
  PLAIN LAWS OF MEMORY: a block of bytes known whole; bytes copied into it; rows of rows of bytes.
-/
import Derived.Test.YtkfhapidoolfdaaGreatDoorBytes
import Derived.Test.YtkfhapidoolfdaaGreatDoorBlk
import Derived.Laws.CopyOwn
namespace Go.Proofs.YtkfhapidoolfdaaGreatDoor
open Go.RowKit

/-- a block that holds just these bytes -/
def YBlk (w : World) (g : Nat) (l : B8) : Prop := w.heap[g]? = some (.cells (l.map y8).toArray 5 (0, 0))
theorem YBlk.set {w : World} {g : Nat} {l : B8} (h : YBlk w g l) (i : Nat) (c : UInt8) : YBlk (w.setCell ⟨g, i, none⟩ (.int .u8 (c.toNat : Int))) g (l.set i c) := by
  have := blk_set h i (y8 c)
  unfold YBlk
  rw [List.map_set]
  have e : ((l.map y8).toArray.setIfInBounds i (y8 c)) = ((l.map y8).set i (y8 c)).toArray := by simp
  rw [← e]
  exact this
theorem YBlk.row {w : World} {base g : Nat} {l : B8} (h : YBlk w g l) (hb : base ≤ g) (hl : l.length ≤ maxLen) : RowY w base (.slice (some ⟨g, 0, none⟩) l.length l.length) l :=
  RowY.of_block h hb (Nat.le_refl _) hl (by simp) (by simp [List.take_of_length_le])
theorem YBlk.lt {w : World} {g : Nat} {l : B8} (h : YBlk w g l) : g < w.heap.size := lt_of_block h
theorem YBlk.mod {w w' : World} {g : Nat} {l : B8} (h : YBlk w g l) {S : List Nat} (m : Mod S w w') (hS : g ∉ S) : YBlk w' g l := m.at_ h hS
theorem YBlk.rd {w : World} {g : Nat} {l : B8} (h : YBlk w g l) (off n c : Nat) (h1 : off + n ≤ l.length) (h2 : n ≤ c) (h4 : c ≤ maxLen) (h3 : l.length ≤ maxLen) : RdY w (.slice (some ⟨g, off, none⟩) n c) ((l.drop off).take n) := by
  have hl : ((l.drop off).take n).length = n := by simp; omega
  refine ⟨by omega, .inr ⟨g, off, c, by rw [hl], ⟨by omega, h4⟩, h.lt, fun i hi => ?_⟩⟩
  rw [hl] at hi
  rw [blk_cell h]
  have : off + i < l.length := by omega
  simp [List.getD, List.getElem?_drop, hi, this]
theorem map_splice {α β : Type} (f : α → β) (L : List α) (off : Nat) (cs : List α) : (splice L off cs).map f = splice (L.map f) off (cs.map f) := by
  unfold splice
  rw [List.map_append, List.map_append, List.map_take, List.map_drop, List.length_map]
/-- bytes copied into a block -/
theorem wpList_copy_yb {ops : Array Oper} {rest : List Oper} {o : Oper} {a : Act} {Q : Exit → Act → World → Prop} (w : World) (hgd : o.guard = none) (d s : Operand)
    (ho : o.op = .call { callee := .builtin .copy, args := #[d, s], argTypes := #[152, 152] }) (g off dLen dCap : Nat) (hd : a.eval d = .slice (some ⟨g, off, none⟩) dLen dCap)
    (l : B8) (hg : YBlk w g l) (sv : Value) (src : B8) (hs : a.eval s = sv) (hr : RdY w sv src) (hle : src.length ≤ dLen) (hfit : off + src.length ≤ l.length) (B : Nat) (w0 : World) (hb : Below B w0 w) (hBg : B ≤ g)
    (h : ∀ w', Hid (YBlk w' g (splice l off src)) → Below B w0 w' → wpList Tryz.prog ops Q rest (a.put o.dst (goInt src.length)) w') : wpList Tryz.prog ops Q (o :: rest) a w := by
  obtain ⟨i0, hi0, hz0, hs0, hb0⟩ := info_parts info_byte
  obtain ⟨sp, sc, rfl⟩ := hr.len
  refine wpList_copy_splice hgd d s 152 152 ho 5 Tryz.underlying152 (by rw [hi0]; simp [hs0]) (some ⟨g, off, none⟩) sp dLen dCap src.length sc hd hs g off (l.map y8) 5 hg (src.map y8) (by rw [List.length_map]; exact (Nat.min_eq_left hle).symm) ?_ (by simpa using hfit) (by simp [Value.oneCell', y8]) B w0 hb hBg ?_
  · intro hpos
    rw [List.length_map] at hpos
    refine ⟨rfl, ?_⟩
    rcases hr.2 with ⟨p, c, hv, hn⟩ | ⟨b, of', cap, hv, hcap, hbb, hc⟩
    · subst hn; simp at hpos
    · simp only [Value.slice.injEq] at hv
      refine ⟨_, hv.1, fun j v hj => ?_⟩
      obtain ⟨hj1, rfl⟩ := List.getElem?_eq_some_iff.1 hj
      rw [List.length_map] at hj1
      rw [Addr.add_lit, hc j hj1]
      simp [hj1]
  · intro w' h1 h2
    rw [List.length_map]
    refine h w' (show YBlk w' g _ from ?_) h2
    have h1' := h1.out
    unfold YBlk
    rw [map_splice]
    exact h1'
/-- the same as one step of a region that draws -/
theorem step_copy_yb {ops : Array Oper} {o : Oper} {a : Act} {w : World} {K : Act → World → Prop} {Q : Exit → Act → World → Prop} {E : Prop} (hgd : o.guard = none) (d s : Operand)
    (ho : o.op = .call { callee := .builtin .copy, args := #[d, s], argTypes := #[152, 152] }) (g off dLen dCap : Nat) (hd : a.eval d = .slice (some ⟨g, off, none⟩) dLen dCap)
    (l : B8) (hg : YBlk w g l) (sv : Value) (src : B8) (hs : a.eval s = sv) (hr : RdY w sv src) (hle : src.length ≤ dLen) (hfit : off + src.length ≤ l.length) (B : Nat) (w0 : World) (hb : Below B w0 w) (hBg : B ≤ g)
    (h : ∀ w', Hid (YBlk w' g (splice l off src)) → Below B w0 w' → K (a.put o.dst (goInt src.length)) w') : if Region.wanted o (yielded ops a.tmps) = true then Oper.wp Tryz.prog o a w K Q else E := by
  obtain ⟨i0, hi0, hz0, hs0, hb0⟩ := info_parts info_byte
  obtain ⟨sp, sc, rfl⟩ := hr.len
  refine step_copy_splice hgd d s 152 152 ho 5 Tryz.underlying152 (by rw [hi0]; simp [hs0]) (some ⟨g, off, none⟩) sp dLen dCap src.length sc hd hs g off (l.map y8) 5 hg (src.map y8) (by rw [List.length_map]; exact (Nat.min_eq_left hle).symm) ?_ (by simpa using hfit) (by simp [Value.oneCell', y8]) B w0 hb hBg ?_
  · intro hpos
    rw [List.length_map] at hpos
    refine ⟨rfl, ?_⟩
    rcases hr.2 with ⟨p, c, hv, hn⟩ | ⟨b, of', cap, hv, hcap, hbb, hc⟩
    · subst hn; simp at hpos
    · simp only [Value.slice.injEq] at hv
      refine ⟨_, hv.1, fun j v hj => ?_⟩
      obtain ⟨hj1, rfl⟩ := List.getElem?_eq_some_iff.1 hj
      rw [List.length_map] at hj1
      rw [Addr.add_lit, hc j hj1]
      simp [hj1]
  · intro w' h1 h2
    rw [List.length_map]
    refine h w' (show YBlk w' g _ from ?_) h2
    have h1' := h1.out
    unfold YBlk
    rw [map_splice]
    exact h1'
def zObj (n : Nat) : Obj := .cells ((List.replicate n (0 : UInt8)).map y8).toArray 5 (0, 0)
theorem madeCells_one (v : Value) (n : Nat) : madeCells #[v] n = (List.replicate n v).toArray := by
  unfold madeCells
  refine Array.ext (by simp) fun i h1 h2 => ?_
  simp [Nat.mod_one]
theorem make_y (w : World) (n : Nat) (hn : n ≤ 1000000) : (Instr.makeSlice 152 (.int .i64 (n : Int)) (.int .i64 (n : Int))).run Tryz.prog w = .ok (.slice (some ⟨w.heap.size, 0, none⟩) n n) (w.alloc (zObj n)) := by
  obtain ⟨i0, hi0, hz0, hs0, hb0⟩ := info_parts info_byte
  rw [run_make w 152 5 i0 _ Tryz.underlying152 hi0 hz0 .i64 .i64 n n (by omega) (Int.le_refl _) (by rw [hb0]; omega) (by omega)]
  rw [Int.toNat_natCast, hs0, Nat.mul_one]
  have e : madeCells (Value.int .u8 0).cells n = ((List.replicate n (0 : UInt8)).map y8).toArray := by
    rw [show (Value.int .u8 0).cells = #[Value.int .u8 0] from rfl, madeCells_one]
    rw [List.map_replicate]
    rfl
  rw [e]
  rfl
theorem zObj_blk (w : World) (n : Nat) : YBlk (w.alloc (zObj n)) w.heap.size (List.replicate n 0) := heap_alloc_new w _
/-- a part with its capacity cut -/
theorem RdY.part {w : World} {q : Option Addr} {c : Nat} {l : B8} (h : RdY w (.slice q l.length c) l) (i n : Nat) (h1 : i + n ≤ l.length) : RdY w (.slice (q.map fun x => x.add i) n n) ((l.drop i).take n) := by
  have hl : ((l.drop i).take n).length = n := by simp; omega
  have hm := h.1
  refine ⟨by omega, ?_⟩
  rcases h.2 with ⟨p, c', hv, rfl⟩ | ⟨b, off, cap, hv, h2, h3, h4⟩
  · simp only [List.length_nil] at h1
    obtain rfl : n = 0 := by omega
    exact .inl ⟨_, _, rfl, by simp⟩
  · simp only [Value.slice.injEq] at hv
    obtain ⟨rfl, _, rfl⟩ := hv
    refine .inr ⟨b, off + i, n, ?_, ⟨by omega, by omega⟩, h3, fun j hj => ?_⟩
    · rw [hl]; simp [Addr.add_lit]
    · rw [hl] at hj
      have := h4 (i + j) (by omega)
      rw [← Nat.add_assoc] at this
      rw [this]
      have h5 : i + j < l.length := by omega
      simp [List.getD, List.getElem?_drop, hj, h5]

/-! ### rows of rows of bytes -/
def nilS : Value := .slice none 0 0
structure RowsY (w : World) (base : Nat) (v : Value) (vs : List Value) (ls : List B8) : Prop where
  row : w.ownsRow base 152 1 v ls.length vs
  el : ∀ i, i < ls.length → RowY w base (vs.getD i nilS) (ls.getD i [])
  apart : ∀ i, i < ls.length → ∀ k, k ∈ ob (vs.getD i nilS) → k ∉ ob v
theorem RowsY.nil (w : World) (base : Nat) : RowsY w base nilS [] [] := ⟨World.ownsRow_nil _ _ _ _, fun i h => by simp at h, fun i h => by simp at h⟩
theorem RowsY.len {w : World} {base : Nat} {v : Value} {vs : List Value} {ls : List B8} (h : RowsY w base v vs ls) : vs.length = ls.length := by have := h.row.1; omega
theorem RowsY.mod {w w' : World} {base : Nat} {v : Value} {vs : List Value} {ls : List B8} (h : RowsY w base v vs ls) {S : List Nat} (m : Mod S w w') (hS : ∀ k, k ∈ S → k < base ∨ w.heap.size ≤ k) : RowsY w' base v vs ls := by
  refine ⟨m.row h.row (fun k hk e => ?_), fun i hi => (h.el i hi).mod m (fun k hk e => ?_), h.apart⟩
  · have := h.row.lt k hk
    have := hS k e
    omega
  · have := (h.el i hi).blk k hk
    have := hS k e
    omega
theorem RowsY.base {w : World} {base b' : Nat} {v : Value} {vs : List Value} {ls : List B8} (h : RowsY w base v vs ls) (hb : b' ≤ base) : RowsY w b' v vs ls := ⟨World.ownsRow.mono h.row hb, fun i hi => (h.el i hi).base hb, h.apart⟩
theorem RowsY.blk {w : World} {base : Nat} {v : Value} {vs : List Value} {ls : List B8} (h : RowsY w base v vs ls) : ∀ k, k ∈ ob v → base ≤ k ∧ k < w.heap.size := fun k hk => by
  have h2 := World.ownsRow.lt h.row k (by simpa [ob] using hk)
  omega
theorem RowsY.shape {w : World} {base : Nat} {v : Value} {vs : List Value} {ls : List B8} (h : RowsY w base v vs ls) : ∃ p c, v = .slice p ls.length c ∧ ls.length ≤ maxLen := by
  rcases h.row.2 with ⟨rfl, hn⟩ | ⟨g, cap, cur, rfl, _, hg, hh1, hh2, _⟩
  · exact ⟨none, 0, by rw [hn], by omega⟩
  · exact ⟨_, cap, rfl, by omega⟩
theorem RowsY.at_ {w : World} {base : Nat} {p : Option Addr} {n c : Nat} {vs : List Value} {ls : List B8} (h : RowsY w base (.slice p n c) vs ls) (i : Nat) (hi : i < ls.length) :
    ∃ b, p = some ⟨b, 0, none⟩ ∧ b < w.heap.size ∧ w.cell? ⟨b, i, none⟩ = some (vs.getD i nilS) ∧ RowY w base (vs.getD i nilS) (ls.getD i []) := by
  rcases h.row.2 with ⟨hv, hn⟩ | ⟨g, cap, cur, hv, _, hg, hh1, hh2, _⟩
  · omega
  · simp only [Value.slice.injEq] at hv
    obtain ⟨rfl, rfl, rfl⟩ := hv
    have hl := h.len
    refine ⟨g, rfl, lt_of_block hg, ?_, h.el i hi⟩
    rw [h.row.cellAt i (by omega)]
    simp [show i < vs.length by omega]
/-- a slice of bytes more -/
theorem wpList_app_ys {ops : Array Oper} {rest : List Oper} {o : Oper} {a : Act} {Q : Exit → Act → World → Prop} (w : World) (hgd : o.guard = none) (s x : Operand)
    (ho : o.op = .call { callee := .builtin .append, args := #[s, x], argTypes := #[275, 275] })
    (base : Nat) (v : Value) (vs : List Value) (ls : List B8) (hs : a.eval s = v) (hown : RowsY w base v vs ls) (k : Nat) (sv : Value) (b : B8) (hx : a.eval x = .slice (some ⟨k, 0, none⟩) 1 1)
    (hc : w.heap[k]? = some (.cells #[sv] 152 (0, 0))) (hone : sv.oneCell' = true) (hsv : RowY w base sv b) (hap : ∀ k, k ∈ ob sv → k ∉ ob v) (hsz : ls.length ≤ 1000000) (hbase : base ≤ w.heap.size)
    (h : ∀ g cap w', RowsY w' base (.slice (some ⟨g, 0, none⟩) (ls.length + 1) cap) (vs ++ [sv]) (ls ++ [b]) → Mod (ob v) w w' → (g ∈ ob v ∨ g = w.heap.size) → g < w'.heap.size → wpList Tryz.prog ops Q rest (a.put o.dst (.slice (some ⟨g, 0, none⟩) (ls.length + 1) cap)) w') :
    wpList Tryz.prog ops Q (o :: rest) a w := by
  obtain ⟨i0, hi0, hz0, hs0, hb0⟩ := info_parts (show (Tryz.prog.info? 152).map (fun i => (i.zero, i.size, i.bytes)) = some (some (.slice none 0 0), 1, 24) by kernel_rfl)
  have hl := hown.len
  refine wpList_append_lies w hgd s x 275 ho base 152 i0 _ 1 24 Tryz.underlying275 hi0 hz0 hs0 hb0 rfl (by decide) v ls.length vs hs hown.row ⟨k, 0, none⟩ 1 1 [sv] hx rfl ?_ (by simp [hone]) (by decide) (by unfold maxLen; omega) (by omega) hbase ?_
  · intro j u hu
    obtain ⟨hj, rfl⟩ := List.getElem?_eq_some_iff.1 hu
    obtain rfl : j = 0 := by simp at hj; omega
    rw [Addr.add_lit]
    simp [World.cell?, hc]
  · intro g cap' w' hr hg hat
    have hm : Mod (ob v) w w' := (Mod.refl (ob v) w).grown hg (fun k e _ => by simp [ob, e])
    have hat' : g ∈ ob v ∨ g = w.heap.size := hat.imp (fun e => by simp [ob, e]) id
    have hrl : w'.ownsRow base 152 1 (.slice (some ⟨g, 0, none⟩) (ls.length + 1) cap') (ls ++ [b]).length (vs ++ [sv]) := by rw [List.length_append]; exact hr
    have hg' : g < w'.heap.size := (World.ownsRow.lt hrl g rfl).2
    refine h g cap' w' ⟨hrl, fun i hi => ?_, fun i hi q hq => ?_⟩ hm hat' hg'
    · rcases Nat.lt_or_ge i ls.length with h1 | h1
      · have e1 : (vs ++ [sv]).getD i nilS = vs.getD i nilS := by simp [List.getD, List.getElem?_append_left (show i < vs.length by omega)]
        have e2 : (ls ++ [b]).getD i [] = ls.getD i [] := by simp [List.getD, List.getElem?_append_left h1]
        rw [e1, e2]
        exact (hown.el i h1).mod hm (hown.apart i h1)
      · obtain rfl : i = ls.length := by simp at hi; omega
        have e1 : (vs ++ [sv]).getD ls.length nilS = sv := by rw [← hl]; simp [List.getD]
        have e2 : (ls ++ [b]).getD ls.length [] = b := by simp [List.getD]
        rw [e1, e2]
        exact hsv.mod hm hap
    · have hq' : q ∉ ob v ∧ q < w.heap.size := by
        rcases Nat.lt_or_ge i ls.length with h1 | h1
        · have e1 : (vs ++ [sv]).getD i nilS = vs.getD i nilS := by simp [List.getD, List.getElem?_append_left (show i < vs.length by omega)]
          rw [e1] at hq
          exact ⟨hown.apart i h1 q hq, ((hown.el i h1).blk q hq).2⟩
        · obtain rfl : i = ls.length := by simp at hi; omega
          have e1 : (vs ++ [sv]).getD ls.length nilS = sv := by rw [← hl]; simp [List.getD]
          rw [e1] at hq
          exact ⟨hap q hq, (hsv.blk q hq).2⟩
      intro e
      have : q = g := by simpa [ob, Value.ownBlock] using e
      subst this
      rcases hat' with h1 | h1
      · exact hq'.1 h1
      · omega
end Go.Proofs.YtkfhapidoolfdaaGreatDoor
