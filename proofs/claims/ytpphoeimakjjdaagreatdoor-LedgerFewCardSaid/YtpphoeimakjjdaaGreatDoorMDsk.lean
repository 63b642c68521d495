/-
  Bytes2 Rds Dsk: see the remarks below.
-/
import Derived.Test.YtpphoeimakjjdaaGreatDoorMBytes
import Derived.Test.YtpphoeimakjjdaaGreatDoorMInts
import Derived.Laws.CopyOwn
import Derived.Deep.MidRow
/-
  PLAIN LAWS OF MEMORY: a block of bytes known whole; bytes copied into it; rows of rows of bytes.
-/
namespace Go.Proofs.YtpphoeimakjjdaaGreatDoor
open Go.RowKit

/-- a block that holds just these bytes -/
def YBlk (w : World) (g : Nat) (l : B8) : Prop := w.heap[g]? = some (.cells (l.map y8).toArray 5 (0, 0))
theorem YBlk.set {w : World} {g : Nat} {l : B8} (h : YBlk w g l) (i : Nat) (c : UInt8) : YBlk (w.setCell ⟨g, i, none⟩ (.int .u8 (c.toNat : Int))) g (l.set i c) := by
  have := blk_set h i (y8 c)
  unfold YBlk
  rw [List.map_set]
  have e : ((l.map y8).toArray.setIfInBounds i (y8 c)) = ((l.map y8).set i (y8 c)).toArray := by simp
  rw [← e]
  exact this
theorem YBlk.row {w : World} {base g : Nat} {l : B8} (h : YBlk w g l) (hb : base ≤ g) (hl : l.length ≤ maxLen) : RowY w base (.slice (some ⟨g, 0, none⟩) l.length l.length) l :=
  RowY.of_block h hb (Nat.le_refl _) hl (by simp) (by simp [List.take_of_length_le])
theorem YBlk.lt {w : World} {g : Nat} {l : B8} (h : YBlk w g l) : g < w.heap.size := lt_of_block h
theorem YBlk.mod {w w' : World} {g : Nat} {l : B8} (h : YBlk w g l) {S : List Nat} (m : Mod S w w') (hS : g ∉ S) : YBlk w' g l := m.at_ h hS
theorem YBlk.rd {w : World} {g : Nat} {l : B8} (h : YBlk w g l) (off n c : Nat) (h1 : off + n ≤ l.length) (h2 : n ≤ c) (h4 : c ≤ maxLen) (h3 : l.length ≤ maxLen) : RdY w (.slice (some ⟨g, off, none⟩) n c) ((l.drop off).take n) := by
  have hl : ((l.drop off).take n).length = n := by simp; omega
  refine ⟨by omega, .inr ⟨g, off, c, by rw [hl], ⟨by omega, h4⟩, h.lt, fun i hi => ?_⟩⟩
  rw [hl] at hi
  rw [blk_cell h]
  have : off + i < l.length := by omega
  simp [List.getD, List.getElem?_drop, hi, this]
theorem map_splice {α β : Type} (f : α → β) (L : List α) (off : Nat) (cs : List α) : (splice L off cs).map f = splice (L.map f) off (cs.map f) := by
  unfold splice
  rw [List.map_append, List.map_append, List.map_take, List.map_drop, List.length_map]
/-- bytes copied into a block -/
theorem wpList_copy_yb {ops : Array Oper} {rest : List Oper} {o : Oper} {a : Act} {Q : Exit → Act → World → Prop} (w : World) (hgd : o.guard = none) (d s : Operand)
    (ho : o.op = .call { callee := .builtin .copy, args := #[d, s], argTypes := #[71, 71] }) (g off dLen dCap : Nat) (hd : a.eval d = .slice (some ⟨g, off, none⟩) dLen dCap)
    (l : B8) (hg : YBlk w g l) (sv : Value) (src : B8) (hs : a.eval s = sv) (hr : RdY w sv src) (hle : src.length ≤ dLen) (hfit : off + src.length ≤ l.length) (B : Nat) (w0 : World) (hb : Below B w0 w) (hBg : B ≤ g)
    (h : ∀ w', Hid (YBlk w' g (splice l off src)) → Below B w0 w' → wpList Tryz.prog ops Q rest (a.put o.dst (goInt src.length)) w') : wpList Tryz.prog ops Q (o :: rest) a w := by
  obtain ⟨i0, hi0, hz0, hs0, hb0⟩ := info_parts info_byte
  obtain ⟨sp, sc, rfl⟩ := hr.len
  refine wpList_copy_splice hgd d s 71 71 ho 5 Tryz.underlying71 (by rw [hi0]; simp [hs0]) (some ⟨g, off, none⟩) sp dLen dCap src.length sc hd hs g off (l.map y8) 5 hg (src.map y8) (by rw [List.length_map]; exact (Nat.min_eq_left hle).symm) ?_ (by simpa using hfit) (by simp [Value.oneCell', y8]) B w0 hb hBg ?_
  · intro hpos
    rw [List.length_map] at hpos
    refine ⟨rfl, ?_⟩
    rcases hr.2 with ⟨p, c, hv, hn⟩ | ⟨b, of', cap, hv, hcap, hbb, hc⟩
    · subst hn; simp at hpos
    · simp only [Value.slice.injEq] at hv
      refine ⟨_, hv.1, fun j v hj => ?_⟩
      obtain ⟨hj1, rfl⟩ := List.getElem?_eq_some_iff.1 hj
      rw [List.length_map] at hj1
      rw [Addr.add_lit, hc j hj1]
      simp [hj1]
  · intro w' h1 h2
    rw [List.length_map]
    refine h w' (show YBlk w' g _ from ?_) h2
    have h1' := h1.out
    unfold YBlk
    rw [map_splice]
    exact h1'
/-- the same as one step of a region that draws -/
theorem step_copy_yb {ops : Array Oper} {o : Oper} {a : Act} {w : World} {K : Act → World → Prop} {Q : Exit → Act → World → Prop} {E : Prop} (hgd : o.guard = none) (d s : Operand)
    (ho : o.op = .call { callee := .builtin .copy, args := #[d, s], argTypes := #[71, 71] }) (g off dLen dCap : Nat) (hd : a.eval d = .slice (some ⟨g, off, none⟩) dLen dCap)
    (l : B8) (hg : YBlk w g l) (sv : Value) (src : B8) (hs : a.eval s = sv) (hr : RdY w sv src) (hle : src.length ≤ dLen) (hfit : off + src.length ≤ l.length) (B : Nat) (w0 : World) (hb : Below B w0 w) (hBg : B ≤ g)
    (h : ∀ w', Hid (YBlk w' g (splice l off src)) → Below B w0 w' → K (a.put o.dst (goInt src.length)) w') : if Region.wanted o (yielded ops a.tmps) = true then Oper.wp Tryz.prog o a w K Q else E := by
  obtain ⟨i0, hi0, hz0, hs0, hb0⟩ := info_parts info_byte
  obtain ⟨sp, sc, rfl⟩ := hr.len
  refine step_copy_splice hgd d s 71 71 ho 5 Tryz.underlying71 (by rw [hi0]; simp [hs0]) (some ⟨g, off, none⟩) sp dLen dCap src.length sc hd hs g off (l.map y8) 5 hg (src.map y8) (by rw [List.length_map]; exact (Nat.min_eq_left hle).symm) ?_ (by simpa using hfit) (by simp [Value.oneCell', y8]) B w0 hb hBg ?_
  · intro hpos
    rw [List.length_map] at hpos
    refine ⟨rfl, ?_⟩
    rcases hr.2 with ⟨p, c, hv, hn⟩ | ⟨b, of', cap, hv, hcap, hbb, hc⟩
    · subst hn; simp at hpos
    · simp only [Value.slice.injEq] at hv
      refine ⟨_, hv.1, fun j v hj => ?_⟩
      obtain ⟨hj1, rfl⟩ := List.getElem?_eq_some_iff.1 hj
      rw [List.length_map] at hj1
      rw [Addr.add_lit, hc j hj1]
      simp [hj1]
  · intro w' h1 h2
    rw [List.length_map]
    refine h w' (show YBlk w' g _ from ?_) h2
    have h1' := h1.out
    unfold YBlk
    rw [map_splice]
    exact h1'
def zObj (n : Nat) : Obj := .cells ((List.replicate n (0 : UInt8)).map y8).toArray 5 (0, 0)
theorem madeCells_one (v : Value) (n : Nat) : madeCells #[v] n = (List.replicate n v).toArray := by
  unfold madeCells
  refine Array.ext (by simp) fun i h1 h2 => ?_
  simp [Nat.mod_one]
theorem make_y (w : World) (n : Nat) (hn : n ≤ 1000000) : (Instr.makeSlice 71 (.int .i64 (n : Int)) (.int .i64 (n : Int))).run Tryz.prog w = .ok (.slice (some ⟨w.heap.size, 0, none⟩) n n) (w.alloc (zObj n)) := by
  obtain ⟨i0, hi0, hz0, hs0, hb0⟩ := info_parts info_byte
  rw [run_make w 71 5 i0 _ Tryz.underlying71 hi0 hz0 .i64 .i64 n n (by omega) (Int.le_refl _) (by rw [hb0]; omega) (by omega)]
  rw [Int.toNat_natCast, hs0, Nat.mul_one]
  have e : madeCells (Value.int .u8 0).cells n = ((List.replicate n (0 : UInt8)).map y8).toArray := by
    rw [show (Value.int .u8 0).cells = #[Value.int .u8 0] from rfl, madeCells_one]
    rw [List.map_replicate]
    rfl
  rw [e]
  rfl
theorem zObj_blk (w : World) (n : Nat) : YBlk (w.alloc (zObj n)) w.heap.size (List.replicate n 0) := heap_alloc_new w _
/-- a part with its capacity cut -/
theorem RdY.part {w : World} {q : Option Addr} {c : Nat} {l : B8} (h : RdY w (.slice q l.length c) l) (i n : Nat) (h1 : i + n ≤ l.length) : RdY w (.slice (q.map fun x => x.add i) n n) ((l.drop i).take n) := by
  have hl : ((l.drop i).take n).length = n := by simp; omega
  have hm := h.1
  refine ⟨by omega, ?_⟩
  rcases h.2 with ⟨p, c', hv, rfl⟩ | ⟨b, off, cap, hv, h2, h3, h4⟩
  · simp only [List.length_nil] at h1
    obtain rfl : n = 0 := by omega
    exact .inl ⟨_, _, rfl, by simp⟩
  · simp only [Value.slice.injEq] at hv
    obtain ⟨rfl, _, rfl⟩ := hv
    refine .inr ⟨b, off + i, n, ?_, ⟨by omega, by omega⟩, h3, fun j hj => ?_⟩
    · rw [hl]; simp [Addr.add_lit]
    · rw [hl] at hj
      have := h4 (i + j) (by omega)
      rw [← Nat.add_assoc] at this
      rw [this]
      have h5 : i + j < l.length := by omega
      simp [List.getD, List.getElem?_drop, hj, h5]

/-! ### rows of rows of bytes -/
def nilS : Value := .slice none 0 0
structure RowsY (w : World) (base : Nat) (v : Value) (vs : List Value) (ls : List B8) : Prop where
  row : w.ownsRow base 71 1 v ls.length vs
  el : ∀ i, i < ls.length → RowY w base (vs.getD i nilS) (ls.getD i [])
  apart : ∀ i, i < ls.length → ∀ k, k ∈ ob (vs.getD i nilS) → k ∉ ob v
theorem RowsY.nil (w : World) (base : Nat) : RowsY w base nilS [] [] := ⟨World.ownsRow_nil _ _ _ _, fun i h => by simp at h, fun i h => by simp at h⟩
theorem RowsY.len {w : World} {base : Nat} {v : Value} {vs : List Value} {ls : List B8} (h : RowsY w base v vs ls) : vs.length = ls.length := by have := h.row.1; omega
theorem RowsY.mod {w w' : World} {base : Nat} {v : Value} {vs : List Value} {ls : List B8} (h : RowsY w base v vs ls) {S : List Nat} (m : Mod S w w') (hS : ∀ k, k ∈ S → k < base ∨ w.heap.size ≤ k) : RowsY w' base v vs ls := by
  refine ⟨m.row h.row (fun k hk e => ?_), fun i hi => (h.el i hi).mod m (fun k hk e => ?_), h.apart⟩
  · have := h.row.lt k hk
    have := hS k e
    omega
  · have := (h.el i hi).blk k hk
    have := hS k e
    omega
theorem RowsY.base {w : World} {base b' : Nat} {v : Value} {vs : List Value} {ls : List B8} (h : RowsY w base v vs ls) (hb : b' ≤ base) : RowsY w b' v vs ls := ⟨World.ownsRow.mono h.row hb, fun i hi => (h.el i hi).base hb, h.apart⟩
theorem RowsY.blk {w : World} {base : Nat} {v : Value} {vs : List Value} {ls : List B8} (h : RowsY w base v vs ls) : ∀ k, k ∈ ob v → base ≤ k ∧ k < w.heap.size := fun k hk => by
  have h2 := World.ownsRow.lt h.row k (by simpa [ob] using hk)
  omega
theorem RowsY.shape {w : World} {base : Nat} {v : Value} {vs : List Value} {ls : List B8} (h : RowsY w base v vs ls) : ∃ p c, v = .slice p ls.length c ∧ ls.length ≤ maxLen := by
  rcases h.row.2 with ⟨rfl, hn⟩ | ⟨g, cap, cur, rfl, _, hg, hh1, hh2, _⟩
  · exact ⟨none, 0, by rw [hn], by omega⟩
  · exact ⟨_, cap, rfl, by omega⟩
theorem RowsY.at_ {w : World} {base : Nat} {p : Option Addr} {n c : Nat} {vs : List Value} {ls : List B8} (h : RowsY w base (.slice p n c) vs ls) (i : Nat) (hi : i < ls.length) :
    ∃ b, p = some ⟨b, 0, none⟩ ∧ b < w.heap.size ∧ w.cell? ⟨b, i, none⟩ = some (vs.getD i nilS) ∧ RowY w base (vs.getD i nilS) (ls.getD i []) := by
  rcases h.row.2 with ⟨hv, hn⟩ | ⟨g, cap, cur, hv, _, hg, hh1, hh2, _⟩
  · omega
  · simp only [Value.slice.injEq] at hv
    obtain ⟨rfl, rfl, rfl⟩ := hv
    have hl := h.len
    refine ⟨g, rfl, lt_of_block hg, ?_, h.el i hi⟩
    rw [h.row.cellAt i (by omega)]
    simp [show i < vs.length by omega]
/-- a slice of bytes more -/
theorem wpList_app_ys {ops : Array Oper} {rest : List Oper} {o : Oper} {a : Act} {Q : Exit → Act → World → Prop} (w : World) (hgd : o.guard = none) (s x : Operand)
    (ho : o.op = .call { callee := .builtin .append, args := #[s, x], argTypes := #[65, 65] })
    (base : Nat) (v : Value) (vs : List Value) (ls : List B8) (hs : a.eval s = v) (hown : RowsY w base v vs ls) (k : Nat) (sv : Value) (b : B8) (hx : a.eval x = .slice (some ⟨k, 0, none⟩) 1 1)
    (hc : w.heap[k]? = some (.cells #[sv] 71 (0, 0))) (hone : sv.oneCell' = true) (hsv : RowY w base sv b) (hap : ∀ k, k ∈ ob sv → k ∉ ob v) (hsz : ls.length ≤ 1000000) (hbase : base ≤ w.heap.size)
    (h : ∀ g cap w', RowsY w' base (.slice (some ⟨g, 0, none⟩) (ls.length + 1) cap) (vs ++ [sv]) (ls ++ [b]) → Mod (ob v) w w' → (g ∈ ob v ∨ g = w.heap.size) → g < w'.heap.size → wpList Tryz.prog ops Q rest (a.put o.dst (.slice (some ⟨g, 0, none⟩) (ls.length + 1) cap)) w') :
    wpList Tryz.prog ops Q (o :: rest) a w := by
  obtain ⟨i0, hi0, hz0, hs0, hb0⟩ := info_parts (show (Tryz.prog.info? 71).map (fun i => (i.zero, i.size, i.bytes)) = some (some (.slice none 0 0), 1, 24) by kernel_rfl)
  have hl := hown.len
  refine wpList_append_lies w hgd s x 65 ho base 71 i0 _ 1 24 Tryz.underlying65 hi0 hz0 hs0 hb0 rfl (by decide) v ls.length vs hs hown.row ⟨k, 0, none⟩ 1 1 [sv] hx rfl ?_ (by simp [hone]) (by decide) (by unfold maxLen; omega) (by omega) hbase ?_
  · intro j u hu
    obtain ⟨hj, rfl⟩ := List.getElem?_eq_some_iff.1 hu
    obtain rfl : j = 0 := by simp at hj; omega
    rw [Addr.add_lit]
    simp [World.cell?, hc]
  · intro g cap' w' hr hg hat
    have hm : Mod (ob v) w w' := (Mod.refl (ob v) w).grown hg (fun k e _ => by simp [ob, e])
    have hat' : g ∈ ob v ∨ g = w.heap.size := hat.imp (fun e => by simp [ob, e]) id
    have hrl : w'.ownsRow base 71 1 (.slice (some ⟨g, 0, none⟩) (ls.length + 1) cap') (ls ++ [b]).length (vs ++ [sv]) := by rw [List.length_append]; exact hr
    have hg' : g < w'.heap.size := (World.ownsRow.lt hrl g rfl).2
    refine h g cap' w' ⟨hrl, fun i hi => ?_, fun i hi q hq => ?_⟩ hm hat' hg'
    · rcases Nat.lt_or_ge i ls.length with h1 | h1
      · have e1 : (vs ++ [sv]).getD i nilS = vs.getD i nilS := by simp [List.getD, List.getElem?_append_left (show i < vs.length by omega)]
        have e2 : (ls ++ [b]).getD i [] = ls.getD i [] := by simp [List.getD, List.getElem?_append_left h1]
        rw [e1, e2]
        exact (hown.el i h1).mod hm (hown.apart i h1)
      · obtain rfl : i = ls.length := by simp at hi; omega
        have e1 : (vs ++ [sv]).getD ls.length nilS = sv := by rw [← hl]; simp [List.getD]
        have e2 : (ls ++ [b]).getD ls.length [] = b := by simp [List.getD]
        rw [e1, e2]
        exact hsv.mod hm hap
    · have hq' : q ∉ ob v ∧ q < w.heap.size := by
        rcases Nat.lt_or_ge i ls.length with h1 | h1
        · have e1 : (vs ++ [sv]).getD i nilS = vs.getD i nilS := by simp [List.getD, List.getElem?_append_left (show i < vs.length by omega)]
          rw [e1] at hq
          exact ⟨hown.apart i h1 q hq, ((hown.el i h1).blk q hq).2⟩
        · obtain rfl : i = ls.length := by simp at hi; omega
          have e1 : (vs ++ [sv]).getD ls.length nilS = sv := by rw [← hl]; simp [List.getD]
          rw [e1] at hq
          exact ⟨hap q hq, (hsv.blk q hq).2⟩
      intro e
      have : q = g := by simpa [ob, Value.ownBlock] using e
      subst this
      rcases hat' with h1 | h1
      · exact hq'.1 h1
      · omega
end Go.Proofs.YtpphoeimakjjdaaGreatDoor
/-
  PLAIN LAWS OF MEMORY: rows of slices that read as bytes (rows of their own, or arrays).
-/
namespace Go.Proofs.YtpphoeimakjjdaaGreatDoor
open Go.RowKit

theorem alloc_here {w : World} {o : Obj} {n : Nat} (h : n = w.heap.size) : (w.alloc o).heap[n]? = some o := by rw [h]; exact heap_alloc_new w o
/-- a slice that reads as bytes, its block from base on -/
def ElY (w : World) (base : Nat) (v : Value) (m : B8) : Prop := RdY w v m ∧ ∀ k, k ∈ ob v → base ≤ k ∧ k < w.heap.size
theorem ElY.rd {w : World} {base : Nat} {v : Value} {m : B8} (h : ElY w base v m) : RdY w v m := h.1
theorem ElY.blk {w : World} {base : Nat} {v : Value} {m : B8} (h : ElY w base v m) : ∀ k, k ∈ ob v → base ≤ k ∧ k < w.heap.size := h.2
theorem ElY.mod {w w' : World} {base : Nat} {v : Value} {m : B8} (h : ElY w base v m) {S : List Nat} (k : Mod S w w') (hf : ∀ x, x ∈ ob v → x ∉ S) : ElY w' base v m := ⟨h.1.mod k hf, fun x hx => ⟨(h.2 x hx).1, Nat.lt_of_lt_of_le (h.2 x hx).2 k.size⟩⟩
theorem ElY.base {w : World} {base b' : Nat} {v : Value} {m : B8} (h : ElY w base v m) (hb : b' ≤ base) : ElY w b' v m := ⟨h.1, fun x hx => ⟨Nat.le_trans hb (h.2 x hx).1, (h.2 x hx).2⟩⟩
theorem ElY.gr {w w' : World} {base : Nat} {v : Value} {m : B8} (h : ElY w base v m) (k : Gr w w') : ElY w' base v m := h.mod (k.mod []) (by simp)
theorem RowY.el {w : World} {base : Nat} {v : Value} {m : B8} (h : RowY w base v m) : ElY w base v m := ⟨h.rd, h.blk⟩
structure RdsY (w : World) (base : Nat) (v : Value) (vs : List Value) (ls : List B8) : Prop where
  row : w.ownsRow base 71 1 v ls.length vs
  el : ∀ i, i < ls.length → ElY w base (vs.getD i nilS) (ls.getD i [])
  apart : ∀ i, i < ls.length → ∀ k, k ∈ ob (vs.getD i nilS) → k ∉ ob v
theorem RdsY.nil (w : World) (base : Nat) : RdsY w base nilS [] [] := ⟨World.ownsRow_nil _ _ _ _, fun i h => by simp at h, fun i h => by simp at h⟩
theorem RdsY.len {w : World} {base : Nat} {v : Value} {vs : List Value} {ls : List B8} (h : RdsY w base v vs ls) : vs.length = ls.length := by have := h.row.1; omega
theorem RdsY.mod {w w' : World} {base : Nat} {v : Value} {vs : List Value} {ls : List B8} (h : RdsY w base v vs ls) {S : List Nat} (m : Mod S w w') (hS : ∀ k, k ∈ S → k < base ∨ w.heap.size ≤ k) : RdsY w' base v vs ls := by
  refine ⟨m.row h.row (fun k hk e => ?_), fun i hi => (h.el i hi).mod m (fun k hk e => ?_), h.apart⟩
  · have := h.row.lt k hk
    have := hS k e
    omega
  · have := (h.el i hi).blk k hk
    have := hS k e
    omega
theorem RdsY.base {w : World} {base b' : Nat} {v : Value} {vs : List Value} {ls : List B8} (h : RdsY w base v vs ls) (hb : b' ≤ base) : RdsY w b' v vs ls := ⟨World.ownsRow.mono h.row hb, fun i hi => (h.el i hi).base hb, h.apart⟩
theorem RdsY.blk {w : World} {base : Nat} {v : Value} {vs : List Value} {ls : List B8} (h : RdsY w base v vs ls) : ∀ k, k ∈ ob v → base ≤ k ∧ k < w.heap.size := fun k hk => by
  have h2 := World.ownsRow.lt h.row k (by simpa [ob] using hk)
  omega
theorem RdsY.shape {w : World} {base : Nat} {v : Value} {vs : List Value} {ls : List B8} (h : RdsY w base v vs ls) : ∃ p c, v = .slice p ls.length c ∧ ls.length ≤ maxLen := by
  rcases h.row.2 with ⟨rfl, hn⟩ | ⟨g, cap, cur, rfl, _, hg, hh1, hh2, _⟩
  · exact ⟨none, 0, by rw [hn], by omega⟩
  · exact ⟨_, cap, rfl, by omega⟩
theorem RdsY.at_ {w : World} {base : Nat} {p : Option Addr} {n c : Nat} {vs : List Value} {ls : List B8} (h : RdsY w base (.slice p n c) vs ls) (i : Nat) (hi : i < ls.length) :
    ∃ b, p = some ⟨b, 0, none⟩ ∧ b < w.heap.size ∧ w.cell? ⟨b, i, none⟩ = some (vs.getD i nilS) ∧ ElY w base (vs.getD i nilS) (ls.getD i []) := by
  rcases h.row.2 with ⟨hv, hn⟩ | ⟨g, cap, cur, hv, _, hg, hh1, hh2, _⟩
  · omega
  · simp only [Value.slice.injEq] at hv
    obtain ⟨rfl, rfl, rfl⟩ := hv
    have hl := h.len
    refine ⟨g, rfl, lt_of_block hg, ?_, h.el i hi⟩
    rw [h.row.cellAt i (by omega)]
    simp [show i < vs.length by omega]
/-- a slice of bytes more -/
theorem wpList_app_rs {ops : Array Oper} {rest : List Oper} {o : Oper} {a : Act} {Q : Exit → Act → World → Prop} (w : World) (hgd : o.guard = none) (s x : Operand)
    (ho : o.op = .call { callee := .builtin .append, args := #[s, x], argTypes := #[65, 65] })
    (base : Nat) (v : Value) (vs : List Value) (ls : List B8) (hs : a.eval s = v) (hown : RdsY w base v vs ls) (k : Nat) (sv : Value) (b : B8) (hx : a.eval x = .slice (some ⟨k, 0, none⟩) 1 1)
    (hc : w.heap[k]? = some (.cells #[sv] 71 (0, 0))) (hone : sv.oneCell' = true) (hsv : ElY w base sv b) (hap : ∀ k, k ∈ ob sv → k ∉ ob v) (hsz : ls.length ≤ 1000000) (hbase : base ≤ w.heap.size)
    (h : ∀ g cap w', RdsY w' base (.slice (some ⟨g, 0, none⟩) (ls.length + 1) cap) (vs ++ [sv]) (ls ++ [b]) → Mod (ob v) w w' → (g ∈ ob v ∨ g = w.heap.size) → g < w'.heap.size → wpList Tryz.prog ops Q rest (a.put o.dst (.slice (some ⟨g, 0, none⟩) (ls.length + 1) cap)) w') :
    wpList Tryz.prog ops Q (o :: rest) a w := by
  obtain ⟨i0, hi0, hz0, hs0, hb0⟩ := info_parts (show (Tryz.prog.info? 71).map (fun i => (i.zero, i.size, i.bytes)) = some (some (.slice none 0 0), 1, 24) by kernel_rfl)
  have hl := hown.len
  refine wpList_append_lies w hgd s x 65 ho base 71 i0 _ 1 24 Tryz.underlying65 hi0 hz0 hs0 hb0 rfl (by decide) v ls.length vs hs hown.row ⟨k, 0, none⟩ 1 1 [sv] hx rfl ?_ (by simp [hone]) (by decide) (by unfold maxLen; omega) (by omega) hbase ?_
  · intro j u hu
    obtain ⟨hj, rfl⟩ := List.getElem?_eq_some_iff.1 hu
    obtain rfl : j = 0 := by simp at hj; omega
    rw [Addr.add_lit]
    simp [World.cell?, hc]
  · intro g cap' w' hr hg hat
    have hm : Mod (ob v) w w' := (Mod.refl (ob v) w).grown hg (fun k e _ => by simp [ob, e])
    have hat' : g ∈ ob v ∨ g = w.heap.size := hat.imp (fun e => by simp [ob, e]) id
    have hrl : w'.ownsRow base 71 1 (.slice (some ⟨g, 0, none⟩) (ls.length + 1) cap') (ls ++ [b]).length (vs ++ [sv]) := by rw [List.length_append]; exact hr
    have hg' : g < w'.heap.size := (World.ownsRow.lt hrl g rfl).2
    refine h g cap' w' ⟨hrl, fun i hi => ?_, fun i hi q hq => ?_⟩ hm hat' hg'
    · rcases Nat.lt_or_ge i ls.length with h1 | h1
      · have e1 : (vs ++ [sv]).getD i nilS = vs.getD i nilS := by simp [List.getD, List.getElem?_append_left (show i < vs.length by omega)]
        have e2 : (ls ++ [b]).getD i [] = ls.getD i [] := by simp [List.getD, List.getElem?_append_left h1]
        rw [e1, e2]
        exact (hown.el i h1).mod hm (hown.apart i h1)
      · obtain rfl : i = ls.length := by simp at hi; omega
        have e1 : (vs ++ [sv]).getD ls.length nilS = sv := by rw [← hl]; simp [List.getD]
        have e2 : (ls ++ [b]).getD ls.length [] = b := by simp [List.getD]
        rw [e1, e2]
        exact hsv.mod hm hap
    · have hq' : q ∉ ob v ∧ q < w.heap.size := by
        rcases Nat.lt_or_ge i ls.length with h1 | h1
        · have e1 : (vs ++ [sv]).getD i nilS = vs.getD i nilS := by simp [List.getD, List.getElem?_append_left (show i < vs.length by omega)]
          rw [e1] at hq
          exact ⟨hown.apart i h1 q hq, ((hown.el i h1).blk q hq).2⟩
        · obtain rfl : i = ls.length := by simp at hi; omega
          have e1 : (vs ++ [sv]).getD ls.length nilS = sv := by rw [← hl]; simp [List.getD]
          rw [e1] at hq
          exact ⟨hap q hq, (hsv.blk q hq).2⟩
      intro e
      have : q = g := by simpa [ob, Value.ownBlock] using e
      subst this
      rcases hat' with h1 | h1
      · exact hq'.1 h1
      · omega
theorem RowsY.rds {w : World} {base : Nat} {v : Value} {vs : List Value} {ls : List B8} (h : RowsY w base v vs ls) : RdsY w base v vs ls := ⟨h.row, fun i hi => (h.el i hi).el, h.apart⟩
end Go.Proofs.YtpphoeimakjjdaaGreatDoor
/-
  PLAIN: layer 9: a disk as a list of sectors, its counters; and how it lies in memory.
-/
namespace Go.Proofs.YtpphoeimakjjdaaGreatDoor
open Go.RowKit

structure Dk where
  secs : List B8
  writes : Int
  armed : Bool
  left : Int
  off : Bool
structure Dk.Ok (d : Dk) : Prop where
  all : ∀ i, i < d.secs.length → (d.secs.getD i []).length = 64
  least : 1 ≤ d.secs.length
  most : d.secs.length ≤ 512
  left0 : d.armed = true → 0 ≤ d.left
  leftM : d.left ≤ 9223372036854775807
def faultD (d : Dk) (i : Nat) : Int := if d.off = true then 40 else if d.secs.length ≤ i then 2 else 0
def wroteD (d : Dk) (i : Nat) (b : B8) : Dk := { d with left := if d.armed = true then d.left - 1 else d.left, secs := d.secs.set i b, writes := wrap64 (d.writes + 1) }
def cutD (d : Dk) : Dk := { d with armed := false, off := true }
def writeD (d : Dk) (i : Nat) (b : B8) : Int × Dk :=
  if d.off = true then (40, d) else if d.secs.length ≤ i then (2, d) else if b.length ≠ 64 then (2, d)
  else if d.armed = true ∧ d.left = 0 then (40, cutD d) else (0, wroteD d i b)
theorem map_y8_get (b : B8) {j : Nat} (hj : j < b.length) : (b.map y8)[j]? = some (y8 (b.getD j 0)) := by
  rw [List.getElem?_map, List.getElem?_eq_getElem hj]
  simp [List.getD, hj]
theorem getD_set (l : List B8) (i j : Nat) (b : B8) (hi : i < l.length) : (l.set i b).getD j [] = if i = j then b else l.getD j [] := by
  simp only [List.getD, List.getElem?_set]
  split
  · subst_vars; rfl
  · rfl
theorem Dk.Ok.wrote {d : Dk} (h : d.Ok) {i : Nat} {b : B8} (hi : i < d.secs.length) (hb : b.length = 64) (ha : ¬ (d.armed = true ∧ d.left = 0)) : (wroteD d i b).Ok := by
  refine ⟨fun j hj => ?_, by simpa [wroteD] using h.least, by simpa [wroteD] using h.most, fun he => ?_, ?_⟩
  · have hj' : j < d.secs.length := by simpa [wroteD] using hj
    show ((d.secs.set i b).getD j []).length = 64
    rw [getD_set _ _ _ _ hi]
    split
    · exact hb
    · exact h.all j hj'
  · have he' : d.armed = true := he
    have := h.left0 he'
    have h0 : d.left ≠ 0 := fun e => ha ⟨he', e⟩
    show 0 ≤ (if d.armed = true then d.left - 1 else d.left)
    rw [if_pos he']
    omega
  · have := h.leftM
    show (if d.armed = true then d.left - 1 else d.left) ≤ _
    split <;> omega
theorem Dk.Ok.cut {d : Dk} (h : d.Ok) : (cutD d).Ok := ⟨h.all, h.least, h.most, fun e => Bool.noConfusion e, h.leftM⟩

/-! ### sectors as cells -/
def flatY (l : List B8) : List Value := l.flatMap (fun b => b.map y8)
theorem flatY_len : ∀ (l : List B8), (∀ i, i < l.length → (l.getD i []).length = 64) → (flatY l).length = l.length * 64
  | [], _ => rfl
  | b :: l, h => by
    have h0 : b.length = 64 := by simpa using h 0 (by simp)
    have h1 := flatY_len l (fun i hi => by simpa using h (i + 1) (by simp; omega))
    show (b.map y8 ++ flatY l).length = _
    rw [List.length_append, List.length_map, h0, h1, List.length_cons]
    omega
theorem flatY_get : ∀ (l : List B8), (∀ i, i < l.length → (l.getD i []).length = 64) → ∀ i j, i < l.length → j < 64 → (flatY l)[i * 64 + j]? = some (y8 ((l.getD i []).getD j 0))
  | [], _, _, _, h, _ => by simp at h
  | b :: l, h, 0, j, _, hj => by
    have h0 : b.length = 64 := by simpa using h 0 (by simp)
    show (b.map y8 ++ flatY l)[0 * 64 + j]? = _
    rw [Nat.zero_mul, Nat.zero_add, List.getElem?_append_left (by simp; omega)]
    simp [h0, hj]
  | b :: l, h, i + 1, j, hi, hj => by
    have h0 : b.length = 64 := by simpa using h 0 (by simp)
    have ih := flatY_get l (fun i hi => by simpa using h (i + 1) (by simp; omega)) i j (by simpa using hi) hj
    show (b.map y8 ++ flatY l)[(i + 1) * 64 + j]? = _
    rw [List.getElem?_append_right (by simp; omega)]
    rw [show (i + 1) * 64 + j - (b.map y8).length = i * 64 + j by simp; omega, ih]
    simp
theorem flatY_app (l m : List B8) : flatY (l ++ m) = flatY l ++ flatY m := by simp [flatY]
theorem flatY_one (b : B8) : flatY [b] = b.map y8 := by simp [flatY]
theorem flatY_set (l : List B8) (i : Nat) (b : B8) (hi : i < l.length) : flatY (l.set i b) = flatY (l.take i) ++ b.map y8 ++ flatY (l.drop (i + 1)) := by
  rw [List.set_eq_take_append_cons_drop, if_pos hi, flatY_app]
  show flatY (l.take i) ++ (b.map y8 ++ flatY (l.drop (i + 1))) = _
  rw [List.append_assoc]
theorem flatY_at (l : List B8) (i : Nat) (hi : i < l.length) : flatY l = flatY (l.take i) ++ (l.getD i []).map y8 ++ flatY (l.drop (i + 1)) := by
  rw [← flatY_set l i _ hi]
  congr 1
  apply List.ext_getElem? ; intro j
  rw [List.getElem?_set]
  split
  · subst_vars; simp [hi]
  · rfl
theorem setCells_heap {r : Nat} {T : TypeId} : ∀ (l : List Value) (i : Nat) (w : World) (pre old post : List Value), pre.length = i → old.length = l.length → w.heap[r]? = some (.cells (pre ++ old ++ post).toArray T (0, 0)) →
    (w.setCells r i l).heap[r]? = some (.cells (pre ++ l ++ post).toArray T (0, 0))
  | [], i, w, pre, old, post, _, ho, h => by
    obtain rfl : old = [] := List.length_eq_zero_iff.1 (by simpa using ho)
    exact h
  | v :: l, i, w, pre, o :: old, post, hp, ho, h => by
    have h1 := blk_set h i v
    have e : ((pre ++ o :: old ++ post).toArray.setIfInBounds i v) = ((pre ++ [v]) ++ old ++ post).toArray := by
      subst hp
      simp
    rw [e] at h1
    have h2 := setCells_heap l (i + 1) (w.setCell ⟨r, i, none⟩ v) (pre ++ [v]) old post (by simp [hp]) (by simpa using ho) h1
    rw [List.append_assoc pre [v] l] at h2
    exact h2
  | _ :: _, _, _, _, [], _, _, ho, _ => by simp at ho
theorem setCells_mod {S : List Nat} {w0 : World} {r : Nat} (hr : r < w0.heap.size → r ∈ S) : ∀ (l : List Value) (i : Nat) (w : World), Mod S w0 w → Mod S w0 (w.setCells r i l)
  | [], _, _, h => h
  | v :: l, i, _, h => setCells_mod hr l (i + 1) _ (h.setCell hr v)

/-! ### a disk in memory: its block, the sectors' block -/
def dkCells (bs c : Nat) (d : Dk) : Array Value := #[.slice (some ⟨bs, 0, none⟩) d.secs.length c, .int .i64 d.writes, .bool d.armed, .int .i64 d.left, .bool d.off]
structure DkM (w : World) (pd bs : Nat) (d : Dk) : Prop where
  blk : ∃ c, w.heap[pd]? = some (.cells (dkCells bs c d) 78 (0, 0)) ∧ w.ownsRow bs 114 64 (.slice (some ⟨bs, 0, none⟩) d.secs.length c) d.secs.length (flatY d.secs)
  ok : d.Ok
  ne : pd ≠ bs
theorem DkM.mod {w w' : World} {pd bs : Nat} {d : Dk} (h : DkM w pd bs d) {S : List Nat} (m : Mod S w w') (h1 : pd ∉ S) (h2 : bs ∉ S) : DkM w' pd bs d := by
  obtain ⟨c, hb, hr⟩ := h.blk
  exact ⟨⟨c, m.at_ hb h1, m.row hr (fun k hk e => h2 (by simp [Value.ownBlock] at hk; subst hk; exact e))⟩, h.ok, h.ne⟩
theorem DkM.gr {w w' : World} {pd bs : Nat} {d : Dk} (h : DkM w pd bs d) (g : Gr w w') : DkM w' pd bs d := h.mod (g.mod []) (by simp) (by simp)
theorem DkM.lt {w : World} {pd bs : Nat} {d : Dk} (h : DkM w pd bs d) : pd < w.heap.size ∧ bs < w.heap.size := by
  obtain ⟨c, hb, hr⟩ := h.blk
  exact ⟨lt_of_block hb, (World.ownsRow.lt hr bs rfl).2⟩
theorem DkM.range {w : World} {pd bs : Nat} {d : Dk} (h : DkM w pd bs d) {i : Nat} (hi : i < d.secs.length) : w.rangeAt bs (i * 64) ((d.secs.getD i []).map y8) := by
  obtain ⟨c, hb, hr⟩ := h.blk
  intro j v hv
  have h64 := h.ok.all i hi
  have hj : j < 64 := by
    have := (List.getElem?_eq_some_iff.1 hv).1
    rw [List.length_map] at this
    omega
  have hlt : i * 64 + j < d.secs.length * 64 := by omega
  rw [hr.cellAt (i * 64 + j) hlt]
  have e := flatY_get d.secs h.ok.all i j hi hj
  have e2 := map_y8_get (d.secs.getD i []) (j := j) (by omega)
  rw [e2] at hv
  cases hv
  exact e
theorem DkM.there {w : World} {pd bs : Nat} {d : Dk} (h : DkM w pd bs d) {i : Nat} (hi : i < d.secs.length) : w.there bs (i * 64) 64 := by
  intro j hj
  have h64 := h.ok.all i hi
  have hv := map_y8_get (d.secs.getD i []) (j := j) (by omega)
  obtain ⟨c, hb, hr⟩ := h.blk
  exact ⟨by rw [h.range hi j _ hv]; rfl, hr.frozenAt _⟩
/-- a sector's row, stored anew -/
theorem row_set {w : World} {bs n c : Nat} {l : List B8} {i : Nat} {b : B8} (hn : n = l.length) (hall : ∀ i, i < l.length → (l.getD i []).length = 64) (hr : w.ownsRow bs 114 64 (.slice (some ⟨bs, 0, none⟩) n c) n (flatY l)) (hi : i < l.length) (hb : b.length = 64) :
    (w.setCells bs (i * 64) (b.map y8)).ownsRow bs 114 64 (.slice (some ⟨bs, 0, none⟩) n c) n (flatY (l.set i b)) := by
  subst hn
  rcases hr.2 with ⟨hv, _⟩ | ⟨g, cap, cur, hv, hg0, hg, hh1, hh2, hs, ht⟩
  · cases hv
  · simp only [Value.slice.injEq, Option.some.injEq, Addr.mk.injEq, and_true, true_and] at hv
    obtain ⟨rfl, rfl⟩ := hv
    have hfl := flatY_len l hall
    have hti : (flatY (l.take i)).length = i * 64 := by
      rw [flatY_len]
      · rw [List.length_take, Nat.min_eq_left (by omega)]
      · intro j hj
        have hj' : j < i := by simp at hj; omega
        have := hall j (by omega)
        rw [← this]
        congr 1
        simp [List.getD, hj']
    have e : cur = (flatY (l.take i) ++ (l.getD i []).map y8 ++ (flatY (l.drop (i + 1)) ++ cur.toList.drop (l.length * 64))).toArray := by
      rw [← List.append_assoc, ← flatY_at l i hi, ← ht, List.take_append_drop]
    rw [e] at hg
    have h2 := setCells_heap (b.map y8) (i * 64) w (flatY (l.take i)) ((l.getD i []).map y8) _ hti (by simp [hb]; exact hall i hi) hg
    have hall2 : ∀ j, j < (l.set i b).length → ((l.set i b).getD j []).length = 64 := fun j hj => by
      rw [getD_set _ _ _ _ hi]
      split
      · exact hb
      · exact hall j (by simpa using hj)
    have hfl2 := flatY_len _ hall2
    rw [List.length_set] at hfl2
    refine ⟨hfl2, .inr ⟨bs, c, _, rfl, Nat.le_refl _, h2, hh1, hh2, ?_, ?_⟩⟩
    · have e' := congrArg Array.size e
      rw [hs] at e'
      rw [e']
      simp only [List.size_toArray, List.length_append, List.length_map, hb, hall i hi]
    · rw [List.toList_toArray, ← List.append_assoc, ← flatY_set l i b hi]
      rw [List.take_append_of_le_length (by omega), List.take_of_length_le (by omega)]
end Go.Proofs.YtpphoeimakjjdaaGreatDoor
