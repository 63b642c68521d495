/-
  PLAIN LAWS OF MEMORY: slices of bytes that read as lists; rows of bytes of one's own; bytes appended.
-/
import Derived.Test.YtkfhapidoolfdaaGreatDoorOct
import Derived.Test.YtkfhapidoolfdaaGreatDoorInts
import Derived.Test.YtkfhapidoolfdaaGreatDoorAppend
import Derived.Test.YtkfhapidoolfdaaGreatDoorProg
import Derived.Lib.Hide
import Derived.Laws.BytesArg
import Derived.Laws.IdiomStrings
namespace Go.Proofs.YtkfhapidoolfdaaGreatDoor
open Go.RowKit

def y8 (c : UInt8) : Value := .int .u8 (c.toNat : Int)
/-- a slice of bytes that reads as the list m -/
def RdY (w : World) (v : Value) (m : B8) : Prop :=
  m.length ≤ maxLen ∧ ((∃ p c, v = .slice p 0 c ∧ m = []) ∨ ∃ b off cap, v = .slice (some ⟨b, off, none⟩) m.length cap ∧ (m.length ≤ cap ∧ cap ≤ maxLen) ∧ b < w.heap.size ∧ ∀ i, i < m.length → w.cell? ⟨b, off + i, none⟩ = some (y8 (m.getD i 0)))
theorem RdY.mod {w w' : World} {v : Value} {m : B8} (h : RdY w v m) {S : List Nat} (md : Mod S w w') (h1 : ∀ k, k ∈ ob v → k ∉ S) : RdY w' v m := by
  refine ⟨h.1, h.2.imp id ?_⟩
  rintro ⟨b, off, cap, rfl, hcap, hb, hc⟩
  have hs : b ∉ S := h1 b (by simp [ob, Value.ownBlock])
  exact ⟨b, off, cap, rfl, hcap, Nat.lt_of_lt_of_le hb md.size, fun i hi => md.kept (hc i hi) hs⟩
theorem RdY.gr {w w' : World} {v : Value} {m : B8} (h : RdY w v m) (g : Gr w w') : RdY w' v m := h.mod (g.mod []) (by simp)
theorem RdY.len {w : World} {v : Value} {m : B8} (h : RdY w v m) : ∃ p c, v = .slice p m.length c := by
  rcases h.2 with ⟨p, c, rfl, rfl⟩ | ⟨b, off, cap, rfl, _⟩
  · exact ⟨p, c, rfl⟩
  · exact ⟨_, cap, rfl⟩
theorem RdY.at_ {w : World} {p : Option Addr} {n c : Nat} {m : B8} (h : RdY w (.slice p n c) m) (i : Nat) (hi : i < m.length) : ∃ b off, p = some ⟨b, off, none⟩ ∧ b < w.heap.size ∧ w.cell? ⟨b, off + i, none⟩ = some (y8 (m.getD i 0)) := by
  rcases h.2 with ⟨_, c, _, rfl⟩ | ⟨b, off, cap, hv, _, hb, hc⟩
  · simp at hi
  · simp only [Value.slice.injEq] at hv
    exact ⟨b, off, hv.1, hb, hc i hi⟩
theorem RdY.nil (w : World) (p : Option Addr) (c : Nat) : RdY w (.slice p 0 c) [] := ⟨by simp, .inl ⟨p, c, rfl, rfl⟩⟩
/-- a row of bytes of its own -/
def RowY (w : World) (base : Nat) (v : Value) (m : B8) : Prop := w.ownsRow base 5 1 v m.length (m.map y8)
theorem RowY.rd {w : World} {base : Nat} {v : Value} {m : B8} (h : RowY w base v m) : RdY w v m := by
  rcases h.2 with ⟨rfl, hn⟩ | ⟨g, cap, cur, rfl, _, hg, hh1, hh2, _⟩
  · exact ⟨by omega, .inl ⟨none, 0, rfl, List.length_eq_zero_iff.1 hn⟩⟩
  · refine ⟨by omega, .inr ⟨g, 0, cap, rfl, ⟨by omega, by omega⟩, lt_of_block hg, fun i hi => ?_⟩⟩
    rw [Nat.zero_add, h.cellAt _ (by omega)]
    simp [hi]
theorem RowY.mod {w w' : World} {base : Nat} {v : Value} {m : B8} (h : RowY w base v m) {S : List Nat} (k : Mod S w w') (hf : ∀ x, x ∈ ob v → x ∉ S) : RowY w' base v m := k.row h (fun x hx => hf x (by simpa [ob] using hx))
theorem RowY.gr {w w' : World} {base : Nat} {v : Value} {m : B8} (h : RowY w base v m) (k : Gr w w') : RowY w' base v m := h.mod (k.mod []) (by simp)
theorem RowY.base {w : World} {base b' : Nat} {v : Value} {m : B8} (h : RowY w base v m) (hb : b' ≤ base) : RowY w b' v m := World.ownsRow.mono h hb
theorem RowY.blk {w : World} {base : Nat} {v : Value} {m : B8} (h : RowY w base v m) : ∀ k, k ∈ ob v → base ≤ k ∧ k < w.heap.size := fun k hk => by
  have h2 := World.ownsRow.lt h k (by simpa [ob] using hk)
  omega
theorem RowY.nil (w : World) (base : Nat) : RowY w base (.slice none 0 0) [] := World.ownsRow_nil _ _ _ _
theorem RowY.small {w : World} {base : Nat} {v : Value} {m : B8} (h : RowY w base v m) : m.length ≤ maxLen := h.rd.1
theorem info_byte : (Tryz.prog.info? 5).map (fun i => (i.zero, i.size, i.bytes)) = some (some (.int .u8 0), 1, 1) := by kernel_rfl
theorem ob_slice (b off n c : Nat) : ob (.slice (some ⟨b, off, none⟩) n c) = [b] := rfl
theorem RowY.mod_alloc {w : World} {base : Nat} {v : Value} {m : B8} (h : RowY w base v m) (o : Obj) : RowY (w.alloc o) base v m := h.gr ((Gr.refl w).alloc o)
/-- bytes appended to a row of one's own -/
theorem wpList_app_y {ops : Array Oper} {rest : List Oper} {o : Oper} {a : Act} {Q : Exit → Act → World → Prop} (w : World) (hgd : o.guard = none) (s x : Operand)
    (ho : o.op = .call { callee := .builtin .append, args := #[s, x], argTypes := #[152, 152] })
    (base : Nat) (v : Value) (d : B8) (hs : a.eval s = v) (hown : RowY w base v d) (ad : Addr) (m cap : Nat) (news : B8) (hx : a.eval x = .slice (some ad) m cap) (hl : news.length = m)
    (hnews : ∀ j, j < m → w.cell? (ad.add j) = some (y8 (news.getD j 0))) (hm : 0 < m) (hsz : d.length + m ≤ 140737488355328) (hbase : base ≤ w.heap.size)
    (h : ∀ g cap w', RowY w' base (.slice (some ⟨g, 0, none⟩) (d.length + m) cap) (d ++ news) → Mod (ob v) w w' → (g ∈ ob v ∨ g = w.heap.size) → g < w'.heap.size → wpList Tryz.prog ops Q rest (a.put o.dst (.slice (some ⟨g, 0, none⟩) (d.length + m) cap)) w') :
    wpList Tryz.prog ops Q (o :: rest) a w := by
  obtain ⟨i0, hi0, hz0, hs0, hb0⟩ := info_parts info_byte
  refine wpList_append_lies w hgd s x 152 ho base 5 i0 _ 1 1 Tryz.underlying152 hi0 hz0 hs0 hb0 rfl (by decide) v d.length (d.map y8) hs hown ad m cap (news.map y8) hx (by rw [List.length_map]; omega) ?_ (by simp [Value.oneCell', y8]) hm (by unfold maxLen; omega) (by omega) hbase ?_
  · intro j u hu
    obtain ⟨hj, rfl⟩ := List.getElem?_eq_some_iff.1 hu
    rw [List.length_map, hl] at hj
    rw [hnews j hj]
    simp [show j < news.length by omega]
  · intro g cap' w' hr hg hat
    have hr' : RowY w' base (.slice (some ⟨g, 0, none⟩) (d.length + m) cap') (d ++ news) := by
      unfold RowY
      rw [List.length_append, hl, List.map_append]
      exact hr
    have hg' : g < w'.heap.size := (hr'.blk g (by simp [ob, Value.ownBlock])).2
    exact h g cap' w' hr' ((Mod.refl (ob v) w).grown hg (fun k e _ => by simp [ob, e])) (hat.imp (fun e => by simp [ob, e]) id) hg'
/-- one byte -/
theorem wpList_app_1 {ops : Array Oper} {rest : List Oper} {o : Oper} {a : Act} {Q : Exit → Act → World → Prop} (w : World) (hgd : o.guard = none) (s x : Operand)
    (ho : o.op = .call { callee := .builtin .append, args := #[s, x], argTypes := #[152, 152] })
    (base : Nat) (v : Value) (d : B8) (hs : a.eval s = v) (hown : RowY w base v d) (k : Nat) (c : UInt8) (hx : a.eval x = .slice (some ⟨k, 0, none⟩) 1 1)
    (hc : w.heap[k]? = some (.cells #[y8 c] 5 (0, 0))) (hsz : d.length ≤ 140737488355327) (hbase : base ≤ w.heap.size)
    (h : ∀ g cap w', RowY w' base (.slice (some ⟨g, 0, none⟩) (d.length + 1) cap) (d ++ [c]) → Mod (ob v) w w' → (g ∈ ob v ∨ g = w.heap.size) → g < w'.heap.size → wpList Tryz.prog ops Q rest (a.put o.dst (.slice (some ⟨g, 0, none⟩) (d.length + 1) cap)) w') :
    wpList Tryz.prog ops Q (o :: rest) a w :=
  wpList_app_y w hgd s x ho base v d hs hown ⟨k, 0, none⟩ 1 1 [c] hx rfl (fun j hj => by
    obtain rfl : j = 0 := by omega
    rw [Addr.add_lit]
    simp [World.cell?, hc]) (by decide) (by omega) hbase h
/-- a copy of bytes: a new row, or nil -/
theorem wpList_copy_y {ops : Array Oper} {rest : List Oper} {o : Oper} {a : Act} {Q : Exit → Act → World → Prop} (w : World) (hgd : o.guard = none) (s x : Operand)
    (ho : o.op = .call { callee := .builtin .append, args := #[s, x], argTypes := #[152, 152] })
    (hs : a.eval s = .slice none 0 0) {v : Value} {m : B8} (hx : a.eval x = v) (hv : RdY w v m) (hsm : m.length ≤ 140737488355328)
    (h : ∀ p c w', RowY w' w.heap.size (.slice p m.length c) m → Mod [] w w' → wpList Tryz.prog ops Q rest (a.put o.dst (.slice p m.length c)) w') : wpList Tryz.prog ops Q (o :: rest) a w := by
  by_cases hm : m = []
  · subst hm
    obtain ⟨i0, hi0, hz0, hs0, hb0⟩ := info_parts info_byte
    obtain ⟨p, c, rfl⟩ := hv.len
    have src : Src Tryz.prog i0.size 152 (.slice p 0 c) 0 [] w := by
      cases p with
      | none => exact Src.ofNil w Tryz.underlying152 c
      | some ad => exact Src.ofSlice w Tryz.underlying152 ad 0 c [] (by simp) (fun _ _ h => by simp at h) (fun _ h => by cases h)
    have hr := run_append_nothing w 152 152 o.type 5 i0 Tryz.underlying152 hi0 none 0 0 (Nat.le_refl _) _ src
    refine wpList_plain hgd fun K hK => ?_
    unfold Oper.wp execOp
    simp only [List.length_nil] at hx
    simp only [ho, resolve, invoke, builtin, Sem.run_bind, Sem.run_pure, Result.andThen_ok, List.map_toArray, List.map_cons, List.map_nil, hs, hx, hr]
    exact hK _ _ (h _ _ _ (World.ownsRow_nil _ _ _ _) (Mod.refl _ _))
  · have hpos : 0 < m.length := List.length_pos_iff.2 hm
    rcases hv.2 with ⟨p, c, _, rfl⟩ | ⟨b, off, cap, rfl, _, hb, hc⟩
    · exact absurd rfl hm
    · refine wpList_app_y w hgd s x ho w.heap.size (.slice none 0 0) [] hs (RowY.nil _ _) ⟨b, off, none⟩ m.length cap m hx rfl (fun j hj => by rw [Addr.add_lit]; exact hc j hj) hpos (by simpa using hsm) (Nat.le_refl _) ?_
      intro g cap' w' hown hg hat _
      simp only [List.length_nil, Nat.zero_add, List.nil_append] at hown ⊢
      exact h _ _ _ hown hg
/-! ### parts of a slice -/
theorem RdY.cut0 {w : World} {q : Option Addr} {c k : Nat} {l : B8} (h : RdY w (.slice q l.length c) l) (hc : c = k) (hk : k ≤ l.length) : RdY w (.slice q (l.length - k) 0) (l.drop k) := by
  have hl : l.length ≤ k := by
    rcases h.2 with ⟨_, _, _, rfl⟩ | ⟨b, off, cap, hv, h1, _⟩
    · simp
    · simp only [Value.slice.injEq] at hv; omega
  rw [List.drop_of_length_le hl, show l.length - k = 0 by omega]
  exact RdY.nil _ _ _
theorem RdY.cut {w : World} {q : Option Addr} {c k : Nat} {l : B8} (h : RdY w (.slice q l.length c) l) (hk : k ≤ l.length) : RdY w (.slice (q.map fun x => x.add k) (l.length - k) (c - k)) (l.drop k) := by
  refine ⟨by have := h.1; simp; omega, ?_⟩
  rcases h.2 with ⟨p, c', hv, rfl⟩ | ⟨b, off, cap, hv, h1, h2, h3⟩
  · exact .inl ⟨q.map fun x => x.add k, c - k, by simp, by simp⟩
  · simp only [Value.slice.injEq] at hv
    obtain ⟨rfl, _, rfl⟩ := hv
    refine .inr ⟨b, off + k, c - k, ?_, ⟨by simp; omega, by omega⟩, h2, fun i hi => ?_⟩
    · simp [Addr.add]
    · rw [List.length_drop] at hi
      have := h3 (k + i) (by omega)
      rw [← Nat.add_assoc] at this
      rw [this]
      simp [List.getElem?_drop]
theorem RdY.take {w : World} {q : Option Addr} {c k : Nat} {l : B8} (h : RdY w (.slice q l.length c) l) (hk : k ≤ l.length) : RdY w (.slice q k c) (l.take k) := by
  have hl : (l.take k).length = k := by simp; omega
  refine ⟨by have := h.1; omega, ?_⟩
  rw [hl]
  rcases h.2 with ⟨p, c', hv, rfl⟩ | ⟨b, off, cap, hv, h1, h2, h3⟩
  · have : k = 0 := by simpa using hk
    subst this
    exact .inl ⟨q, c, rfl, by simp⟩
  · simp only [Value.slice.injEq] at hv
    obtain ⟨rfl, _, rfl⟩ := hv
    refine .inr ⟨b, off, c, rfl, ⟨by omega, by omega⟩, h2, fun i hi => ?_⟩
    rw [h3 i (by omega)]
    simp [hi]
theorem ob_cut (q : Option Addr) (k n c n' c' : Nat) : ∀ x, x ∈ ob (.slice (q.map fun x => x.add k) n c) → x ∈ ob (.slice q n' c') := by
  intro x hx
  cases q with
  | none => simp [ob, Value.ownBlock] at hx
  | some a =>
    have : (a.add k).block = a.block := by unfold Addr.add; split <;> rfl
    simpa [ob, Value.ownBlock, this] using hx
theorem ob_same (q : Option Addr) (n c n' c' : Nat) : ∀ x, x ∈ ob (.slice q n c) → x ∈ ob (.slice q n' c') := by
  intro x hx
  cases q with
  | none => simp [ob, Value.ownBlock] at hx
  | some a => simpa [ob, Value.ownBlock] using hx
theorem RdY.str {w : World} {v : Value} {l : B8} (h : RdY w v l) : (convert 152 9 v).run Tryz.prog w = .ok (.string ⟨l.toArray⟩) w := by
  rcases h.2 with ⟨p, c, rfl, rfl⟩ | ⟨b, off, cap, rfl, _, _, hc⟩
  · cases p with
    | none => exact run_convert_bytes_nil w 152 5 Tryz.underlying152 Tryz.underlying5 0 c 9 Tryz.underlying9
    | some a => exact run_convert_bytes_back w 152 9 5 a c [] Tryz.underlying152 Tryz.underlying5 Tryz.underlying9 (fun j hj => by simp at hj)
  · exact run_convert_bytes_back w 152 9 5 ⟨b, off, none⟩ cap l Tryz.underlying152 Tryz.underlying5 Tryz.underlying9 (fun j hj => by
      rw [Addr.add_lit, hc j hj]
      simp [y8, hj])
theorem RdY.cap {w : World} {q : Option Addr} {c : Nat} {l : B8} (h : RdY w (.slice q l.length c) l) : l.length ≤ c := by
  rcases h.2 with ⟨_, _, _, rfl⟩ | ⟨b, off, cap, hv, h1, _⟩
  · simp
  · simp only [Value.slice.injEq] at hv; omega
theorem RowY.of_block {w : World} {base g cap : Nat} {cs : Array Value} {m : B8} (h : w.heap[g]? = some (.cells cs 5 (0, 0))) (hb : base ≤ g) (hn : m.length ≤ cap) (hc : cap ≤ maxLen) (hs : cs.size = cap) (hm : cs.toList.take m.length = m.map y8) : RowY w base (.slice (some ⟨g, 0, none⟩) m.length cap) m :=
  ⟨by simp, .inr ⟨g, cap, cs, rfl, hb, h, hn, hc, by omega, by rw [Nat.mul_one]; exact hm⟩⟩
/-- parts of a slice whose address and length are written out -/
theorem RdY.cutA {w : World} {b off n c : Nat} {l : B8} (h : RdY w (.slice (some ⟨b, off, none⟩) n c) l) (hl : l.length = n) (k : Nat) (hk : k ≤ n) : RdY w (.slice (some ⟨b, off + k, none⟩) (n - k) (c - k)) (l.drop k) := by
  subst hl
  have := h.cut hk
  simpa [Addr.add_lit] using this
theorem RdY.takeA {w : World} {b off n c : Nat} {l : B8} (h : RdY w (.slice (some ⟨b, off, none⟩) n c) l) (hl : l.length = n) (k : Nat) (hk : k ≤ n) : RdY w (.slice (some ⟨b, off, none⟩) k c) (l.take k) := by
  subst hl
  exact h.take hk
theorem RdY.capM {w : World} {b off n c : Nat} {l : B8} (h : RdY w (.slice (some ⟨b, off, none⟩) n c) l) (hl : 0 < l.length) : c ≤ maxLen := by
  rcases h.2 with ⟨_, _, _, rfl⟩ | ⟨b, off, cap, hv, h1, _⟩
  · simp at hl
  · simp only [Value.slice.injEq] at hv; omega
/-- the same as one step of a region that draws -/
theorem step_app_y {ops : Array Oper} {o : Oper} {a : Act} {w : World} {K : Act → World → Prop} {Q : Exit → Act → World → Prop} {E : Prop} (hgd : o.guard = none) (s x : Operand)
    (ho : o.op = .call { callee := .builtin .append, args := #[s, x], argTypes := #[152, 152] })
    (base : Nat) (v : Value) (d : B8) (hs : a.eval s = v) (hown : RowY w base v d) (xv : Value) (news : B8) (hx : a.eval x = xv) (hrd : RdY w xv news) (hm : 0 < news.length) (hsz : d.length + news.length ≤ 140737488355328) (hbase : base ≤ w.heap.size)
    (h : ∀ g cap w', RowY w' base (.slice (some ⟨g, 0, none⟩) (d.length + news.length) cap) (d ++ news) → Mod (ob v) w w' → (g ∈ ob v ∨ g = w.heap.size) → g < w'.heap.size → K (a.put o.dst (.slice (some ⟨g, 0, none⟩) (d.length + news.length) cap)) w') :
    if Region.wanted o (yielded ops a.tmps) = true then Oper.wp Tryz.prog o a w K Q else E := by
  have hw : Region.wanted o (yielded ops a.tmps) = true := by simp [Region.wanted, hgd]
  rw [if_pos hw]
  obtain ⟨i0, hi0, hz0, hs0, hb0⟩ := info_parts info_byte
  rcases hrd.2 with ⟨p, c, rfl, rfl⟩ | ⟨b, off, cap, rfl, _, hb, hc⟩
  · simp at hm
  · refine wp_append_lies w s x 152 ho base 5 i0 _ 1 1 Tryz.underlying152 hi0 hz0 hs0 hb0 rfl (by decide) v d.length (d.map y8) hs hown ⟨b, off, none⟩ news.length cap (news.map y8) hx (by rw [List.length_map]; omega) ?_ (by simp [Value.oneCell', y8]) hm (by unfold maxLen; omega) (by omega) hbase _ rfl ?_
    · intro j u hu
      obtain ⟨hj, rfl⟩ := List.getElem?_eq_some_iff.1 hu
      rw [List.length_map] at hj
      rw [Addr.add_lit, hc j hj]
      simp [hj]
    · intro g cap' w' hr hg hat _
      have hr' : RowY w' base (.slice (some ⟨g, 0, none⟩) (d.length + news.length) cap') (d ++ news) := by
        unfold RowY
        rw [List.length_append, List.map_append]
        exact hr
      have hg' : g < w'.heap.size := (hr'.blk g (by simp [ob, Value.ownBlock])).2
      exact h g cap' w' hr' ((Mod.refl (ob v) w).grown hg (fun k e _ => by simp [ob, e])) (hat.imp (fun e => by simp [ob, e]) id) hg'
end Go.Proofs.YtkfhapidoolfdaaGreatDoor
