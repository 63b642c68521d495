/-
  PLAIN, OVER ANY PROGRAM: what a value of E stands for. PLAIN, OVER ANY PROGRAM: what E's memory stands for. PLAIN, OVER ANY PROGRAM: from one memory of E to the next, and from one world to the next beside it. PLAIN, OVER ANY PROGRAM: a step within a part of E's memory is a step of the whole. PLAIN, OVER ANY PROGRAM: operations that stay within values. PLAIN, OVER ANY PROGRAM: loads and stores. PLAIN, OVER ANY PROGRAM: stores. PLAIN, OVER ANY PROGRAM: operations that make blocks and rows.
-/
import Derived.Test.YtkfhapidoolfdaaGreatDoorEG1
import Derived.Laws.Cells
import Derived.Laws.CopyRow
namespace Go.Proofs.YtkfhapidoolfdaaGreatDoor
open Go
namespace Ev
/-- bytes of a packed row -/
def byV (bs i : Nat) : Value := .int .u8 (.ofNat (segB bs i 1))
def unV (bs i n : Nat) : List Value := match n with
  | 0 => []
  | n + 1 => byV bs i :: unV bs (i + 1) n
/-- a slice's capacity: told, or what its block holds, less k -/
def capR : Option Nat → Nat → Nat → Nat
  | some n, _, _ => n
  | none, c, k => c - k
abbrev Rn := Nat → Option (Nat × Nat)
mutual
def Den (ρ : Rn) : EV → Value → Prop
  | .s v, x => x = v
  | .p b o, x => ∃ a c, ρ b = some (a, c) ∧ x = .pointer (some ⟨a, o, none⟩)
  | .sl b o len cap k, x => ∃ a c, ρ b = some (a, c) ∧ x = .slice (some ⟨a, o, none⟩) len (capR cap c k)
  | .m b, x => ∃ a c, ρ b = some (a, c) ∧ x = .map (some a)
  | .f fn fs cs, x => ∃ us vs, Dens ρ fs us ∧ Dens ρ cs vs ∧ x = .func fn us.toArray vs.toArray
  | .i t v, x => ∃ u, Den ρ v u ∧ x = .iface t u
  | .zl, x => ∃ (a : Option Addr) (c : Nat), x = .slice a 0 c
  | .a cs, x => ∃ us, Dens ρ cs us ∧ x = .agg us.toArray
  | .by_ bs n, x => x = .agg (unV bs 0 n).toArray
  | .t cs, x => ∃ us, Dens ρ cs us ∧ x = .tuple us.toArray
def Dens (ρ : Rn) : List EV → List Value → Prop
  | [], l => l = []
  | e :: es, l => ∃ v vs, Den ρ e v ∧ Dens ρ es vs ∧ l = v :: vs
end
theorem Dens_len {ρ : Rn} : ∀ {es : List EV} {vs : List Value}, Dens ρ es vs → vs.length = es.length
  | [], vs, h => by simp only [Dens] at h; subst h; rfl
  | e :: es, vs, h => by
    simp only [Dens] at h
    obtain ⟨v, r, _, h2, rfl⟩ := h
    simp [Dens_len h2]
mutual
theorem Den.mono {ρ ρ' : Rn} (h : ∀ k x, ρ k = some x → ρ' k = some x) : ∀ {e : EV} {v : Value}, Den ρ e v → Den ρ' e v
  | .s _, v, d => by simpa only [Den] using d
  | .p b o, v, d => by
    simp only [Den] at d ⊢
    obtain ⟨a, c, h1, h2⟩ := d
    exact ⟨a, c, h _ _ h1, h2⟩
  | .sl b o len cap k, v, d => by
    simp only [Den] at d ⊢
    obtain ⟨a, c, h1, h2⟩ := d
    exact ⟨a, c, h _ _ h1, h2⟩
  | .m b, v, d => by
    simp only [Den] at d ⊢
    obtain ⟨a, c, h1, h2⟩ := d
    exact ⟨a, c, h _ _ h1, h2⟩
  | .f fn fs cs, v, d => by
    simp only [Den] at d ⊢
    obtain ⟨us, vs, h1, h2, h3⟩ := d
    exact ⟨us, vs, Dens.mono h h1, Dens.mono h h2, h3⟩
  | .i t e, v, d => by
    simp only [Den] at d ⊢
    obtain ⟨u, h1, h2⟩ := d
    exact ⟨u, Den.mono h h1, h2⟩
  | .zl, v, d => by simpa only [Den] using d
  | .by_ _ _, v, d => by simpa only [Den] using d
  | .a cs, v, d => by
    simp only [Den] at d ⊢
    obtain ⟨u, h1, h2⟩ := d
    exact ⟨u, Dens.mono h h1, h2⟩
  | .t cs, v, d => by
    simp only [Den] at d ⊢
    obtain ⟨u, h1, h2⟩ := d
    exact ⟨u, Dens.mono h h1, h2⟩
theorem Dens.mono {ρ ρ' : Rn} (h : ∀ k x, ρ k = some x → ρ' k = some x) : ∀ {es : List EV} {vs : List Value}, Dens ρ es vs → Dens ρ' es vs
  | [], vs, d => by simpa only [Dens] using d
  | e :: es, vs, d => by
    simp only [Dens] at d ⊢
    obtain ⟨v, r, h1, h2, h3⟩ := d
    exact ⟨v, r, Den.mono h h1, Dens.mono h h2, h3⟩
end
theorem Dens.nil {ρ : Rn} {l : List Value} (h : Dens ρ [] l) : l = [] := by simpa only [Dens] using h
theorem Dens.cons {ρ : Rn} {e : EV} {es : List EV} {l : List Value} (h : Dens ρ (e :: es) l) : ∃ v vs, Den ρ e v ∧ Dens ρ es vs ∧ l = v :: vs := by simpa only [Dens] using h
theorem Dens.mk {ρ : Rn} {e : EV} {es : List EV} {v : Value} {vs : List Value} (h : Den ρ e v) (t : Dens ρ es vs) : Dens ρ (e :: es) (v :: vs) := by
  simp only [Dens]; exact ⟨v, vs, h, t, rfl⟩
theorem Dens.nilm {ρ : Rn} : Dens ρ [] [] := by simp only [Dens]
theorem Den.sv {ρ : Rn} (v : Value) : Den ρ (.s v) v := by simp only [Den]
theorem Den.s {ρ : Rn} {v x : Value} (h : Den ρ (.s v) x) : x = v := by simpa only [Den] using h
theorem Den.p {ρ : Rn} {b o : Nat} {x : Value} (h : Den ρ (.p b o) x) : ∃ a c, ρ b = some (a, c) ∧ x = .pointer (some ⟨a, o, none⟩) := by simpa only [Den] using h
theorem Den.sl {ρ : Rn} {b o n : Nat} {cap : Option Nat} {k : Nat} {x : Value} (h : Den ρ (.sl b o n cap k) x) : ∃ a c, ρ b = some (a, c) ∧ x = .slice (some ⟨a, o, none⟩) n (capR cap c k) := by simpa only [Den] using h
theorem Den.zl {ρ : Rn} {x : Value} (h : Den ρ .zl x) : ∃ (a : Option Addr) (c : Nat), x = .slice a 0 c := by simpa only [Den] using h
theorem Den.m {ρ : Rn} {b : Nat} {x : Value} (h : Den ρ (.m b) x) : ∃ a c, ρ b = some (a, c) ∧ x = .map (some a) := by simpa only [Den] using h
theorem Den.f {ρ : Rn} {fn : Fn} {fs cs : List EV} {x : Value} (h : Den ρ (.f fn fs cs) x) : ∃ us vs, Dens ρ fs us ∧ Dens ρ cs vs ∧ x = .func fn us.toArray vs.toArray := by simpa only [Den] using h
theorem Den.i {ρ : Rn} {t : TypeId} {e : EV} {x : Value} (h : Den ρ (.i t e) x) : ∃ u, Den ρ e u ∧ x = .iface t u := by simpa only [Den] using h
theorem Den.a {ρ : Rn} {cs : List EV} {x : Value} (h : Den ρ (.a cs) x) : ∃ us, Dens ρ cs us ∧ x = .agg us.toArray := by simpa only [Den] using h
theorem Den.by_ {ρ : Rn} {bs n : Nat} {x : Value} (h : Den ρ (.by_ bs n) x) : x = .agg (unV bs 0 n).toArray := by simpa only [Den] using h
theorem Den.t {ρ : Rn} {cs : List EV} {x : Value} (h : Den ρ (.t cs) x) : ∃ us, Dens ρ cs us ∧ x = .tuple us.toArray := by simpa only [Den] using h
theorem Dens.app {ρ : Rn} : ∀ {a b : List EV} {u v : List Value}, Dens ρ a u → Dens ρ b v → Dens ρ (appL a b) (u ++ v)
  | [], b, u, v, h, g => by rw [h.nil]; exact g
  | e :: a, b, u, v, h, g => by
    obtain ⟨x, r, h1, h2, rfl⟩ := h.cons
    show Dens ρ (e :: appL a b) (x :: (r ++ v))
    exact Dens.mk h1 (Dens.app h2 g)
theorem unB_zero (bs i : Nat) : unB bs i 0 = [] := rfl
theorem unB_succ (bs i n : Nat) : unB bs i (n + 1) = byteEV bs i :: unB bs (i + 1) n := rfl
theorem Dens.un {ρ : Rn} (bs : Nat) : ∀ n i, Dens ρ (unB bs i n) (unV bs i n)
  | 0, _ => by rw [unB_zero, unV]; exact Dens.nilm
  | n + 1, i => by rw [unB_succ, unV]; exact Dens.mk (Den.sv _) (Dens.un bs n (i + 1))
/-- a value's cells -/
def RowD (ρ : Rn) : Row → List Value → Prop
  | .l cs, vs => Dens ρ cs vs
  | .y bs n, vs => vs = unV bs 0 n
theorem RowD.list {ρ : Rn} {r : Row} {vs : List Value} (h : RowD ρ r vs) : Dens ρ r.list vs := by
  cases r with
  | l cs => exact h
  | y bs n => rw [show vs = unV bs 0 n from h]; exact Dens.un bs n 0
theorem unV_len (bs : Nat) : ∀ n i, (unV bs i n).length = n
  | 0, _ => rfl
  | n + 1, i => by rw [unV, List.length_cons, unV_len bs n (i + 1)]
theorem RowD.len {ρ : Rn} {r : Row} {vs : List Value} (h : RowD ρ r vs) : vs.length = r.len := by
  cases r with
  | l cs => rw [Dens_len h]; exact (lenL_eq cs).symm
  | y bs n => rw [show vs = unV bs 0 n from h]; exact unV_len bs n 0
theorem Dens.sv {ρ : Rn} : ∀ l : List Value, Dens ρ (l.map EV.s) l
  | [] => Dens.nilm
  | v :: l => Dens.mk (Den.sv v) (Dens.sv l)
theorem Den.row {ρ : Rn} {e : EV} {v : Value} (h : Den ρ e v) : RowD ρ (rowOf e) v.cells.toList := by
  cases e with
  | s c =>
    have e1 := h.s
    subst e1
    cases v with
    | agg cs => exact Dens.sv cs.toList
    | _ => exact Dens.mk (Den.sv _) Dens.nilm
  | p b o => obtain ⟨a, c, h1, rfl⟩ := h.p; exact Dens.mk h Dens.nilm
  | sl b o n cap k => obtain ⟨a, c, h1, rfl⟩ := h.sl; exact Dens.mk h Dens.nilm
  | zl => obtain ⟨a, c, rfl⟩ := h.zl; exact Dens.mk h Dens.nilm
  | m b => obtain ⟨a, c, h1, rfl⟩ := h.m; exact Dens.mk h Dens.nilm
  | f fn fs cs => obtain ⟨us, vs, h1, h2, rfl⟩ := h.f; exact Dens.mk h Dens.nilm
  | i t e => obtain ⟨u, h1, rfl⟩ := h.i; exact Dens.mk h Dens.nilm
  | a cs => obtain ⟨us, h1, rfl⟩ := h.a; exact h1
  | by_ bs n => rw [h.by_]; rfl
  | t cs => obtain ⟨us, h1, rfl⟩ := h.t; exact Dens.mk h Dens.nilm
/-- no cell of a row is a row itself -/
theorem oneE_D {ρ : Rn} {e : EV} {v : Value} (h : Den ρ e v) (o : oneE e = true) : (∀ cs, v ≠ .agg cs) ∧ ∀ cs, v ≠ .tuple cs := by
  cases e with
  | s c =>
    have e1 := h.s
    subst e1
    constructor
    · intro cs hc; subst hc; cases o
    · intro cs hc; subst hc; cases o
  | p b o => obtain ⟨a, c, h1, rfl⟩ := h.p; exact ⟨fun _ => nofun, fun _ => nofun⟩
  | sl b o n cap k => obtain ⟨a, c, h1, rfl⟩ := h.sl; exact ⟨fun _ => nofun, fun _ => nofun⟩
  | zl => obtain ⟨a, c, rfl⟩ := h.zl; exact ⟨fun _ => nofun, fun _ => nofun⟩
  | m b => obtain ⟨a, c, h1, rfl⟩ := h.m; exact ⟨fun _ => nofun, fun _ => nofun⟩
  | f fn fs cs => obtain ⟨us, vs, h1, h2, rfl⟩ := h.f; exact ⟨fun _ => nofun, fun _ => nofun⟩
  | i t e => obtain ⟨u, h1, rfl⟩ := h.i; exact ⟨fun _ => nofun, fun _ => nofun⟩
  | a cs => cases o
  | by_ bs n => cases o
  | t cs => cases o
end Ev
end Go.Proofs.YtkfhapidoolfdaaGreatDoor

namespace Go.Proofs.YtkfhapidoolfdaaGreatDoor
open Go
namespace Ev
variable {P : Program}

def EntD (ρ : Rn) : List ME → List Go.MapEntry → Prop
  | [], l => l = []
  | e :: es, l => ∃ k v r, Den ρ e.key k ∧ Den ρ e.val v ∧ EntD ρ es r ∧ l = ⟨k, v, e.born⟩ :: r
/-- a block of memory as E tells it; c elements of room, if it is open -/
def ObjD (P : Program) (ρ : Rn) (c : Nat) : EO → Obj → Prop
  | .c tr n z el op, o => ∃ cs : Array Value, o = .cells cs el (0, 0) ∧ n ≤ cs.size ∧ (op = false → cs.size = n) ∧ (op = true → ∃ sz, szE P el = some sz ∧ cs.size = c * sz ∧ c ≤ 9223372036854775807) ∧
      ∀ i, i < n → ∃ v, cs[i]? = some v ∧ Den ρ (cellAt tr z i) v
  | .y bs n el op, o => ∃ cs : Array Value, o = .cells cs el (0, 0) ∧ n ≤ cs.size ∧ (op = false → cs.size = n) ∧ (op = true → ∃ sz, szE P el = some sz ∧ cs.size = c * sz ∧ c ≤ 9223372036854775807) ∧
      ∀ i, i < n → cs[i]? = some (byV bs i)
  | .m es cl, o => ∃ l, o = .map l.toArray cl ∧ EntD ρ es l
  | .it none since seen st, o => o = .mapIter none since seen.toArray st
  | .it (some b) since seen st, o => ∃ a d, ρ b = some (a, d) ∧ o = .mapIter (some a) since seen.toArray st
  | .si s pos, o => o = .stringIter s pos
/-- ρ' tells all that ρ tells -/
def Le (ρ ρ' : Rn) : Prop := ∀ k x, ρ k = some x → ρ' k = some x
theorem Le.refl (ρ : Rn) : Le ρ ρ := fun _ _ h => h
theorem Le.trans {a b c : Rn} (h : Le a b) (g : Le b c) : Le a c := fun k x e => g k x (h k x e)
theorem EntD.mono {ρ ρ' : Rn} (h : Le ρ ρ') : ∀ {es : List ME} {l : List Go.MapEntry}, EntD ρ es l → EntD ρ' es l
  | [], _, d => d
  | _ :: _, _, ⟨k, v, r, h1, h2, h3, h4⟩ => ⟨k, v, r, Den.mono h h1, Den.mono h h2, EntD.mono h h3, h4⟩
theorem ObjD.mono {ρ ρ' : Rn} (h : Le ρ ρ') {c : Nat} : ∀ {e : EO} {o : Obj}, ObjD P ρ c e o → ObjD P ρ' c e o
  | .c _ _ _ _ _, _, ⟨cs, h1, h2, h3, h4, h5⟩ => ⟨cs, h1, h2, h3, h4, fun i hi => let ⟨v, a, b⟩ := h5 i hi; ⟨v, a, Den.mono h b⟩⟩
  | .y _ _ _ _, _, d => d
  | .m _ _, _, ⟨l, h1, h2⟩ => ⟨l, h1, EntD.mono h h2⟩
  | .it none _ _ _, _, d => d
  | .it (some _) _ _ _, _, ⟨a, d, h1, h2⟩ => ⟨a, d, h _ _ h1, h2⟩
  | .si _ _, _, d => d
/-- E's memory σ stands in w, its blocks at ρ -/
structure Rep (P : Program) (ρ : Rn) (σ : St) (w : World) : Prop where
  blk : ∀ k e, σ.h.get k = some e → ∃ a c o, ρ k = some (a, c) ∧ w.heap[a]? = some o ∧ ObjD P ρ c e o
  inj : ∀ j k a c d, σ.h.get j ≠ none → σ.h.get k ≠ none → ρ j = some (a, c) → ρ k = some (a, d) → j = k
  lim : ∀ k, σ.nx ≤ k → ρ k = none
  inb : ∀ k a c, ρ k = some (a, c) → a < w.heap.size
theorem Rep.none_of {ρ : Rn} {σ : St} {w : World} (R : Rep P ρ σ w) {k : Nat} (h : σ.nx ≤ k) : σ.h.get k = none := by
  cases e : σ.h.get k with
  | none => rfl
  | some x =>
    obtain ⟨a, c, o, h1, _⟩ := R.blk k x e
    rw [R.lim k h] at h1
    cases h1
/-- a block written anew -/
theorem Rep.set {ρ : Rn} {σ : St} {w w' : World} (R : Rep P ρ σ w) {k a c : Nat} {e e' : EO} {o' : Obj} (hk : σ.h.get k = some e) (hr : ρ k = some (a, c)) (hw : w'.heap = w.heap.setIfInBounds a o') (ho : ObjD P ρ c e' o') : Rep P ρ (σ.set k e') w' := by
  have ha : a < w.heap.size := R.inb k a c hr
  have gp : ∀ j, (σ.set k e').h.get j = if j = k then some e' else σ.h.get j := fun j => TrO.get_put σ.h k (some e') j
  have nn : ∀ j, (σ.set k e').h.get j ≠ none → σ.h.get j ≠ none := by
    intro j hj
    rw [gp j] at hj
    by_cases h : j = k
    · subst h; rw [hk]; simp
    · rw [if_neg h] at hj; exact hj
  refine ⟨?_, ?_, R.lim, ?_⟩
  · intro j x hj
    rw [gp j] at hj
    by_cases h : j = k
    · subst h
      rw [if_pos rfl] at hj
      cases hj
      exact ⟨a, c, o', hr, by rw [hw, Array.getElem?_setIfInBounds]; simp [ha], ho⟩
    · rw [if_neg h] at hj
      obtain ⟨b, d, o, h1, h2, h3⟩ := R.blk j x hj
      have hb : a ≠ b := by
        intro e1
        subst e1
        exact h (R.inj j k a d c (by rw [hj]; simp) (by rw [hk]; simp) h1 hr)
      exact ⟨b, d, o, h1, by rw [hw, Array.getElem?_setIfInBounds, if_neg hb]; exact h2, h3⟩
  · intro i j b x y hi hj
    exact R.inj i j b x y (nn i hi) (nn j hj)
  · intro j b d h
    rw [hw, Array.size_setIfInBounds]
    exact R.inb j b d h
/-- one more place -/
def Rn.add (ρ : Rn) (k a c : Nat) : Rn := fun j => if j = k then some (a, c) else ρ j
theorem Rep.le_add {ρ : Rn} {σ : St} {w : World} (R : Rep P ρ σ w) (a c : Nat) : Le ρ (Rn.add ρ σ.nx a c) := by
  intro k x h
  have hk : k ≠ σ.nx := by
    intro e
    rw [R.lim k (by omega)] at h
    cases h
  rw [Rn.add, if_neg hk]; exact h
/-- a block made -/
theorem Rep.new {ρ : Rn} {σ : St} {w w' : World} (R : Rep P ρ σ w) {c : Nat} {e : EO} {o : Obj} (hw : w'.heap = w.heap.push o) (ho : ObjD P (Rn.add ρ σ.nx w.heap.size c) c e o) : Rep P (Rn.add ρ σ.nx w.heap.size c) (σ.new e) w' := by
  have gp : ∀ j, (σ.new e).h.get j = if j = σ.nx then some e else σ.h.get j := fun j => TrO.get_put σ.h σ.nx (some e) j
  have le := R.le_add w.heap.size c
  refine ⟨?_, ?_, ?_, ?_⟩
  · intro j x hj
    rw [gp j] at hj
    by_cases h : j = σ.nx
    · subst h
      rw [if_pos rfl] at hj
      cases hj
      exact ⟨w.heap.size, c, o, by rw [Rn.add, if_pos rfl], by rw [hw]; simp, ho⟩
    · rw [if_neg h] at hj
      obtain ⟨b, d, x', h1, h2, h3⟩ := R.blk j x hj
      have hb := R.inb j b d h1
      refine ⟨b, d, x', le _ _ h1, ?_, ObjD.mono le h3⟩
      rw [hw, Array.getElem?_push, if_neg (by omega)]; exact h2
  · intro i j b x y hi hj h1 h2
    rw [gp i] at hi
    rw [gp j] at hj
    rw [Rn.add] at h1 h2
    by_cases e1 : i = σ.nx
    · by_cases e2 : j = σ.nx
      · rw [e1, e2]
      · rw [if_pos e1] at h1
        rw [if_neg e2] at h2
        cases h1
        have := R.inb j _ _ h2
        omega
    · by_cases e2 : j = σ.nx
      · rw [if_neg e1] at h1
        rw [if_pos e2] at h2
        cases h2
        have := R.inb i _ _ h1
        omega
      · rw [if_neg e1] at h1 hi
        rw [if_neg e2] at h2 hj
        exact R.inj i j b x y hi hj h1 h2
  · intro k hk
    have hk' : σ.nx + 1 ≤ k := hk
    rw [Rn.add, if_neg (by omega)]
    exact R.lim k (by omega)
  · intro k b d h
    rw [Rn.add] at h
    rw [hw, Array.size_push]
    by_cases e1 : k = σ.nx
    · rw [if_pos e1] at h
      cases h
      omega
    · rw [if_neg e1] at h
      have := R.inb k b d h
      omega
end Ev
end Go.Proofs.YtkfhapidoolfdaaGreatDoor

namespace Go.Proofs.YtkfhapidoolfdaaGreatDoor
open Go
namespace Ev
variable {P : Program}

/-- block a of a world is one of those that E wrote to -/
def Wrote (ρ : Rn) (W : List Nat) (a : Nat) : Prop := ∃ k, k ∈ W ∧ ∃ c, ρ k = some (a, c)
structure Stp (P : Program) (ρ : Rn) (σ : St) (w : World) (ρ' : Rn) (σ' : St) (w' : World) : Prop where
  rep : Rep P ρ' σ' w'
  le : Le ρ ρ'
  nx : σ.nx ≤ σ'.nx
  wr : ∀ k, k ∈ σ.W → k ∈ σ'.W
  ext : ∀ k a c, ρ' k = some (a, c) → ρ k = some (a, c) ∨ (w.heap.size ≤ a ∨ Wrote ρ σ'.W a)
  size : w.heap.size ≤ w'.heap.size
  keep : ∀ a, a < w.heap.size → ¬ Wrote ρ σ'.W a → w'.heap[a]? = w.heap[a]?
  os : w'.os = w.os
  out : w'.output = w.output
  tape : w'.tape = w.tape
  dom : ∀ k, σ'.h.get k ≠ none → σ.h.get k ≠ none ∨ σ.nx ≤ k
  live : ∀ k, k ∈ σ'.W → k ∈ σ.W ∨ σ.h.get k ≠ none ∨ (σ.nx ≤ k ∧ k < σ'.nx)
  same : ∀ k, k < σ.nx → k ∉ σ'.W → σ'.h.get k = σ.h.get k
  old : ∀ k, k < σ.nx → ρ' k = ρ k
theorem Stp.refl {ρ : Rn} {σ : St} {w : World} (R : Rep P ρ σ w) : Stp P ρ σ w ρ σ w :=
  ⟨R, Le.refl ρ, Nat.le_refl _, fun _ h => h, fun _ _ _ h => .inl h, Nat.le_refl _, fun _ _ _ => rfl, rfl, rfl, rfl, fun _ h => .inl h, fun _ h => .inl h, fun _ _ _ => rfl, fun _ _ => rfl⟩
theorem Wrote.sub {ρ : Rn} {W W' : List Nat} {a : Nat} (h : ∀ k, k ∈ W → k ∈ W') : Wrote ρ W a → Wrote ρ W' a
  | ⟨k, h1, c, h2⟩ => ⟨k, h k h1, c, h2⟩
theorem Stp.trans {ρ ρ1 ρ2 : Rn} {σ σ1 σ2 : St} {w w1 w2 : World} (A : Stp P ρ σ w ρ1 σ1 w1) (B : Stp P ρ1 σ1 w1 ρ2 σ2 w2) : Stp P ρ σ w ρ2 σ2 w2 := by
  have back : ∀ a, a < w.heap.size → Wrote ρ1 σ2.W a → Wrote ρ σ2.W a := by
    intro a ha h
    obtain ⟨k, h1, c, h2⟩ := h
    rcases A.ext k a c h2 with h3 | h3 | h3
    · exact ⟨k, h1, c, h3⟩
    · omega
    · exact Wrote.sub B.wr h3
  refine ⟨B.rep, A.le.trans B.le, Nat.le_trans A.nx B.nx, fun k h => B.wr k (A.wr k h), ?_, Nat.le_trans A.size B.size, ?_, by rw [B.os, A.os], by rw [B.out, A.out], by rw [B.tape, A.tape], ?_, ?_, ?_, fun k hk => by rw [B.old k (Nat.lt_of_lt_of_le hk A.nx), A.old k hk]⟩
  · intro k a c h
    by_cases ha : a < w.heap.size
    · rcases B.ext k a c h with h1 | h1 | h1
      · rcases A.ext k a c h1 with h2 | h2 | h2
        · exact .inl h2
        · exact .inr (.inl h2)
        · exact .inr (.inr (Wrote.sub B.wr h2))
      · have := A.size; omega
      · exact .inr (.inr (back a ha h1))
    · exact .inr (.inl (by omega))
  · intro a ha h
    have h1 : ¬ Wrote ρ σ1.W a := fun g => h (Wrote.sub B.wr g)
    have h2 : ¬ Wrote ρ1 σ2.W a := fun g => h (back a ha g)
    rw [B.keep a (by have := A.size; omega) h2, A.keep a ha h1]
  · intro k h
    rcases B.dom k h with h1 | h1
    · exact A.dom k h1
    · exact .inr (Nat.le_trans A.nx h1)
  · intro k h
    rcases B.live k h with h1 | h1 | h1
    · rcases A.live k h1 with h2 | h2 | h2
      · exact .inl h2
      · exact .inr (.inl h2)
      · exact .inr (.inr ⟨h2.1, Nat.lt_of_lt_of_le h2.2 B.nx⟩)
    · rcases A.dom k h1 with h2 | h2
      · exact .inr (.inl h2)
      · refine .inr (.inr ⟨h2, ?_⟩)
        refine Nat.lt_of_lt_of_le (Nat.lt_of_not_le fun q => h1 (A.rep.none_of q)) B.nx
    · exact .inr (.inr ⟨Nat.le_trans A.nx h1.1, h1.2⟩)
  · intro k hk h
    rw [B.same k (Nat.lt_of_lt_of_le hk A.nx) h, A.same k hk (fun g => h (B.wr k g))]
/-- a block is written -/
theorem Stp.set {ρ : Rn} {σ : St} {w w' : World} (R : Rep P ρ σ w) {k a c : Nat} {e e' : EO} {o' : Obj} (hk : σ.h.get k = some e) (hr : ρ k = some (a, c)) (hw : w'.heap = w.heap.setIfInBounds a o') (ho : ObjD P ρ c e' o')
    (h1 : w'.os = w.os) (h2 : w'.output = w.output) (h3 : w'.tape = w.tape) : Stp P ρ σ w ρ (σ.set k e') w' := by
  refine ⟨R.set hk hr hw ho, Le.refl ρ, Nat.le_refl _, fun j h => List.mem_cons_of_mem _ h, fun _ _ _ h => .inl h, ?_, ?_, h1, h2, h3, ?_, ?_, ?_, fun _ _ => rfl⟩
  · rw [hw, Array.size_setIfInBounds]; exact Nat.le_refl _
  · intro b hb h
    have hab : a ≠ b := by
      intro e1
      exact h ⟨k, List.mem_cons_self .., c, by rw [hr, e1]⟩
    rw [hw, Array.getElem?_setIfInBounds, if_neg hab]
  · intro j h
    rw [show (σ.set k e').h.get j = if j = k then some e' else σ.h.get j from TrO.get_put σ.h k (some e') j] at h
    by_cases g : j = k
    · subst g; left; rw [hk]; simp
    · rw [if_neg g] at h; exact .inl h
  · intro j h
    rcases List.mem_cons.1 h with g | g
    · subst g; right; left; rw [hk]; simp
    · exact .inl g
  · intro j _ h
    rw [show (σ.set k e').h.get j = if j = k then some e' else σ.h.get j from TrO.get_put σ.h k (some e') j]
    rw [if_neg (fun g => h (by rw [g]; exact List.mem_cons_self ..))]
/-- a block is made -/
theorem Stp.new {ρ : Rn} {σ : St} {w w' : World} (R : Rep P ρ σ w) {c : Nat} {e : EO} {o : Obj} (hw : w'.heap = w.heap.push o) (ho : ObjD P (Rn.add ρ σ.nx w.heap.size c) c e o)
    (h1 : w'.os = w.os) (h2 : w'.output = w.output) (h3 : w'.tape = w.tape) : Stp P ρ σ w (Rn.add ρ σ.nx w.heap.size c) (σ.new e) w' := by
  refine ⟨R.new hw ho, R.le_add _ _, Nat.le_succ _, fun j h => h, ?_, ?_, ?_, h1, h2, h3, ?_, fun j h => .inl h, ?_, fun k hk => by rw [Rn.add, if_neg (by omega)]⟩
  · intro k a d h
    rw [Rn.add] at h
    by_cases e1 : k = σ.nx
    · rw [if_pos e1] at h
      cases h
      exact .inr (.inl (Nat.le_refl _))
    · rw [if_neg e1] at h
      exact .inl h
  · rw [hw, Array.size_push]; omega
  · intro b hb _
    rw [hw, Array.getElem?_push, if_neg (by omega)]
  · intro j h
    rw [show (σ.new e).h.get j = if j = σ.nx then some e else σ.h.get j from TrO.get_put σ.h σ.nx (some e) j] at h
    by_cases g : j = σ.nx
    · right; omega
    · rw [if_neg g] at h; exact .inl h
  · intro j hj _
    rw [show (σ.new e).h.get j = if j = σ.nx then some e else σ.h.get j from TrO.get_put σ.h σ.nx (some e) j, if_neg (by omega)]
end Ev
end Go.Proofs.YtkfhapidoolfdaaGreatDoor

namespace Go.Proofs.YtkfhapidoolfdaaGreatDoor
open Go
namespace Ev
variable {P : Program}

def cut (ρ : Rn) (n : Nat) : Rn := fun k => if k < n then ρ k else none
theorem cut_le (ρ : Rn) (n : Nat) : Le (cut ρ n) ρ := by
  intro k x h
  unfold cut at h
  by_cases g : k < n
  · rw [if_pos g] at h; exact h
  · rw [if_neg g] at h; cases h
theorem cut_some {ρ : Rn} {n k : Nat} {x : Nat × Nat} (h : cut ρ n k = some x) : k < n ∧ ρ k = some x := by
  unfold cut at h
  by_cases g : k < n
  · rw [if_pos g] at h; exact ⟨g, h⟩
  · rw [if_neg g] at h; cases h
theorem cut_of {ρ ρ' : Rn} {n k : Nat} {x y : Nat × Nat} (hb : ∀ k, n ≤ k → ρ' k = none) (h : ρ k = some x) (h' : ρ' k = some y) : cut ρ n k = some x := by
  unfold cut
  by_cases g : k < n
  · rw [if_pos g]; exact h
  · rw [hb k (Nat.le_of_not_lt g)] at h'; cases h'
mutual
theorem Den.cut {ρ ρ' : Rn} {n : Nat} (hb : ∀ k, n ≤ k → ρ' k = none) : ∀ {e : EV} {x x' : Value}, Den ρ e x → Den ρ' e x' → Den (Ev.cut ρ n) e x
  | .s _, _, _, d, _ => by simpa only [Den] using d
  | .p b o, _, _, d, d' => by
    simp only [Den] at d d' ⊢
    obtain ⟨a, c, h1, h2⟩ := d
    obtain ⟨_, _, h3, _⟩ := d'
    exact ⟨a, c, cut_of hb h1 h3, h2⟩
  | .sl b o len cap k, _, _, d, d' => by
    simp only [Den] at d d' ⊢
    obtain ⟨a, c, h1, h2⟩ := d
    obtain ⟨_, _, h3, _⟩ := d'
    exact ⟨a, c, cut_of hb h1 h3, h2⟩
  | .m b, _, _, d, d' => by
    simp only [Den] at d d' ⊢
    obtain ⟨a, c, h1, h2⟩ := d
    obtain ⟨_, _, h3, _⟩ := d'
    exact ⟨a, c, cut_of hb h1 h3, h2⟩
  | .f fn fs cs, _, _, d, d' => by
    simp only [Den] at d d' ⊢
    obtain ⟨us, vs, h1, h2, h3⟩ := d
    obtain ⟨_, _, g1, g2, _⟩ := d'
    exact ⟨us, vs, Dens.cut hb h1 g1, Dens.cut hb h2 g2, h3⟩
  | .i t e, _, _, d, d' => by
    simp only [Den] at d d' ⊢
    obtain ⟨u, h1, h2⟩ := d
    obtain ⟨_, g1, _⟩ := d'
    exact ⟨u, Den.cut hb h1 g1, h2⟩
  | .zl, _, _, d, _ => by simpa only [Den] using d
  | .by_ _ _, _, _, d, _ => by simpa only [Den] using d
  | .a cs, _, _, d, d' => by
    simp only [Den] at d d' ⊢
    obtain ⟨u, h1, h2⟩ := d
    obtain ⟨_, g1, _⟩ := d'
    exact ⟨u, Dens.cut hb h1 g1, h2⟩
  | .t cs, _, _, d, d' => by
    simp only [Den] at d d' ⊢
    obtain ⟨u, h1, h2⟩ := d
    obtain ⟨_, g1, _⟩ := d'
    exact ⟨u, Dens.cut hb h1 g1, h2⟩
theorem Dens.cut {ρ ρ' : Rn} {n : Nat} (hb : ∀ k, n ≤ k → ρ' k = none) : ∀ {e : List EV} {x x' : List Value}, Dens ρ e x → Dens ρ' e x' → Dens (Ev.cut ρ n) e x
  | [], _, _, d, _ => by simpa only [Dens] using d
  | c :: e, _, _, d, d' => by
    simp only [Dens] at d d' ⊢
    obtain ⟨v, vs, h1, h2, h3⟩ := d
    obtain ⟨_, _, g1, g2, _⟩ := d'
    exact ⟨v, vs, Den.cut hb h1 g1, Dens.cut hb h2 g2, h3⟩
end
theorem EntD.cut {ρ ρ' : Rn} {n : Nat} (hb : ∀ k, n ≤ k → ρ' k = none) : ∀ {es : List ME} {l l' : List Go.MapEntry}, EntD ρ es l → EntD ρ' es l' → EntD (Ev.cut ρ n) es l
  | [], _, _, d, _ => d
  | _ :: _, _, _, ⟨k, v, r, h1, h2, h3, h4⟩, ⟨_, _, _, g1, g2, g3, _⟩ => ⟨k, v, r, Den.cut hb h1 g1, Den.cut hb h2 g2, EntD.cut hb h3 g3, h4⟩
theorem ObjD.cut {ρ ρ' : Rn} {n : Nat} (hb : ∀ k, n ≤ k → ρ' k = none) {c c' : Nat} : ∀ {e : EO} {o o' : Obj}, ObjD P ρ c e o → ObjD P ρ' c' e o' → ObjD P (Ev.cut ρ n) c e o
  | .c _ _ _ _ _, _, _, ⟨cs, h1, h2, h3, h4, h5⟩, ⟨_, _, _, _, _, g5⟩ => ⟨cs, h1, h2, h3, h4, fun i hi => by
      obtain ⟨v, a, b⟩ := h5 i hi
      obtain ⟨_, _, b'⟩ := g5 i hi
      exact ⟨v, a, Den.cut hb b b'⟩⟩
  | .y _ _ _ _, _, _, d, _ => d
  | .m _ _, _, _, ⟨l, h1, h2⟩, ⟨_, _, g2⟩ => ⟨l, h1, EntD.cut hb h2 g2⟩
  | .it none _ _ _, _, _, d, _ => d
  | .it (some _) _ _ _, _, _, ⟨a, d, h1, h2⟩, ⟨_, _, g1, _⟩ => ⟨a, d, cut_of hb h1 g1, h2⟩
  | .si _ _, _, _, d, _ => d
/-- a part of E's memory, of whose blocks another run tells that they name no later block -/
theorem Rep.view {ρ : Rn} {σ : St} {w : World} (R : Rep P ρ σ w) {ρ' : Rn} {σ' : St} {w' : World} (G : Rep P ρ' σ' w') {V : St} (hV : ∀ k e, V.h.get k = some e → σ.h.get k = some e ∧ σ'.h.get k = some e) (hn : V.nx = σ'.nx) : Rep P (Ev.cut ρ V.nx) V w := by
  have hb : ∀ k, V.nx ≤ k → ρ' k = none := fun k hk => G.lim k (by omega)
  refine ⟨?_, ?_, ?_, ?_⟩
  · intro k e h
    obtain ⟨h1, h2⟩ := hV k e h
    obtain ⟨a, c, o, p1, p2, p3⟩ := R.blk k e h1
    obtain ⟨a', c', o', q1, q2, q3⟩ := G.blk k e h2
    exact ⟨a, c, o, cut_of hb p1 q1, p2, ObjD.cut hb p3 q3⟩
  · intro j k a c d hj hk h1 h2
    have sub : ∀ i, V.h.get i ≠ none → σ.h.get i ≠ none := by
      intro i hi
      cases e : V.h.get i with
      | none => exact absurd e hi
      | some x => rw [(hV i x e).1]; simp
    exact R.inj j k a c d (sub j hj) (sub k hk) (cut_some h1).2 (cut_some h2).2
  · intro k hk
    unfold Ev.cut
    rw [if_neg (by omega)]
  · intro k a c h
    exact R.inb k a c (cut_some h).2
/-- a step, without what hangs on the numbers' order -/
structure StpW (P : Program) (ρ : Rn) (σ : St) (w : World) (ρ' : Rn) (σ' : St) (w' : World) : Prop where
  rep : Rep P ρ' σ' w'
  le : Le ρ ρ'
  wr : ∀ k, k ∈ σ.W → k ∈ σ'.W
  ext : ∀ k a c, ρ' k = some (a, c) → ρ k = some (a, c) ∨ (w.heap.size ≤ a ∨ Wrote ρ σ'.W a)
  size : w.heap.size ≤ w'.heap.size
  keep : ∀ a, a < w.heap.size → ¬ Wrote ρ σ'.W a → w'.heap[a]? = w.heap[a]?
  os : w'.os = w.os
  out : w'.output = w.output
  tape : w'.tape = w.tape
theorem StpW.refl {ρ : Rn} {σ : St} {w : World} (R : Rep P ρ σ w) : StpW P ρ σ w ρ σ w :=
  ⟨R, Le.refl ρ, fun _ h => h, fun _ _ _ h => .inl h, Nat.le_refl _, fun _ _ _ => rfl, rfl, rfl, rfl⟩
theorem StpW.trans {ρ ρ1 ρ2 : Rn} {σ σ1 σ2 : St} {w w1 w2 : World} (A : StpW P ρ σ w ρ1 σ1 w1) (B : StpW P ρ1 σ1 w1 ρ2 σ2 w2) : StpW P ρ σ w ρ2 σ2 w2 := by
  have back : ∀ a, a < w.heap.size → Wrote ρ1 σ2.W a → Wrote ρ σ2.W a := by
    intro a ha h
    obtain ⟨k, h1, c, h2⟩ := h
    rcases A.ext k a c h2 with h3 | h3 | h3
    · exact ⟨k, h1, c, h3⟩
    · omega
    · exact Wrote.sub B.wr h3
  refine ⟨B.rep, A.le.trans B.le, fun k h => B.wr k (A.wr k h), ?_, Nat.le_trans A.size B.size, ?_, by rw [B.os, A.os], by rw [B.out, A.out], by rw [B.tape, A.tape]⟩
  · intro k a c h
    by_cases ha : a < w.heap.size
    · rcases B.ext k a c h with h1 | h1 | h1
      · rcases A.ext k a c h1 with h2 | h2 | h2
        · exact .inl h2
        · exact .inr (.inl h2)
        · exact .inr (.inr (Wrote.sub B.wr h2))
      · have := A.size; omega
      · exact .inr (.inr (back a ha h1))
    · exact .inr (.inl (by omega))
  · intro a ha h
    have h1 : ¬ Wrote ρ σ1.W a := fun g => h (Wrote.sub B.wr g)
    have h2 : ¬ Wrote ρ1 σ2.W a := fun g => h (back a ha g)
    rw [B.keep a (by have := A.size; omega) h2, A.keep a ha h1]
/-- what a step within V touched -/
def Touch (V σ1 : St) (k : Nat) : Prop := k ∈ σ1.W ∨ (V.nx ≤ k ∧ k < σ1.nx)
structure Frames (V σ1 σ σ' : St) : Prop where
  nil : V.W = []
  sub : ∀ k e, V.h.get k = some e → σ.h.get k = some e
  t : ∀ k, Touch V σ1 k → σ'.h.get k = σ1.h.get k
  u : ∀ k, ¬ Touch V σ1 k → σ'.h.get k = σ.h.get k
  nx : σ.nx ≤ σ'.nx
  nx1 : σ1.nx ≤ σ'.nx
  W : ∀ k, k ∈ σ'.W ↔ k ∈ σ1.W ∨ k ∈ σ.W
theorem frame {ρ : Rn} {σ : St} {w : World} (R : Rep P ρ σ w) {V σ1 σ' : St} {ρ1 : Rn} {w1 : World} (S : Stp P (cut ρ V.nx) V w ρ1 σ1 w1) (F : Frames V σ1 σ σ') (hfree : ∀ k, V.nx ≤ k → k < σ1.nx → ρ k = none) :
    ∃ ρ', StpW P ρ σ w ρ' σ' w1 ∧ Le ρ1 ρ' ∧ ∀ k, ¬ (V.nx ≤ k ∧ k < σ1.nx) → ρ' k = ρ k := by
  let ρ' : Rn := fun k => if V.nx ≤ k ∧ k < σ1.nx then ρ1 k else ρ k
  have hin : ∀ k, V.nx ≤ k → k < σ1.nx → ρ' k = ρ1 k := fun k h1 h2 => if_pos ⟨h1, h2⟩
  have hout : ∀ k, ¬ (V.nx ≤ k ∧ k < σ1.nx) → ρ' k = ρ k := fun k h => if_neg h
  have sub : ∀ i, V.h.get i ≠ none → σ.h.get i ≠ none := by
    intro i hi
    cases e : V.h.get i with
    | none => exact absurd e hi
    | some x => rw [F.sub i x e]; simp
  have le1 : Le ρ1 ρ' := by
    intro k x h
    by_cases g : V.nx ≤ k ∧ k < σ1.nx
    · rw [hin k g.1 g.2]; exact h
    · rw [hout k g]
      by_cases g1 : k < V.nx
      · rw [S.old k g1] at h; exact (cut_some h).2
      · rw [S.rep.lim k (by omega)] at h; cases h
  have le0 : Le ρ ρ' := by
    intro k x h
    by_cases g : V.nx ≤ k ∧ k < σ1.nx
    · rw [hfree k g.1 g.2] at h; cases h
    · rw [hout k g]; exact h
  -- a block that was written, was alive
  have wlive : ∀ k a d, k ∈ σ1.W → cut ρ V.nx k = some (a, d) → ρ k = some (a, d) ∧ σ.h.get k ≠ none := by
    intro k a d h1 h2
    obtain ⟨h3, h4⟩ := cut_some h2
    rcases S.live k h1 with h5 | h5 | h5
    · rw [F.nil] at h5; cases h5
    · exact ⟨h4, sub k h5⟩
    · omega
  -- the numbers of what is touched and alive
  have tl : ∀ k, Touch V σ1 k → σ1.h.get k ≠ none → ρ' k = ρ1 k := by
    intro k h1 h2
    by_cases g : V.nx ≤ k ∧ k < σ1.nx
    · exact hin k g.1 g.2
    · rw [hout k g]
      by_cases g1 : k < V.nx
      · rw [S.old k g1]; unfold cut; rw [if_pos g1]
      · exact absurd (S.rep.none_of (by omega)) h2
  have cross : ∀ i j a c d, Touch V σ1 i → σ1.h.get i ≠ none → ¬ Touch V σ1 j → σ.h.get j ≠ none → ρ1 i = some (a, c) → ρ j = some (a, d) → False := by
    intro i j a c d h1 h2 h3 h4 h5 h6
    have ha := R.inb j a d h6
    rcases S.ext i a c h5 with g | g | g
    · obtain ⟨g1, g2⟩ := cut_some g
      rcases S.dom i h2 with q | q
      · exact h3 (R.inj i j a c d (sub i q) h4 g2 h6 ▸ h1)
      · omega
    · omega
    · obtain ⟨k, k1, e, k2⟩ := g
      obtain ⟨k3, k4⟩ := wlive k a e k1 k2
      exact h3 (R.inj k j a e d k4 h4 k3 h6 ▸ (Or.inl k1))
  refine ⟨ρ', ⟨⟨?_, ?_, ?_, ?_⟩, le0, ?_, ?_, S.size, ?_, S.os, S.out, S.tape⟩, le1, hout⟩
  · intro k e h
    by_cases g : Touch V σ1 k
    · rw [F.t k g] at h
      obtain ⟨a, c, o, p1, p2, p3⟩ := S.rep.blk k e h
      exact ⟨a, c, o, le1 _ _ p1, p2, ObjD.mono le1 p3⟩
    · rw [F.u k g] at h
      obtain ⟨a, c, o, p1, p2, p3⟩ := R.blk k e h
      refine ⟨a, c, o, le0 _ _ p1, ?_, ObjD.mono le0 p3⟩
      rw [S.keep a (R.inb k a c p1)]
      · exact p2
      · rintro ⟨k2, q1, d, q2⟩
        obtain ⟨q3, q4⟩ := wlive k2 a d q1 q2
        exact g (R.inj k2 k a d c q4 (by rw [h]; simp) q3 p1 ▸ (Or.inl q1))
  · intro i j a c d hi hj h1 h2
    by_cases gi : Touch V σ1 i
    · rw [F.t i gi] at hi
      rw [tl i gi hi] at h1
      by_cases gj : Touch V σ1 j
      · rw [F.t j gj] at hj
        rw [tl j gj hj] at h2
        exact S.rep.inj i j a c d hi hj h1 h2
      · rw [F.u j gj] at hj
        rw [hout j (fun q => gj (.inr q))] at h2
        exact (cross i j a c d gi hi gj hj h1 h2).elim
    · rw [F.u i gi] at hi
      rw [hout i (fun q => gi (.inr q))] at h1
      by_cases gj : Touch V σ1 j
      · rw [F.t j gj] at hj
        rw [tl j gj hj] at h2
        exact (cross j i a d c gj hj gi hi h2 h1).elim
      · rw [F.u j gj] at hj
        rw [hout j (fun q => gj (.inr q))] at h2
        exact R.inj i j a c d hi hj h1 h2
  · intro k hk
    have h1 := F.nx
    have h2 := F.nx1
    rw [hout k (by omega)]
    exact R.lim k (by omega)
  · intro k a c h
    by_cases g : V.nx ≤ k ∧ k < σ1.nx
    · rw [hin k g.1 g.2] at h
      exact S.rep.inb k a c h
    · rw [hout k g] at h
      exact Nat.lt_of_lt_of_le (R.inb k a c h) S.size
  · intro k h
    exact (F.W k).2 (.inr h)
  · intro k a c h
    by_cases g : V.nx ≤ k ∧ k < σ1.nx
    · rw [hin k g.1 g.2] at h
      rcases S.ext k a c h with q | q | q
      · exact .inl (cut_some q).2
      · exact .inr (.inl q)
      · obtain ⟨k2, q1, d, q2⟩ := q
        exact .inr (.inr ⟨k2, (F.W k2).2 (.inl q1), d, (cut_some q2).2⟩)
    · rw [hout k g] at h
      exact .inl h
  · intro a ha h
    refine S.keep a ha ?_
    rintro ⟨k2, q1, d, q2⟩
    exact h ⟨k2, (F.W k2).2 (.inl q1), d, (cut_some q2).2⟩
/-- where no number of the whole is later than the part's -/
theorem frame_full {ρ : Rn} {σ : St} {w : World} (R : Rep P ρ σ w) {V σ1 σ' : St} {ρ1 : Rn} {w1 : World} (S : Stp P (cut ρ V.nx) V w ρ1 σ1 w1) (F : Frames V σ1 σ σ') (hn : σ.nx = V.nx) :
    ∃ ρ', Stp P ρ σ w ρ' σ' w1 ∧ Le ρ1 ρ' := by
  obtain ⟨ρ', h1, h2, h3⟩ := frame R S F (fun k hk _ => R.lim k (by omega))
  have sub : ∀ i, V.h.get i ≠ none → σ.h.get i ≠ none := by
    intro i hi
    cases e : V.h.get i with
    | none => exact absurd e hi
    | some x => rw [F.sub i x e]; simp
  refine ⟨ρ', ⟨h1.rep, h1.le, F.nx, h1.wr, h1.ext, h1.size, h1.keep, h1.os, h1.out, h1.tape, ?_, ?_, ?_, ?_⟩, h2⟩
  · intro k h
    by_cases g : Touch V σ1 k
    · rw [F.t k g] at h
      rcases S.dom k h with q | q
      · exact .inl (sub k q)
      · exact .inr (by omega)
    · rw [F.u k g] at h; exact .inl h
  · intro k h
    rcases (F.W k).1 h with q | q
    · rcases S.live k q with q1 | q1 | q1
      · rw [F.nil] at q1; cases q1
      · exact .inr (.inl (sub k q1))
      · exact .inr (.inr (by have := F.nx1; omega))
    · exact .inl q
  · intro k hk h
    refine F.u k ?_
    rintro (q | q)
    · exact h ((F.W k).2 (.inl q))
    · omega
  · intro k hk
    exact h3 k (by omega)
end Ev
end Go.Proofs.YtkfhapidoolfdaaGreatDoor

namespace Go.Proofs.YtkfhapidoolfdaaGreatDoor
open Go
namespace Ev
variable {P : Program}

/-- what an operation's run comes to -/
def Ends (ρ : Rn) (v : EV) (n : Next) : Prop := (∃ u, n = .value u ∧ Den ρ v u) ∨ (n = .skip ∧ v = .s undef)
/-- E's f does what the operation o does -/
def OpOk (P : Program) (o : Oper) (f : TrV → St → Out) : Prop :=
  ∀ (ρ : Rn) (tm : TrV) (σ : St) (w : World) (η : Operand → Value) (v : EV) (σ' : St), Rep P ρ σ w → (∀ x, Den ρ (ev tm x) (η x)) → f tm σ = some (v, σ') →
    ∃ ρ' w' n, (execOp η o).run P w = .ok n w' ∧ Ends ρ' v n ∧ Stp P ρ σ w ρ' σ' w'
theorem op_move {o : Oper} {x : Operand} (h : o.op = .move x) : OpOk P o (moveF x) := by
  intro ρ tm σ w η v σ' R D e
  cases e
  refine ⟨ρ, w, .value (η x), ?_, .inl ⟨_, rfl, D x⟩, Stp.refl R⟩
  rw [execOp, h]; rfl
theorem op_assign {o : Oper} {x : Operand} (h : o.op = .assign x) : OpOk P o (moveF x) := by
  intro ρ tm σ w η v σ' R D e
  cases e
  refine ⟨ρ, w, .value (η x), ?_, .inl ⟨_, rfl, D x⟩, Stp.refl R⟩
  rw [execOp, h]; rfl
theorem op_pick {o : Oper} {c a b : Operand} (h : o.op = .pick c a b) : OpOk P o (pickF c a b) := by
  intro ρ tm σ w η v σ' R D e
  have dc := D c
  rw [pickF] at e
  generalize ev tm c = k at e dc
  cases k with
  | s x =>
    have e1 := dc.s
    cases x with
    | bool t =>
      cases t with
      | true =>
        cases e
        exact ⟨ρ, w, .value (η a), by rw [execOp, h]; simp only [e1]; rfl, .inl ⟨_, rfl, D a⟩, Stp.refl R⟩
      | false =>
        cases e
        exact ⟨ρ, w, .value (η b), by rw [execOp, h]; simp only [e1]; rfl, .inl ⟨_, rfl, D b⟩, Stp.refl R⟩
    | _ => cases e
  | _ => cases e
theorem Dens.nth {ρ : Rn} : ∀ {cs : List EV} {us : List Value} (_ : Dens ρ cs us) (i : Nat) {v : EV}, cs[i]? = some v → ∃ u, us[i]? = some u ∧ Den ρ v u
  | [], _, _, i, v, e => by cases i <;> cases e
  | c :: cs, us, h, 0, v, e => by
    obtain ⟨u, r, h1, h2, rfl⟩ := h.cons
    cases e
    exact ⟨u, rfl, h1⟩
  | c :: cs, us, h, i + 1, v, e => by
    obtain ⟨u, r, h1, h2, rfl⟩ := h.cons
    exact Dens.nth h2 i e
theorem Dens.evs {ρ : Rn} {tm : TrV} {η : Operand → Value} (D : ∀ x, Den ρ (ev tm x) (η x)) : ∀ l : List Operand, Dens ρ (evs tm l) (l.map η)
  | [] => Dens.nilm
  | x :: l => Dens.mk (D x) (Dens.evs D l)
theorem op_makeFunc {o : Oper} {fn : Fn} {fs cs : Array Operand} (h : o.op = .makeFunc fn fs cs) : OpOk P o (mkFnF fn fs.toList cs.toList) := by
  intro ρ tm σ w η v σ' R D e
  cases e
  refine ⟨ρ, w, .value (.func fn (fs.map η) (cs.map η)), ?_, .inl ⟨_, rfl, ?_⟩, Stp.refl R⟩
  · rw [execOp, h]; rfl
  · simp only [Den]
    refine ⟨_, _, Dens.evs D fs.toList, Dens.evs D cs.toList, ?_⟩
    rw [← Array.toList_map, ← Array.toList_map]
theorem op_extract {o : Oper} {x : Operand} {k : Nat} (h : o.op = .extract x k) : OpOk P o (extractF x k) := by
  intro ρ tm σ w η v σ' R D e
  have dx := D x
  rw [extractF] at e
  generalize ev tm x = c at e dx
  cases c with
  | t vs =>
    obtain ⟨us, h1, h2⟩ := dx.t
    rw [extractE, nthO, nthL_eq] at e
    cases e1 : vs[k]? with
    | none => rw [e1] at e; cases e
    | some y =>
      rw [e1] at e
      cases e
      obtain ⟨u, h3, h4⟩ := Dens.nth h1 k e1
      refine ⟨ρ, w, .value u, ?_, .inl ⟨_, rfl, h4⟩, Stp.refl R⟩
      rw [execOp, h]
      simp only [h2, Instr.extract]
      simp [h3]
  | _ => cases e
theorem infoE_some {t : TypeId} {i : TypeInfo} (h : infoE P t = some i) : P.info? t = some i := by
  rw [infoE, atE_eq] at h
  have ht : t < P.types.size := by
    by_cases g : t < P.types.size
    · exact g
    · rw [Array.getElem?_eq_none (Nat.le_of_not_lt g)] at h
      cases h
  show (if t < P.types.size then P.types[t]? else _) = _
  rw [if_pos ht, h]
theorem underE_some {t : TypeId} {d : TypeDesc} (h : underE P t = some d) : P.underlying t = some d := by
  rw [underE] at h
  cases e : infoE P t with
  | none => rw [e] at h; cases h
  | some i =>
    rw [e] at h
    have e1 := infoE_some e
    rw [Program.underlying, e1]
    cases i with
    | mk d1 =>
      cases d1 with
      | named n u =>
        simp only at h
        cases e2 : infoE P u with
        | none => rw [e2] at h; cases h
        | some j =>
          rw [e2] at h
          show Option.map (fun x => x.desc) (P.info? u) = some d
          rw [infoE_some e2]
          exact h
      | _ => exact h
end Ev
end Go.Proofs.YtkfhapidoolfdaaGreatDoor

namespace Go.Proofs.YtkfhapidoolfdaaGreatDoor
open Go
namespace Ev
variable {P : Program}

theorem segB_eq (bs o n : Nat) : segB bs o n = (bs >>> (8 * o)) % 2 ^ (8 * n) := rfl
theorem segB_segB (bs o n j : Nat) (h : j < n) : segB (segB bs o n) j 1 = segB bs (o + j) 1 := by
  rw [segB_eq, segB_eq, segB_eq]
  apply Nat.eq_of_testBit_eq
  intro i
  simp only [Nat.testBit_mod_two_pow, Nat.testBit_shiftRight]
  by_cases hi : i < 8 * 1
  · have h1 : 8 * j + i < 8 * n := by omega
    simp only [hi, h1, decide_true, Bool.true_and]
    congr 1
    omega
  · simp only [hi, decide_false, Bool.false_and]
theorem cellsAt_zero (tr : TrV) (z : List EV) (i : Nat) : cellsAt tr z i 0 = [] := rfl
theorem cellsAt_succ (tr : TrV) (z : List EV) (i n : Nat) : cellsAt tr z i (n + 1) = cellAt tr z i :: cellsAt tr z (i + 1) n := rfl
theorem cellsAt_D {ρ : Rn} {tr : TrV} {z : List EV} {cs : Array Value} : ∀ (n o : Nat), (∀ j, j < n → ∃ v, cs[o + j]? = some v ∧ Den ρ (cellAt tr z (o + j)) v) → ∃ vs : List Value, vs.length = n ∧ Dens ρ (cellsAt tr z o n) vs ∧ ∀ j, j < n → vs[j]? = cs[o + j]?
  | 0, o, _ => ⟨[], rfl, Dens.nilm, fun j h => absurd h (Nat.not_lt_zero j)⟩
  | n + 1, o, h => by
    obtain ⟨v, h1, h2⟩ := h 0 (Nat.succ_pos n)
    obtain ⟨vs, g1, g2, g3⟩ := cellsAt_D (ρ := ρ) (tr := tr) (z := z) (cs := cs) n (o + 1) (fun j hj => by
      have := h (j + 1) (by omega)
      rwa [show o + (j + 1) = o + 1 + j by omega] at this)
    refine ⟨v :: vs, by simp [g1], Dens.mk h2 g2, ?_⟩
    intro j hj
    cases j with
    | zero => exact h1.symm
    | succ j =>
      have := g3 j (by omega)
      rw [show o + (j + 1) = o + 1 + j by omega, ← this]
      rfl
theorem unV_at (bs : Nat) : ∀ (n i j : Nat), j < n → (unV bs i n)[j]? = some (byV bs (i + j))
  | 0, _, _, h => absurd h (Nat.not_lt_zero _)
  | n + 1, i, 0, _ => rfl
  | n + 1, i, j + 1, h => by
    rw [unV, List.getElem?_cons_succ, unV_at bs n (i + 1) j (by omega), show i + 1 + j = i + (j + 1) by omega]
theorem Rep.load {ρ : Rn} {σ : St} {w : World} (R : Rep P ρ σ w) {b a c o n : Nat} {r : Row} (hr : ρ b = some (a, c)) (e : loadN σ b o n = some r) :
    ∃ vs : List Value, vs.length = n ∧ RowD ρ r vs ∧ ∀ j v, vs[j]? = some v → w.cell? ⟨a, o + j, none⟩ = some v := by
  rw [loadN] at e
  cases e1 : σ.h.get b with
  | none => rw [e1] at e; cases e
  | some x =>
    obtain ⟨a', c', ob, h1, h2, h3⟩ := R.blk b x e1
    rw [hr] at h1
    cases h1
    rw [e1] at e
    have cell : ∀ (cs : Array Value) (el : TypeId) (j : Nat), w.heap[a]? = some (.cells cs el (0, 0)) → w.cell? ⟨a, j, none⟩ = cs[j]? := by
      intro cs el j h
      simp [World.cell?, h]
    cases x with
    | c tr m z el op =>
      obtain ⟨cs, k1, k2, k3, k4, k5⟩ := h3
      rw [loadB] at e
      cases e2 : Nat.ble (Nat.add o n) m with
      | false => rw [e2] at e; cases e
      | true =>
        rw [e2] at e
        cases e
        have e3 : o + n ≤ m := Nat.le_of_ble_eq_true e2
        obtain ⟨vs, g1, g2, g3⟩ := cellsAt_D (ρ := ρ) (tr := tr) (z := z) (cs := cs) n o (fun j hj => k5 (o + j) (by omega))
        refine ⟨vs, g1, g2, ?_⟩
        intro j v hv
        have hj : j < n := by
          rw [← g1]
          exact (List.getElem?_eq_some_iff.1 hv).1
        rw [cell cs el _ (by rw [h2, k1]), ← g3 j hj, hv]
    | y bs m el op =>
      obtain ⟨cs, k1, k2, k3, k4, k5⟩ := h3
      rw [loadB] at e
      cases e2 : Nat.ble (Nat.add o n) m with
      | false => rw [e2] at e; cases e
      | true =>
        rw [e2] at e
        cases e
        have e3 : o + n ≤ m := Nat.le_of_ble_eq_true e2
        refine ⟨unV (segB bs o n) 0 n, unV_len _ n 0, rfl, ?_⟩
        intro j v hv
        have hj : j < n := by
          have := (List.getElem?_eq_some_iff.1 hv).1
          rwa [unV_len] at this
        rw [unV_at _ n 0 j hj] at hv
        cases hv
        rw [cell cs el _ (by rw [h2, k1]), k5 (o + j) (by omega), Nat.zero_add, byV, byV, segB_segB bs o n j hj]
    | m es cl => cases e
    | it mm s se st => cases e
    | si s p => cases e
theorem addr_add (a o j : Nat) : (⟨a, o, none⟩ : Addr).add j = ⟨a, o + j, none⟩ := by
  rw [Addr.add]
  by_cases h : j = 0
  · subst h; rfl
  · rw [if_neg h]
theorem run_underE {t : TypeId} {d : TypeDesc} (h : underE P t = some d) (w : World) : (underlying t).run P w = .ok d w := by
  have e := underE_some h
  simp [underlying, program, Sem.run, e]
theorem run_isAggE {t : TypeId} {x : Bool} (h : aggB P t = some x) (w : World) : (isAgg t).run P w = .ok x w := by
  rw [aggB] at h
  cases e : underE P t with
  | none => rw [e] at h; cases h
  | some d =>
    rw [e] at h
    rw [isAgg]
    simp only [Sem.run_bind, run_underE e, Result.andThen]
    cases d <;> cases h <;> rfl
theorem run_sizeE {t : TypeId} {n : Nat} (h : szE P t = some n) (w : World) : (sizeOf t).run P w = .ok n w := by
  rw [szE] at h
  cases e : infoE P t with
  | none => rw [e] at h; cases h
  | some i =>
    rw [e] at h
    cases h
    have e1 := infoE_some e
    simp [sizeOf, typeInfo, program, Sem.run, e1]
theorem Rep.loadT {ρ : Rn} {σ : St} {w : World} (R : Rep P ρ σ w) {t : TypeId} {b a c o : Nat} {v : EV} (hr : ρ b = some (a, c)) (e : loadT P σ t b o = some v) :
    ∃ u, (loadVar t ⟨a, o, none⟩).run P w = .ok u w ∧ Den ρ v u := by
  rw [Ev.loadT] at e
  cases e1 : aggB P t with
  | none => rw [e1] at e; cases e
  | some x =>
    rw [e1] at e
    rw [loadVar]
    simp only [Sem.run_bind, run_isAggE e1, Result.andThen]
    cases x with
    | true =>
      cases e2 : szE P t with
      | none => rw [e2] at e; cases e
      | some n =>
        rw [e2] at e
        cases e3 : loadN σ b o n with
        | none => simp only [e3] at e; cases e
        | some r =>
          simp only [e3] at e
          obtain ⟨vs, h1, h2, h3⟩ := R.load hr e3
          cases e
          refine ⟨.agg vs.toArray, ?_, ?_⟩
          · simp only [if_true, Sem.run_bind, run_sizeE e2, Result.andThen]
            rw [← h1, run_loadCells_list w ⟨a, o, none⟩ vs (fun j v hv => by
              have := h3 j v hv
              rwa [show (⟨a, o, none⟩ : Addr).add j = ⟨a, o + j, none⟩ from addr_add a o j])]
            rfl
          · cases r with
            | l cs => simp only [aggR, Den]; exact ⟨vs, h2, rfl⟩
            | y bs k =>
              have k1 : k = n := by
                have := RowD.len h2
                rw [h1] at this
                exact this.symm
              simp only [aggR, Den]
              rw [show vs = unV bs 0 k from h2]
    | false =>
      have e' : oneO (loadN σ b o 1) = some v := by
        cases e2 : szE P t <;> rw [e2] at e <;> exact e
      cases e3 : loadN σ b o 1 with
      | none => rw [e3] at e'; cases e'
      | some r =>
        rw [e3] at e'
        obtain ⟨vs, h1, h2, h3⟩ := R.load hr e3
        match vs, h1 with
        | [u], _ =>
          refine ⟨u, ?_, ?_⟩
          · have := h3 0 u rfl
            simp only [Bool.false_eq_true, if_false]
            simp [show w.cell? ⟨a, o, none⟩ = some u from this]
          · cases r with
            | l cs =>
              obtain ⟨y, g1⟩ : ∃ y, cs = [y] := by
                have := Dens_len h2
                match cs, this with
                | [y], _ => exact ⟨y, rfl⟩
              subst g1
              cases e'
              obtain ⟨u', r', q1, q2, q3⟩ := Dens.cons h2
              cases q3
              exact q1
            | y bs k =>
              have hk : k = 1 := (RowD.len h2).symm
              subst hk
              cases e'
              have : [u] = unV bs 0 1 := h2
              cases this
              exact Den.sv _
theorem op_load {o : Oper} {t : TypeId} {x : Operand} (h : o.op = .load t x) : OpOk P o (loadF P t x) := by
  intro ρ tm σ w η v σ' R D e
  have dx := D x
  rw [loadF] at e
  generalize ev tm x = k at e dx
  cases k with
  | p b off =>
    obtain ⟨a, c, h1, h2⟩ := dx.p
    rw [loadE] at e
    cases e1 : loadT P σ t b off with
    | none => rw [e1] at e; cases e
    | some y =>
      rw [e1] at e
      cases e
      obtain ⟨u, h3, h4⟩ := R.loadT h1 e1
      refine ⟨ρ, w, .value u, ?_, .inl ⟨_, rfl, h4⟩, Stp.refl R⟩
      rw [execOp, h]
      simp only [h2, Instr.loadAt, Instr.sureAddr, Sem.run_bind, Sem.run_pure, Result.andThen, h3]
  | _ => cases e
end Ev
end Go.Proofs.YtkfhapidoolfdaaGreatDoor

namespace Go.Proofs.YtkfhapidoolfdaaGreatDoor
open Go
namespace Ev
variable {P : Program}

theorem segB_bit (bs i k : Nat) : (segB bs i 1).testBit k = (decide (k < 8) && bs.testBit (8 * i + k)) := by
  rw [segB_eq, Nat.testBit_mod_two_pow, Nat.testBit_shiftRight]
theorem splB_eq (bs o n v : Nat) : splB bs o n v = 2 ^ (8 * o) * (2 ^ (8 * n) * (bs >>> (8 * (o + n))) + v % 2 ^ (8 * n)) + bs % 2 ^ (8 * o) := rfl
theorem splB_bit (bs o n v j : Nat) : (splB bs o n v).testBit j = if j < 8 * o then bs.testBit j else if j < 8 * (o + n) then v.testBit (j - 8 * o) else bs.testBit j := by
  rw [splB_eq, Nat.testBit_two_pow_mul_add _ (Nat.mod_lt _ (Nat.two_pow_pos _))]
  by_cases h : j < 8 * o
  · rw [if_pos h, if_pos h, Nat.testBit_mod_two_pow]; simp [h]
  · rw [if_neg h, if_neg h, Nat.testBit_two_pow_mul_add _ (Nat.mod_lt _ (Nat.two_pow_pos _))]
    by_cases g : j < 8 * (o + n)
    · rw [if_pos g, if_pos (by omega), Nat.testBit_mod_two_pow]
      simp [show j - 8 * o < 8 * n by omega]
    · rw [if_neg g, if_neg (by omega), Nat.testBit_shiftRight]
      congr 1
      omega
theorem splB_at (bs o n v i : Nat) : segB (splB bs o n v) i 1 = if o ≤ i ∧ i < o + n then segB v (i - o) 1 else segB bs i 1 := by
  apply Nat.eq_of_testBit_eq
  intro k
  rw [segB_bit, splB_bit]
  by_cases hk : k < 8
  · by_cases h : o ≤ i ∧ i < o + n
    · rw [if_pos h, segB_bit, if_neg (by omega), if_pos (by omega)]
      congr 2
      omega
    · rw [if_neg h, segB_bit]
      by_cases g : i < o
      · rw [if_pos (by omega)]
      · rw [if_neg (by omega), if_neg (by omega)]
  · have : decide (k < 8) = false := by simp [hk]
    rw [this, Bool.false_and]
    split <;> simp [segB_bit, hk]
theorem putAt_get : ∀ (l : List EV) (t : TrV) (o j : Nat), (putAt t o l).get j = if o ≤ j ∧ j < o + l.length then l[j - o]? else t.get j
  | [], t, o, j => by
    show t.get j = _
    rw [if_neg (by simp)]
  | v :: l, t, o, j => by
    show (putAt (t.put o (some v)) (o + 1) l).get j = _
    rw [putAt_get l (t.put o (some v)) (o + 1) j, TrV.get_put, List.length_cons]
    by_cases h : o + 1 ≤ j ∧ j < o + 1 + l.length
    · rw [if_pos h, if_pos (by omega), show j - o = (j - (o + 1)) + 1 by omega, List.getElem?_cons_succ]
    · rw [if_neg h]
      by_cases g : j = o
      · subst g
        rw [if_pos rfl, if_pos (by omega), Nat.sub_self]; rfl
      · rw [if_neg g, if_neg (by omega)]
theorem cellAt_put (t : TrV) (z l : List EV) (o j : Nat) : cellAt (putAt t o l) z j = if o ≤ j ∧ j < o + l.length then nth l (j - o) else cellAt t z j := by
  rw [cellAt, putAt_get]
  by_cases h : o ≤ j ∧ j < o + l.length
  · rw [if_pos h, if_pos h, show nth l (j - o) = Option.rec (motive := fun _ => EV) (.s undef) (fun v => v) (l[j - o]?) from by rw [nth, nthL_eq]]
    cases e : l[j - o]? with
    | none =>
      have := List.getElem?_eq_none_iff.1 e
      omega
    | some v => rfl
  · rw [if_neg h, if_neg h]; rfl
theorem nth_D {ρ : Rn} {l : List EV} {vs : List Value} (h : Dens ρ l vs) {j : Nat} (hj : j < l.length) : ∃ v, vs[j]? = some v ∧ Den ρ (nth l j) v := by
  have e : l[j]? = some l[j] := List.getElem?_eq_getElem hj
  obtain ⟨u, h1, h2⟩ := Dens.nth h j e
  refine ⟨u, h1, ?_⟩
  rw [nth, nthL_eq, e]; exact h2
theorem byteN_some {c : EV} {k : Nat} (h : byteN c = some k) : c = .s (.int .u8 (.ofNat k)) ∧ k < 256 := by
  unfold byteN at h
  split at h
  · split at h
    · next e =>
      have := Nat.le_of_ble_eq_true e
      cases h
      exact ⟨rfl, by omega⟩
    · cases h
  · cases h
theorem segB_add {acc k i : Nat} (ha : acc < 2 ^ (8 * i)) (hk : k < 256) (j : Nat) : segB (acc + k <<< (8 * i)) j 1 = if j < i then segB acc j 1 else if j = i then k else 0 := by
  have e : acc + k <<< (8 * i) = 2 ^ (8 * i) * k + acc := by rw [Nat.shiftLeft_eq, Nat.mul_comm]; omega
  apply Nat.eq_of_testBit_eq
  intro b
  rw [segB_bit, e, Nat.testBit_two_pow_mul_add _ ha]
  have kb : ∀ t, 8 ≤ t → k.testBit t = false := by
    intro t ht
    apply Nat.testBit_lt_two_pow
    exact Nat.lt_of_lt_of_le hk (Nat.pow_le_pow_right (show 0 < 2 by decide) (show 8 ≤ t from ht))
  by_cases hb : b < 8
  · by_cases h1 : j < i
    · rw [if_pos h1, if_pos (by omega), segB_bit]
    · rw [if_neg h1, if_neg (by omega)]
      by_cases h2 : j = i
      · subst h2
        rw [if_pos rfl, Nat.add_sub_cancel_left]; simp [hb]
      · rw [if_neg h2, kb _ (by omega)]; simp
  · have hb' : decide (b < 8) = false := by simp [hb]
    rw [hb', Bool.false_and]
    by_cases h1 : j < i
    · rw [if_pos h1, segB_bit, hb', Bool.false_and]
    · rw [if_neg h1]
      by_cases h2 : j = i
      · rw [if_pos h2, kb b (by omega)]
      · rw [if_neg h2]; simp
theorem packB_D {ρ : Rn} : ∀ (l : List EV) (i acc v : Nat) (vs : List Value), packB i acc l = some v → acc < 2 ^ (8 * i) → Dens ρ l vs →
    (∀ j, j < i → segB v j 1 = segB acc j 1) ∧ ∀ t, t < l.length → vs[t]? = some (byV v (i + t))
  | [], i, acc, v, vs, e, _, _ => by
    cases e
    exact ⟨fun _ _ => rfl, fun t h => absurd h (Nat.not_lt_zero t)⟩
  | c :: r, i, acc, v, vs, e, ha, d => by
    obtain ⟨u, us, h1, h2, rfl⟩ := d.cons
    have e' : packC (fun i acc => packB i acc r) i acc (byteN c) = some v := e
    cases e1 : byteN c with
    | none => rw [e1] at e'; cases e'
    | some k =>
      rw [e1] at e'
      obtain ⟨hc, hk⟩ := byteN_some e1
      subst hc
      have e2 : packB (i + 1) (acc + k <<< (8 * i)) r = some v := e'
      have hacc : acc + k <<< (8 * i) < 2 ^ (8 * (i + 1)) := by
        rw [Nat.shiftLeft_eq, show 8 * (i + 1) = 8 * i + 8 by omega, Nat.pow_add]
        have : k * 2 ^ (8 * i) ≤ 255 * 2 ^ (8 * i) := Nat.mul_le_mul_right _ (by omega)
        omega
      obtain ⟨g1, g2⟩ := packB_D r (i + 1) (acc + k <<< (8 * i)) v us e2 hacc h2
      refine ⟨fun j hj => ?_, ?_⟩
      · rw [g1 j (by omega), segB_add ha hk, if_pos hj]
      · intro t ht
        cases t with
        | zero =>
          have e3 := g1 i (by omega)
          rw [segB_add ha hk, if_neg (by omega), if_pos rfl] at e3
          rw [h1.s, Nat.add_zero, byV, e3]; rfl
        | succ t =>
          have := g2 t (by simpa using ht)
          rw [show i + 1 + t = i + (t + 1) by omega] at this
          exact this
theorem oneE_cell {ρ : Rn} {e : EV} {v : Value} (h : Den ρ e v) (o : oneE e = true) : v.oneCell' = true := by
  obtain ⟨h1, h2⟩ := oneE_D h o
  cases v with
  | agg cs => exact absurd rfl (h1 cs)
  | tuple cs => exact absurd rfl (h2 cs)
  | _ => rfl
theorem oneL_D {ρ : Rn} : ∀ {l : List EV} {vs : List Value}, Dens ρ l vs → oneL l = true → ∀ v ∈ vs, v.oneCell' = true
  | [], vs, d, _, v, hv => by rw [d.nil] at hv; cases hv
  | c :: l, vs, d, o, v, hv => by
    obtain ⟨u, us, h1, h2, rfl⟩ := d.cons
    have o' : Bool.rec (motive := fun _ => Bool) false (oneL l) (oneE c) = true := o
    cases e : oneE c with
    | false => rw [e] at o'; cases o'
    | true =>
      rw [e] at o'
      rcases List.mem_cons.1 hv with h | h
      · rw [h]; exact oneE_cell h1 e
      · exact oneL_D h2 o' v h
theorem unV_one (bs : Nat) : ∀ (n i : Nat), ∀ v ∈ unV bs i n, v.oneCell' = true
  | 0, _, v, h => by cases h
  | n + 1, i, v, h => by
    rw [unV] at h
    rcases List.mem_cons.1 h with e | e
    · rw [e]; rfl
    · exact unV_one bs n (i + 1) v e
theorem oneR_D {ρ : Rn} {r : Row} {vs : List Value} (d : RowD ρ r vs) (o : oneR r = true) : ∀ v ∈ vs, v.oneCell' = true := by
  cases r with
  | l cs => exact oneL_D d o
  | y bs n => rw [show vs = unV bs 0 n from d]; exact unV_one bs n 0
/-- vs laid into cs at o -/
def lay (cs : Array Value) (o : Nat) (vs : List Value) : Array Value := (cs.toList.take o ++ vs ++ cs.toList.drop (o + vs.length)).toArray
theorem lay_size {cs : Array Value} {o : Nat} {vs : List Value} (h : o + vs.length ≤ cs.size) : (lay cs o vs).size = cs.size := by
  rw [lay, List.size_toArray, List.length_append, List.length_append, List.length_take, List.length_drop, Array.length_toList]
  omega
theorem lay_at {cs : Array Value} {o : Nat} {vs : List Value} (h : o + vs.length ≤ cs.size) (i : Nat) : (lay cs o vs)[i]? = if o ≤ i ∧ i < o + vs.length then vs[i - o]? else cs[i]? := by
  rw [lay, List.getElem?_toArray]
  have h1 : (cs.toList.take o).length = o := by rw [List.length_take, Array.length_toList]; omega
  by_cases g : i < o
  · rw [if_neg (by omega), List.append_assoc, List.getElem?_append_left (by omega), List.getElem?_take, if_pos g, Array.getElem?_toList]
  · by_cases k : i < o + vs.length
    · rw [if_pos (by omega), List.append_assoc, List.getElem?_append_right (by omega), List.getElem?_append_left (by omega), h1]
    · rw [if_neg (by omega), List.getElem?_append_right (by rw [List.length_append]; omega), List.length_append, h1, List.getElem?_drop, Array.getElem?_toList]
      congr 1
      omega
theorem setRow_set {w : World} {g : Nat} {old cs : Array Value} {t : TypeId} {fr : Nat × Nat} (hg : w.heap[g]? = some (.cells old t fr)) : (w.setRow g cs).heap = w.heap.setIfInBounds g (.cells cs t fr) := by
  have hlt : g < w.heap.size := (Array.getElem?_eq_some_iff.1 hg).1
  apply Array.ext_getElem?
  intro i
  by_cases h : g = i
  · subst h
    rw [setRow_heap w g old cs t fr hg, Array.getElem?_setIfInBounds_self_of_lt hlt]
  · rw [setRow_other w g i cs (fun e => h e.symm), Array.getElem?_setIfInBounds, if_neg h]
theorem nthmod {z : List EV} {i : Nat} (h : i < z.length) : nth z (Nat.mod i (lenL z)) = nth z i := by
  rw [lenL_eq, show Nat.mod i z.length = i from Nat.mod_eq_of_lt h]
theorem laid_D {ρ : Rn} {c : Nat} {tr : TrV} {m : Nat} {z : List EV} {el : TypeId} {op : Bool} {cs : Array Value} {o : Nat} {l : List EV} {vs : List Value} (d : Dens ρ l vs) (hm : m ≤ cs.size) (h3 : op = false → cs.size = m) (h4 : op = true → ∃ sz, szE P el = some sz ∧ cs.size = c * sz ∧ c ≤ 9223372036854775807)
    (h5 : ∀ i, i < m → ∃ v, cs[i]? = some v ∧ Den ρ (cellAt tr z i) v) (hf : o + l.length ≤ m) : ObjD P ρ c (laidC tr m z el op o l) (.cells (lay cs o vs) el (0, 0)) := by
  have hl : vs.length = l.length := Dens_len d
  have hsz : (lay cs o vs).size = cs.size := lay_size (by omega)
  have hat := lay_at (cs := cs) (o := o) (vs := vs) (by omega)
  rw [laidC]
  cases e : Nat.beq o 0 && Nat.beq (lenL l) m with
  | true =>
    have e1 : o = 0 := Nat.eq_of_beq_eq_true (Bool.and_eq_true _ _ ▸ e).1
    have e2 : l.length = m := by rw [← lenL_eq]; exact Nat.eq_of_beq_eq_true (Bool.and_eq_true _ _ ▸ e).2
    subst e1
    refine ⟨_, rfl, by omega, fun h => by rw [hsz]; exact h3 h, fun h => by rw [hsz]; exact h4 h, ?_⟩
    intro i hi
    obtain ⟨v, g1, g2⟩ := nth_D d (show i < l.length by omega)
    refine ⟨v, ?_, ?_⟩
    · rw [hat, if_pos (by omega), Nat.sub_zero]; exact g1
    · rw [cellAt, TrV.get_lf]
      show Den ρ (nth l (Nat.mod i (lenL l))) v
      rw [nthmod (by omega)]; exact g2
  | false =>
    refine ⟨_, rfl, by omega, fun h => by rw [hsz]; exact h3 h, fun h => by rw [hsz]; exact h4 h, ?_⟩
    intro i hi
    rw [cellAt_put]
    by_cases g : o ≤ i ∧ i < o + l.length
    · obtain ⟨v, g1, g2⟩ := nth_D d (show i - o < l.length by omega)
      exact ⟨v, by rw [hat, if_pos (by omega)]; exact g1, by rw [if_pos g]; exact g2⟩
    · obtain ⟨v, g1, g2⟩ := h5 i hi
      exact ⟨v, by rw [hat, if_neg (by omega)]; exact g1, by rw [if_neg g]; exact g2⟩
/-- bytes told by one number, laid over bytes -/
theorem laidB_D {ρ : Rn} {c bs m : Nat} {el : TypeId} {op : Bool} {cs : Array Value} {o v : Nat} {vs : List Value} (hv : ∀ t, t < vs.length → vs[t]? = some (byV v t)) (hm : m ≤ cs.size) (h3 : op = false → cs.size = m) (h4 : op = true → ∃ sz, szE P el = some sz ∧ cs.size = c * sz ∧ c ≤ 9223372036854775807)
    (h5 : ∀ i, i < m → cs[i]? = some (byV bs i)) (hf : o + vs.length ≤ m) : ObjD P ρ c (.y (splB bs o vs.length v) m el op) (.cells (lay cs o vs) el (0, 0)) := by
  have hsz : (lay cs o vs).size = cs.size := lay_size (by omega)
  have hat := lay_at (cs := cs) (o := o) (vs := vs) (by omega)
  refine ⟨_, rfl, by omega, fun h => by rw [hsz]; exact h3 h, fun h => by rw [hsz]; exact h4 h, ?_⟩
  intro i hi
  rw [hat, byV, splB_at]
  by_cases g : o ≤ i ∧ i < o + vs.length
  · rw [if_pos g, if_pos g, hv (i - o) (by omega), byV]
  · rw [if_neg g, if_neg g, h5 i hi, byV]
theorem laidY_D {ρ : Rn} {c bs m : Nat} {el : TypeId} {op : Bool} {cs : Array Value} {o : Nat} {r : Row} {vs : List Value} {x : EO} (d : RowD ρ r vs) (e : laidY bs m el op o r = some x) (hm : m ≤ cs.size) (h3 : op = false → cs.size = m) (h4 : op = true → ∃ sz, szE P el = some sz ∧ cs.size = c * sz ∧ c ≤ 9223372036854775807)
    (h5 : ∀ i, i < m → cs[i]? = some (byV bs i)) (hf : o + r.len ≤ m) : ObjD P ρ c x (.cells (lay cs o vs) el (0, 0)) := by
  have hl : vs.length = r.len := RowD.len d
  cases r with
  | y v n =>
    cases e
    have hn : vs.length = n := hl
    have := laidB_D (P := P) (ρ := ρ) (c := c) (bs := bs) (m := m) (el := el) (op := op) (cs := cs) (o := o) (v := v) (vs := vs) (fun t ht => by
      rw [show vs = unV v 0 n from d, unV_at v n 0 t (by omega), Nat.zero_add]) hm h3 h4 h5 (by omega)
    rw [hn] at this
    exact this
  | l es =>
    rw [laidY] at e
    cases e1 : packB 0 0 es with
    | none => rw [e1] at e; cases e
    | some v =>
      rw [e1] at e
      cases e
      have hn : vs.length = lenL es := hl
      obtain ⟨_, g⟩ := packB_D es 0 0 v vs e1 (by simp) d
      have := laidB_D (P := P) (ρ := ρ) (c := c) (bs := bs) (m := m) (el := el) (op := op) (cs := cs) (o := o) (v := v) (vs := vs) (fun t ht => by
        have := g t (by rw [← lenL_eq]; omega)
        rwa [Nat.zero_add] at this) hm h3 h4 h5 (by omega)
      rw [hn] at this
      exact this
theorem Rep.store {ρ : Rn} {σ σ' : St} {w : World} (R : Rep P ρ σ w) {b a c o : Nat} {r : Row} {vs : List Value} (hr : ρ b = some (a, c)) (d : RowD ρ r vs) (h1 : oneR r = true) (e : storeN σ b o r = some σ') :
    ∃ w', (storeCells ⟨a, o, none⟩ vs).run P w = .ok () w' ∧ Stp P ρ σ w ρ σ' w' := by
  have hl : vs.length = r.len := RowD.len d
  have one := oneR_D d h1
  rw [storeN] at e
  cases hn : r.len with
  | zero =>
    rw [hn] at e
    cases e
    have : vs = [] := List.eq_nil_of_length_eq_zero (by omega)
    subst this
    exact ⟨w, rfl, Stp.refl R⟩
  | succ n =>
    rw [hn] at e
    have e' : setO σ b (storeB o r (σ.h.get b)) = some σ' := e
    cases hk : σ.h.get b with
    | none => rw [hk] at e'; cases e'
    | some x =>
      rw [hk] at e'
      obtain ⟨a', c', ob, q1, q2, q3⟩ := R.blk b x hk
      rw [hr] at q1
      cases q1
      have fin : ∀ (cs : Array Value) (el : TypeId) (m : Nat) (y : EO), w.heap[a]? = some (.cells cs el (0, 0)) → o + r.len ≤ m → m ≤ cs.size → ObjD P ρ c y (.cells (lay cs o vs) el (0, 0)) → σ' = σ.set b y →
          ∃ w', (storeCells ⟨a, o, none⟩ vs).run P w = .ok () w' ∧ Stp P ρ σ w ρ σ' w' := by
        intro cs el m y k1 k2 k3 k4 k5
        refine ⟨w.setRow a (lay cs o vs), run_storeCells_at P a o el vs 0 cs w k1 (by omega) one, ?_⟩
        rw [k5]
        exact Stp.set R hk hr (setRow_set k1) k4 rfl rfl rfl
      cases x with
      | c tr m z el op =>
        obtain ⟨cs, k1, k2, k3, k4, k5⟩ := q3
        rw [storeB] at e'
        cases e2 : Nat.ble (Nat.add o r.len) m with
        | false => rw [e2] at e'; cases e'
        | true =>
          rw [e2] at e'
          cases e'
          have e3 : o + r.len ≤ m := Nat.le_of_ble_eq_true e2
          have hrl : r.list.length = r.len := by rw [← Dens_len d.list]; exact hl
          exact fin cs el m _ (by rw [q2, k1]) e3 k2 (laid_D d.list k2 k3 k4 k5 (by omega)) rfl
      | y bs m el op =>
        obtain ⟨cs, k1, k2, k3, k4, k5⟩ := q3
        rw [storeB] at e'
        cases e2 : Nat.ble (Nat.add o r.len) m with
        | false => rw [e2] at e'; cases e'
        | true =>
          rw [e2] at e'
          have e3 : o + r.len ≤ m := Nat.le_of_ble_eq_true e2
          cases e4 : laidY bs m el op o r with
          | none => simp only [e4] at e'; cases e'
          | some y =>
            simp only [e4] at e'
            cases e'
            exact fin cs el m y (by rw [q2, k1]) e3 k2 (laidY_D d e4 k2 k3 k4 k5 e3) rfl
      | m es cl => cases e'
      | it mm s se st => cases e'
      | si s p => cases e'
theorem op_store {o : Oper} {t : TypeId} {a x : Operand} (h : o.op = .store t a x) : OpOk P o (storeF P t a x) := by
  intro ρ tm σ w η v σ' R D e
  have dx := (D x).row
  have da := D a
  rw [storeF] at e
  generalize ev tm a = k at e da
  generalize rowOf (ev tm x) = r at e dx
  cases k with
  | p b off =>
    obtain ⟨g, c, h1, h2⟩ := da.p
    cases e1 : szE P t with
    | none => rw [e1] at e; cases e
    | some n =>
      rw [e1] at e
      cases e2 : Nat.beq r.len n with
      | false => simp only [storeE, e2] at e; cases e
      | true =>
        cases e3 : oneR r with
        | false => simp only [storeE, e2, e3] at e; cases e
        | true =>
          simp only [storeE, e2, e3] at e
          cases e4 : storeN σ b off r with
          | none => rw [e4] at e; cases e
          | some s =>
            rw [e4] at e
            cases e
            obtain ⟨w', g1, g2⟩ := R.store h1 dx e3 e4
            have hn : (η x).cells.size = n := by
              have := RowD.len dx
              rw [Nat.eq_of_beq_eq_true e2] at this
              rw [← this, Array.length_toList]
            refine ⟨ρ, w', .skip, ?_, .inr ⟨rfl, rfl⟩, g2⟩
            rw [execOp, h]
            simp only [h2, Instr.storeAt, Instr.sureAddr, storeVar, Sem.run_bind, Sem.run_pure, Result.andThen, run_sizeE e1, hn, ne_eq, not_true_eq_false, if_false, g1]
  | _ => cases e
end Ev
end Go.Proofs.YtkfhapidoolfdaaGreatDoor

namespace Go.Proofs.YtkfhapidoolfdaaGreatDoor
open Go
namespace Ev
variable {P : Program}

theorem ofConst_D (ρ : Rn) (v : Value) : Den ρ (ofConst v) v := by
  cases v with
  | agg cs =>
    show Den ρ (.a (cs.toList.map EV.s)) _
    simp only [Den]
    exact ⟨cs.toList, Dens.sv _, by rw [Array.toArray_toList]⟩
  | _ => exact Den.sv _
theorem run_zeroE {t : TypeId} {z : EV} (h : zeroE P t = some z) : ∃ v, (∀ w, (zeroValue t).run P w = .ok v w) ∧ ∀ ρ, Den ρ z v := by
  rw [zeroE] at h
  cases e : infoE P t with
  | none => rw [e] at h; cases h
  | some i =>
    rw [e] at h
    simp only at h
    cases e1 : i.zero with
    | none => rw [e1] at h; cases h
    | some v =>
      rw [e1] at h
      cases h
      have e2 := infoE_some e
      exact ⟨v, fun w => by simp [zeroValue, typeInfo, program, Sem.run, e2, e1], fun ρ => ofConst_D ρ v⟩
theorem rowE_D {ρ : Rn} {r : Row} {vs : List Value} (c : Nat) (el : TypeId) (op : Bool) (d : RowD ρ r vs) (h : op = true → ∃ sz, szE P el = some sz ∧ vs.length = c * sz ∧ c ≤ 9223372036854775807) : ObjD P ρ c (rowE el op r) (.cells vs.toArray el (0, 0)) := by
  have hl : vs.length = r.len := RowD.len d
  cases r with
  | l cs =>
    have hl' : vs.length = cs.length := by rw [← lenL_eq cs]; exact hl
    refine ⟨_, rfl, ?_, fun _ => ?_, fun e => ?_, ?_⟩
    · rw [List.size_toArray, lenL_eq]; omega
    · rw [List.size_toArray, lenL_eq]; omega
    · rw [List.size_toArray]; exact h e
    · intro i hi
      rw [lenL_eq] at hi
      obtain ⟨v, g1, g2⟩ := nth_D d hi
      refine ⟨v, by rw [List.getElem?_toArray]; exact g1, ?_⟩
      rw [cellAt, TrV.get_lf]
      show Den ρ (nth cs (Nat.mod i (lenL cs))) v
      rw [nthmod hi]; exact g2
  | y bs n =>
    have hl' : vs.length = n := hl
    refine ⟨_, rfl, ?_, fun _ => ?_, fun e => ?_, ?_⟩
    · rw [List.size_toArray]; omega
    · rw [List.size_toArray]; omega
    · rw [List.size_toArray]; exact h e
    · intro i hi
      rw [List.getElem?_toArray, show vs = unV bs 0 n from d, unV_at bs n 0 i hi, Nat.zero_add]
theorem list_byV {v : Nat} : ∀ {n i : Nat} {vs : List Value}, vs.length = n → (∀ t, t < n → vs[t]? = some (byV v (i + t))) → vs = unV v i n
  | 0, i, vs, h, _ => List.eq_nil_of_length_eq_zero h
  | n + 1, i, [], h, _ => by cases h
  | n + 1, i, x :: vs, h, g => by
    have h0 := g 0 (Nat.succ_pos n)
    rw [unV]
    have hx : x = byV v i := by simpa using h0
    rw [hx, ← list_byV (v := v) (n := n) (i := i + 1) (vs := vs) (by simpa using h) (fun t ht => by
      have := g (t + 1) (by omega)
      rw [List.getElem?_cons_succ] at this
      rw [this, show i + (t + 1) = i + 1 + t by omega])]
theorem rowT_D {ρ : Rn} {r : Row} {vs : List Value} (t : TypeId) (d : RowD ρ r vs) : RowD ρ (rowT P t r) vs := by
  cases r with
  | y bs n => exact d
  | l cs =>
    rw [rowT]
    cases e : byteTy P t with
    | false => exact d
    | true =>
      show RowD ρ (packR (.l cs) (packB 0 0 cs)) vs
      cases e1 : packB 0 0 cs with
      | none => exact d
      | some v =>
        obtain ⟨_, g⟩ := packB_D cs 0 0 v vs e1 (by simp) d
        show vs = unV v 0 (lenL cs)
        have hl := Dens_len d
        rw [lenL_eq]
        exact list_byV hl (fun t ht => g t (by omega))
theorem RowD.mono {ρ ρ' : Rn} (h : Le ρ ρ') {r : Row} {vs : List Value} (d : RowD ρ r vs) : RowD ρ' r vs := by
  cases r with
  | l cs => exact Dens.mono h d
  | y bs n => exact d
theorem Rn.add_self (ρ : Rn) (k a c : Nat) : Rn.add ρ k a c k = some (a, c) := by rw [Rn.add, if_pos rfl]
/-- a block of cells in new memory -/
theorem Rep.row {ρ : Rn} {σ : St} {w : World} (R : Rep P ρ σ w) (c : Nat) (el : TypeId) (cs : Array Value) {x : EO} (hx : ObjD P (Rn.add ρ σ.nx w.heap.size c) c x (.cells cs el (0, 0))) :
    ∃ w', (newRow el cs).run P w = .ok ⟨w.heap.size, 0, none⟩ w' ∧ Stp P ρ σ w (Rn.add ρ σ.nx w.heap.size c) (σ.new x) w' :=
  ⟨{ w with heap := w.heap.push (.cells cs el (0, 0)) }, rfl, Stp.new R rfl hx rfl rfl rfl⟩
theorem Rep.boxed {ρ : Rn} {σ : St} {w : World} (R : Rep P ρ σ w) (t : TypeId) (u : Value) {r : Row} (d : RowD ρ r u.cells.toList) :
    ∃ w', (newVar t u).run P w = .ok ⟨w.heap.size, 0, none⟩ w' ∧ Stp P ρ σ w (Rn.add ρ σ.nx w.heap.size 0) (σ.new (rowE t false r)) w' := by
  refine R.row 0 t u.cells ?_
  have := rowE_D (P := P) 0 t false (RowD.mono (R.le_add w.heap.size 0) d) (fun e => by cases e)
  rwa [Array.toArray_toList] at this
theorem Den.new {ρ : Rn} {σ : St} {w : World} (c : Nat) : Den (Rn.add ρ σ.nx w.heap.size c) (.p σ.nx 0) (.pointer (some ⟨w.heap.size, 0, none⟩)) := by
  simp only [Den]
  exact ⟨_, _, Rn.add_self .., rfl⟩
theorem op_alloc {o : Oper} {t : TypeId} (h : o.op = .alloc t) : OpOk P o (allocF P t) := by
  intro ρ tm σ w η v σ' R D e
  rw [allocF, zeroR] at e
  cases e1 : zeroE P t with
  | none => rw [e1] at e; cases e
  | some z =>
    rw [e1] at e
    cases e
    obtain ⟨u, h1, h2⟩ := run_zeroE e1
    obtain ⟨w', h3, h4⟩ := R.boxed t u (rowT_D t (h2 ρ).row)
    refine ⟨_, w', .value (.pointer (some ⟨w.heap.size, 0, none⟩)), ?_, .inl ⟨_, rfl, Den.new 0⟩, h4⟩
    rw [execOp, h]
    simp only [Instr.alloc, Sem.run_bind, Sem.run_pure, Result.andThen, h1, h3]
theorem op_box {o : Oper} {t : TypeId} {x : Operand} (h : o.op = .box t x) : OpOk P o (boxF P t x) := by
  intro ρ tm σ w η v σ' R D e
  cases e
  obtain ⟨w', h3, h4⟩ := R.boxed t (η x) (rowT_D t (D x).row)
  refine ⟨_, w', .value (.pointer (some ⟨w.heap.size, 0, none⟩)), ?_, .inl ⟨_, rfl, Den.new 0⟩, h4⟩
  rw [execOp, h]
  simp only [Instr.box, Sem.run_bind, Sem.run_pure, Result.andThen, h3]
/-! ### rows with parts laid in -/
theorem over_D {ρ : Rn} : ∀ {cs : List EV} {us : List Value} (n : Nat) {l : List EV} {xs : List Value} {r : List EV}, Dens ρ cs us → Dens ρ l xs → over cs n l = some r →
    n + xs.length ≤ us.length ∧ Dens ρ r (us.take n ++ xs ++ us.drop (n + xs.length))
  | [], us, 0, [], xs, r, d, g, e => by
    cases e
    rw [d.nil, g.nil]
    exact ⟨Nat.le_refl _, Dens.nilm⟩
  | [], us, 0, _ :: _, xs, r, d, g, e => by cases e
  | [], us, n + 1, l, xs, r, d, g, e => by cases l <;> cases e
  | c :: cs, us, 0, [], xs, r, d, g, e => by
    cases e
    rw [g.nil]
    simp only [List.take_zero, List.nil_append, List.length_nil, Nat.add_zero, List.drop_zero]
    exact ⟨Nat.zero_le _, d⟩
  | c :: cs, us, 0, y :: l, xs, r, d, g, e => by
    obtain ⟨u, us', d1, d2, rfl⟩ := d.cons
    obtain ⟨x, xs', g1, g2, rfl⟩ := g.cons
    have e' : consO y (over cs 0 l) = some r := e
    cases e1 : over cs 0 l with
    | none => rw [e1] at e'; cases e'
    | some r' =>
      rw [e1] at e'
      cases e'
      obtain ⟨k1, k2⟩ := over_D 0 d2 g2 e1
      refine ⟨by simp at k1 ⊢; omega, ?_⟩
      simp only [List.take_zero, List.nil_append, Nat.zero_add, List.length_cons, List.drop_succ_cons, List.cons_append] at k2 ⊢
      exact Dens.mk g1 k2
  | c :: cs, us, n + 1, l, xs, r, d, g, e => by
    obtain ⟨u, us', d1, d2, rfl⟩ := d.cons
    have e' : consO c (over cs n l) = some r := e
    cases e1 : over cs n l with
    | none => rw [e1] at e'; cases e'
    | some r' =>
      rw [e1] at e'
      cases e'
      obtain ⟨k1, k2⟩ := over_D n d2 g e1
      refine ⟨by simp at k1 ⊢; omega, ?_⟩
      rw [show n + 1 + xs.length = n + xs.length + 1 by omega, List.take_succ_cons, List.drop_succ_cons, List.cons_append, List.cons_append]
      exact Dens.mk d1 k2
theorem fold_lay (off : Nat) : ∀ (l : List Value) (k : Nat) (cs : Array Value), off + k + l.length ≤ cs.size → (l.zipIdx k).foldl (fun cs x => cs.setIfInBounds (off + x.2) x.1) cs = lay cs (off + k) l
  | [], k, cs, h => by
    apply Array.ext_getElem?
    intro i
    rw [lay_at (by simpa using h), if_neg (by simp)]
    rfl
  | v :: l, k, cs, h => by
    rw [List.zipIdx_cons, List.foldl_cons, fold_lay off l (k + 1) _ (by rw [Array.size_setIfInBounds]; simp at h ⊢; omega)]
    apply Array.ext_getElem?
    intro i
    rw [lay_at (by rw [Array.size_setIfInBounds]; simp at h ⊢; omega), lay_at h, Array.getElem?_setIfInBounds]
    simp only [List.length_cons] at h ⊢
    by_cases g : off + k = i
    · subst g
      rw [if_neg (by omega), if_pos rfl, if_pos (by omega), if_pos (by omega), Nat.sub_self]; rfl
    · by_cases g1 : off + (k + 1) ≤ i ∧ i < off + (k + 1) + l.length
      · rw [if_pos g1, if_pos (by omega), show i - (off + k) = (i - (off + (k + 1))) + 1 by omega, List.getElem?_cons_succ]
      · rw [if_neg g1, if_neg g, if_neg (by omega)]
theorem lay_list (cs : Array Value) (o : Nat) (vs : List Value) : (lay cs o vs).toList = cs.toList.take o ++ vs ++ cs.toList.drop (o + vs.length) := rfl
/-- E's parts beside the model's -/
def PartsD (ρ : Rn) : List (Nat × EV) → List (Nat × Value) → Prop
  | [], l => l = []
  | (i, e) :: es, l => ∃ v r, Den ρ e v ∧ PartsD ρ es r ∧ l = (i, v) :: r
theorem fill_D {ρ : Rn} {pl : Nat → Option (Nat × Nat)} {pm : Nat → Option (Nat × Nat)} (hp : ∀ i x, pl i = some x → pm i = some x) : ∀ {ps : List (Nat × EV)} {qs : List (Nat × Value)} {cs r : List EV} {us : Array Value}, PartsD ρ ps qs → Dens ρ cs us.toList → fillE pl cs ps = some r →
    ∃ us' : Array Value, Instr.fill pm us qs = some us' ∧ Dens ρ r us'.toList
  | [], qs, cs, r, us, g, d, e => by
    cases e
    rw [show qs = [] from g]
    exact ⟨us, rfl, d⟩
  | (i, x) :: ps, qs, cs, r, us, g, d, e => by
    obtain ⟨v, q, g1, g2, rfl⟩ := g
    rw [fillE] at e
    cases e1 : pl i with
    | none => rw [e1] at e; cases e
    | some os =>
      obtain ⟨off, size⟩ := os
      rw [e1] at e
      simp only at e
      cases e2 : Nat.beq (lenL (cellsE x)) size with
      | false => rw [e2] at e; cases e
      | true =>
        rw [e2] at e
        simp only at e
        have dx : Dens ρ (cellsE x) v.cells.toList := g1.row.list
        have hs : v.cells.size = size := by
          have := Dens_len dx
          rw [← lenL_eq (cellsE x), Nat.eq_of_beq_eq_true e2, Array.length_toList] at this
          exact this
        cases e3 : over cs off (cellsE x) with
        | none => rw [e3] at e; cases e
        | some cs' =>
          rw [e3] at e
          simp only at e
          obtain ⟨k1, k2⟩ := over_D off d dx e3
          rw [Array.length_toList, Array.length_toList] at k1
          have hf : v.cells.zipIdx.foldl (fun cs (x : Value × Nat) => cs.setIfInBounds (off + x.2) x.1) us = lay us off v.cells.toList := by
            have := fold_lay off v.cells.toList 0 us (by rw [Array.length_toList]; omega)
            rw [Nat.add_zero] at this
            rw [← this, ← Array.foldl_toList, Array.toList_zipIdx]
          have := fill_D hp (pm := pm) (us := lay us off v.cells.toList) g2 (by rw [lay_list]; exact k2) e
          obtain ⟨us', j1, j2⟩ := this
          refine ⟨us', ?_, j2⟩
          rw [Instr.fill, hp i _ e1]
          simp only [hs, ne_eq, not_true_eq_false, decide_false, Bool.false_or]
          rw [if_neg (by simp; omega), ← j1, ← hf]
theorem parts_D {ρ : Rn} {tm : TrV} {η : Operand → Value} (D : ∀ x, Den ρ (ev tm x) (η x)) : ∀ l : List (Nat × Operand), PartsD ρ (evParts tm l) (l.map fun x => (x.1, η x.2))
  | [] => rfl
  | (_, x) :: l => ⟨η x, _, D x, parts_D D l, rfl⟩
/-- all fields of the structs that the table knows have sizes -/
def StrOk (P : Program) : Prop := ∀ t fs, underE P t = some (.struct fs) → ∀ f ∈ fs.toList, ∃ n, szE P f.type = some n
theorem run_mapM {α β : Type} (f : α → Sem β) (g : α → β) (w : World) : ∀ l : List α, (∀ x ∈ l, (f x).run P w = .ok (g x) w) → (l.mapM f).run P w = .ok (l.map g) w
  | [], _ => rfl
  | x :: l, h => by
    rw [List.mapM_cons, Sem.run_bind, h x (List.mem_cons_self ..)]
    simp only [Result.andThen, Sem.run_bind, run_mapM f g w l (fun y hy => h y (List.mem_cons_of_mem _ hy)), Sem.run_pure, List.map_cons]
theorem run_mapMA {α β : Type} (f : α → Sem β) (g : α → β) (w : World) (a : Array α) (h : ∀ x ∈ a.toList, (f x).run P w = .ok (g x) w) : (a.mapM f).run P w = .ok (a.map g) w := by
  rw [Array.mapM_eq_mapM_toList, map_eq_pure_bind, Sem.run_bind, run_mapM f g w a.toList h]
  simp only [Result.andThen, Sem.run_pure]
  rw [← Array.toList_map, Array.toArray_toList]
theorem op_build (hP : StrOk P) {o : Oper} {t : TypeId} {parts : Array (Nat × Operand)} (h : o.op = .build t parts) : OpOk P o (buildF P t parts.toList) := by
  intro ρ tm σ w η v σ' R D e
  rw [buildF] at e
  cases e1 : zeroE P t with
  | none => rw [e1] at e; cases e
  | some z =>
    rw [e1] at e
    obtain ⟨u, h1, h2⟩ := run_zeroE e1
    have dz : Dens ρ (cellsE z) u.cells.toList := (h2 ρ).row.list
    have dp := parts_D D parts.toList
    have hq : (parts.map fun (x : Nat × Operand) => (x.1, η x.2)).toList = parts.toList.map fun x => (x.1, η x.2) := Array.toList_map
    have fin : ∀ (pl pm : Nat → Option (Nat × Nat)), (∀ i x, pl i = some x → pm i = some x) → aggOf σ (fillE pl (cellsE z) (evParts tm parts.toList)) = some (v, σ') →
        ∃ us' : Array Value, Instr.fill pm u.cells (parts.map fun (x : Nat × Operand) => (x.1, η x.2)).toList = some us' ∧ Den ρ v (.agg us') ∧ σ' = σ := by
      intro pl pm hp e3
      cases e4 : fillE pl (cellsE z) (evParts tm parts.toList) with
      | none => rw [e4] at e3; cases e3
      | some r =>
        rw [e4] at e3
        cases e3
        obtain ⟨us', k1, k2⟩ := fill_D hp dp dz e4
        refine ⟨us', by rw [hq]; exact k1, ?_, rfl⟩
        simp only [Den]
        exact ⟨_, k2, by rw [Array.toArray_toList]⟩
    cases e2 : underE P t with
    | none => rw [e2] at e; cases e
    | some d =>
      rw [e2] at e
      cases d with
      | struct fs =>
        have hs := hP t fs e2
        obtain ⟨us', k1, k2, k3⟩ := fin (placeF P fs) (fun i => (fs.map fun (f : Field) => (f.offset, (szE P f.type).getD 0))[i]?) (by
          intro i x hx
          rw [placeF] at hx
          cases e3 : fs[i]? with
          | none => rw [e3] at hx; cases hx
          | some f =>
            rw [e3] at hx
            simp only at hx
            cases e4 : szE P f.type with
            | none => rw [e4] at hx; cases hx
            | some n =>
              rw [e4] at hx
              cases hx
              rw [Array.getElem?_map, e3]
              simp [e4]) e
        subst k3
        refine ⟨ρ, w, .value (.agg us'), ?_, .inl ⟨_, rfl, k2⟩, Stp.refl R⟩
        have hm : (fs.mapM fun (f : Field) => do pure (f.offset, ← sizeOf f.type)).run P w = .ok (fs.map fun (f : Field) => (f.offset, (szE P f.type).getD 0)) w := by
          apply run_mapMA
          intro f hf
          obtain ⟨n, hn⟩ := hs f hf
          simp only [Sem.run_bind, run_sizeE hn, Result.andThen, Sem.run_pure, hn, Option.getD_some]
        rw [execOp, h]
        simp only [Instr.build, Sem.run_bind, h1, run_underE e2, hm, k1, Result.andThen, Sem.run_pure]
      | array n el =>
        cases e3 : szE P el with
        | none => simp only [buildE, buildA, e3] at e; cases e
        | some m =>
          simp only [buildE, buildA, e3] at e
          obtain ⟨us', k1, k2, k3⟩ := fin (rowPlace m) (fun i => some (i * m, m)) (fun i x hx => hx) e
          subst k3
          refine ⟨ρ, w, .value (.agg us'), ?_, .inl ⟨_, rfl, k2⟩, Stp.refl R⟩
          rw [execOp, h]
          simp only [Instr.build, Sem.run_bind, h1, run_underE e2, run_sizeE e3, k1, Result.andThen, Sem.run_pure]
      | _ => cases e
/-- zeros, n times -/
theorem repl_len (z : List EV) : ∀ n, (repl z n).length = n * z.length
  | 0 => by show ([] : List EV).length = _; simp
  | n + 1 => by
    show (appL z (repl z n)).length = _
    rw [appL_eq, List.length_append, repl_len z n, Nat.succ_mul, Nat.add_comm]
theorem repl_D {ρ : Rn} {z : List EV} {zs : List Value} (d : Dens ρ z zs) : ∀ n, Dens ρ (repl z n) (List.replicate n zs).flatten
  | 0 => Dens.nilm
  | n + 1 => by
    show Dens ρ (appL z (repl z n)) _
    rw [List.replicate_succ, List.flatten_cons]
    exact Dens.app d (repl_D d n)
theorem flat_at (zs : List Value) (hz : 0 < zs.length) : ∀ (n i : Nat), i < n * zs.length → (List.replicate n zs).flatten[i]? = zs[i % zs.length]?
  | 0, i, h => by omega
  | n + 1, i, h => by
    rw [List.replicate_succ, List.flatten_cons]
    by_cases g : i < zs.length
    · rw [List.getElem?_append_left g, Nat.mod_eq_of_lt g]
    · rw [List.getElem?_append_right (by omega), flat_at zs hz n (i - zs.length) (by rw [Nat.add_mul, Nat.one_mul] at h; omega)]
      rw [show i % zs.length = (i - zs.length) % zs.length from Nat.mod_eq_sub_mod (by omega)]
theorem zeros_list (z : Array Value) (n m : Nat) (hz : z.size = m) : ((Array.range (n * m)).map (z[· % z.size]!)).toList = (List.replicate n z.toList).flatten := by
  by_cases hm : m = 0
  · subst hm
    have : z.toList = [] := List.eq_nil_of_length_eq_zero (by rw [Array.length_toList]; exact hz)
    rw [this]
    simp
  · apply List.ext_getElem?
    intro i
    rw [Array.getElem?_toList, Array.getElem?_map]
    by_cases h : i < n * m
    · rw [flat_at z.toList (by rw [Array.length_toList]; omega) n i (by rw [Array.length_toList, hz]; exact h), Array.getElem?_toList, Array.length_toList]
      have h1 : i % z.size < z.size := Nat.mod_lt _ (by omega)
      simp [h, h1, getElem!_pos]
    · rw [Array.getElem?_eq_none (by simp; omega), List.getElem?_eq_none (by simp [hz]; omega)]; rfl
theorem op_buildSlice {o : Oper} {t : TypeId} {len : Nat} {parts : Array (Nat × Operand)} (h : o.op = .buildSlice t len parts) : OpOk P o (buildSliceF P t len parts.toList) := by
  intro ρ tm σ w η v σ' R D e
  rw [buildSliceF] at e
  cases e1 : underE P t with
  | none => rw [e1] at e; cases e
  | some d =>
    rw [e1] at e
    cases d with
    | slice el =>
      have e' : buildSliceE P el len (evParts tm parts.toList) σ (zeroRow P el len) = some (v, σ') := e
      cases e2 : zeroE P el with
      | none => simp only [zeroRow, e2] at e'; cases e'
      | some z =>
        cases e3 : szE P el with
        | none => simp only [zeroRow, e2, e3] at e'; cases e'
        | some n =>
          cases e4 : (Nat.beq (lenL (cellsE z)) n && Nat.ble (len * n) 60000) with
          | false => simp only [zeroRow, e2, e3, e4] at e'; cases e'
          | true =>
            simp only [zeroRow, e2, e3, e4, buildSliceE] at e'
            obtain ⟨e5, e6⟩ := Bool.and_eq_true_iff.1 e4
            have e5 := Nat.eq_of_beq_eq_true e5
            have e6 := Nat.le_of_ble_eq_true e6
            obtain ⟨u, h1, h2⟩ := run_zeroE e2
            have dz : Dens ρ (cellsE z) u.cells.toList := (h2 ρ).row.list
            have hz : u.cells.size = n := by
              have := Dens_len dz
              rw [← lenL_eq (cellsE z), e5, Array.length_toList] at this
              exact this
            have dr := repl_D dz len
            rw [← zeros_list u.cells len n hz] at dr
            cases e7 : fillE (rowPlace n) (repl (cellsE z) len) (evParts tm parts.toList) with
            | none => rw [e7] at e'; cases e'
            | some r =>
              rw [e7] at e'
              cases e'
              obtain ⟨us', k1, k2⟩ := fill_D (pm := fun i => some (i * n, n)) (fun i x hx => hx) (parts_D D parts.toList) dr e7
              have hq : (parts.map fun (x : Nat × Operand) => (x.1, η x.2)).toList = parts.toList.map fun x => (x.1, η x.2) := Array.toList_map
              have dt : RowD ρ (rowT P el (.l r)) us'.toList := rowT_D el k2
              have hx := rowE_D (P := P) 0 el false (RowD.mono (R.le_add w.heap.size 0) dt) (fun e => by cases e)
              rw [Array.toArray_toList] at hx
              obtain ⟨w', g1, g2⟩ := R.row 0 el us' hx
              refine ⟨_, w', .value (.slice (some ⟨w.heap.size, 0, none⟩) len len), ?_, .inl ⟨_, rfl, ?_⟩, g2⟩
              · rw [execOp, h]
                have hne : ¬ len * n > 2 ^ 24 := by omega
                by_cases g : len * n = 0
                · have hf : Instr.fill (fun i => some (i * n, n)) ((Array.range (len * n)).map ((#[] : Array Value)[· % (#[] : Array Value).size]!)) (parts.map fun (x : Nat × Operand) => (x.1, η x.2)).toList = some us' := by
                    rw [hq, ← k1]
                    congr 1
                    rw [g]; simp
                  simp only [Instr.buildSlice, Sem.run_bind, run_underE e1, run_sizeE e3, Result.andThen, if_neg hne, if_pos g, Sem.run_pure, hf, g1]
                · rw [← hq] at k1
                  simp only [Instr.buildSlice, Sem.run_bind, run_underE e1, run_sizeE e3, Result.andThen, if_neg hne, if_neg g, Sem.run_pure, h1, k1, g1]
              · simp only [Den]
                exact ⟨_, _, Rn.add_self .., rfl⟩
    | _ => cases e
theorem op_makeMap {o : Oper} {t : TypeId} {r : Option Operand} (h : o.op = .makeMap t r) : OpOk P o (mkMapF r) := by
  intro ρ tm σ w η v σ' R D e
  cases r with
  | some x => cases e
  | none =>
    cases e
    refine ⟨_, { w with heap := w.heap.push (.map #[] 0) }, .value (.map (some w.heap.size)), ?_, .inl ⟨_, rfl, ?_⟩, Stp.new (c := 0) R rfl ⟨[], rfl, rfl⟩ rfl rfl rfl⟩
    · rw [execOp, h]; rfl
    · simp only [Den]
      exact ⟨_, _, Rn.add_self .., rfl⟩
end Ev
end Go.Proofs.YtkfhapidoolfdaaGreatDoor
