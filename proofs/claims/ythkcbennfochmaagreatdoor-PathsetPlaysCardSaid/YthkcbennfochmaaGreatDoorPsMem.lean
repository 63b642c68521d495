/-
  MEMORY: layer 5: a set in memory: its tree of branches, each with a map of entries and a map of children, and the map of where each entry lies. New, Len.
-/
import Derived.Test.YthkcbennfochmaaGreatDoorPsTree
import Derived.Test.YthkcbennfochmaaGreatDoorPsSplit
import Derived.Test.YthkcbennfochmaaGreatDoorKeyIS
import Derived.Test.YthkcbennfochmaaGreatDoorBlk
namespace Go.Proofs.YthkcbennfochmaaGreatDoor
open Go.RowKit Go.Maps

def iK : KeyT Tryz.prog 3 Int where
  K := int_keyed Tryz.underlying3
  kv x := .int .i64 x
  kl x := .int .i64 x
  ok x := (Lit.int .i64 x).wf = true
  of := (intK Tryz.underlying3).of
  inj := (intK Tryz.underlying3).inj
  inv := (intK Tryz.underlying3).inv
def sK : KeyT Tryz.prog 9 ByteArray where
  K := string_keyed Tryz.underlying9
  kv x := .string x
  kl x := .string x.data.toList
  ok x := x.size ≤ maxLen
  of := (strK Tryz.underlying9).of
  inj := (strK Tryz.underlying9).inj
  inv := (strK Tryz.underlying9).inv
def aggE (e : Ent) : Value := .agg #[.int .i64 e.id, .string e.path, .int .i64 e.mode, .int .i64 e.who]
def segOf (s : Seg) : ByteArray := ⟨s.toArray⟩
def kidV (m : Nd) : ByteArray × Value := (segOf (m.pre.getLastD []), .pointer (some ⟨m.b, 0, none⟩))
def entV (e : Ent) : Int × Value := (e.id, aggE e)
def whV (e : Ent) : Int × Value := (e.id, .string e.path)
abbrev objBr (em cm : Nat) : Obj := .cells #[.map (some em), .map (some cm)] 71 (0, 0)
abbrev objSet (rb wb : Nat) : Obj := .cells #[.pointer (some ⟨rb, 0, none⟩), .map (some wb)] 51 (0, 0)
def blksN (N : List Nd) : List Nat := N.flatMap fun n => [n.b, n.em, n.cm]
/-- a place in memory -/
structure NdM (w : World) (N : List Nd) (l : List Ent) (n : Nd) : Prop where
  blk : w.heap[n.b]? = some (objBr n.em n.cm)
  em : MapL iK w n.em ((entsOf l n.pre).map entV)
  cm : MapL sK w n.cm ((kidsOf N n.pre).map kidV)
def entOk (e : Ent) : Prop := pathOk e.bs = true ∧ (e.mode = 1 ∨ e.mode = 2)
/-- the set at sb stands for the entries l, in whatever order they came -/
structure SetM (w : World) (sb wb : Nat) (N : List Nd) (l : List Ent) : Prop where
  blk : ∃ r, r ∈ N ∧ r.pre = [] ∧ w.heap[sb]? = some (objSet r.b wb)
  nd : ∀ n, n ∈ N → NdM w N l n
  wh : MapL iK w wb (l.map whV)
  apart : (sb :: wb :: blksN N).Nodup
  tr : TrP N l
  pr : Pruned N l
  ids : l.Pairwise fun a b => a.id ≠ b.id
  ok : ∀ e, e ∈ l → entOk e
  small : l.length ≤ 64
theorem mem_blks {N : List Nd} {n : Nd} (h : n ∈ N) : n.b ∈ blksN N ∧ n.em ∈ blksN N ∧ n.cm ∈ blksN N := by
  unfold blksN
  refine ⟨List.mem_flatMap.2 ⟨n, h, by simp⟩, List.mem_flatMap.2 ⟨n, h, by simp⟩, List.mem_flatMap.2 ⟨n, h, by simp⟩⟩
theorem SetM.lt {w : World} {sb wb : Nat} {N : List Nd} {l : List Ent} (h : SetM w sb wb N l) : ∀ k, k ∈ sb :: wb :: blksN N → k < w.heap.size := by
  intro k hk
  rcases List.mem_cons.1 hk with e | hk
  · obtain ⟨r, _, _, hb⟩ := h.blk
    rw [e]; exact lt_of_block hb
  · rcases List.mem_cons.1 hk with e | hk
    · rw [e]; exact h.wh.lt
    · obtain ⟨n, hn, hx⟩ := List.mem_flatMap.1 hk
      have q := h.nd n hn
      simp only [List.mem_cons, List.not_mem_nil, or_false] at hx
      rcases hx with e | e | e
      · rw [e]; exact lt_of_block q.blk
      · rw [e]; exact q.em.lt
      · rw [e]; exact q.cm.lt
theorem NdM.mod {w w' : World} {N : List Nd} {l : List Ent} {n : Nd} (h : NdM w N l n) {S : List Nat} (m : Mod S w w') (h1 : n.b ∉ S) (h2 : n.em ∉ S) (h3 : n.cm ∉ S) : NdM w' N l n := ⟨m.at_ h.blk h1, h.em.mod m h2, h.cm.mod m h3⟩
theorem SetM.mod {w w' : World} {sb wb : Nat} {N : List Nd} {l : List Ent} (h : SetM w sb wb N l) {S : List Nat} (m : Mod S w w') (hS : ∀ k, k ∈ sb :: wb :: blksN N → k ∉ S) : SetM w' sb wb N l := by
  refine ⟨?_, fun n hn => ?_, h.wh.mod m (hS wb (by simp)), h.apart, h.tr, h.pr, h.ids, h.ok, h.small⟩
  · obtain ⟨r, h1, h2, h3⟩ := h.blk
    exact ⟨r, h1, h2, m.at_ h3 (hS sb (by simp))⟩
  · obtain ⟨x1, x2, x3⟩ := mem_blks hn
    exact (h.nd n hn).mod m (hS _ (by simp [x1])) (hS _ (by simp [x2])) (hS _ (by simp [x3]))
theorem SetM.same {w w' : World} {sb wb : Nat} {N : List Nd} {l : List Ent} (h : SetM w sb wb N l) (m : Mod [] w w') : SetM w' sb wb N l := h.mod m (by simp)
/-- a set that is as it was, or of which blocks of its own and new ones have changed -/
structure SetTo (w : World) (sb wb : Nat) (N : List Nd) (w' : World) (N' : List Nd) : Prop where
  mod : Mod (wb :: blksN N) w w'
  own : ∀ k, k ∈ blksN N' → k ∈ blksN N ∨ w.heap.size ≤ k
/-! ### New, Len -/
def rootN (b : Nat) (em cm : Nat) : Nd := ⟨[], b, em, cm⟩
theorem set_new {w : World} {sb wb b em cm : Nat} (h1 : w.heap[sb]? = some (objSet b wb)) (h2 : w.heap[b]? = some (objBr em cm)) (h3 : MapL iK w em []) (h4 : MapL sK w cm []) (h5 : MapL iK w wb []) (h6 : [sb, wb, b, em, cm].Nodup) : SetM w sb wb [rootN b em cm] [] := by
  refine ⟨⟨rootN b em cm, by simp, rfl, h1⟩, fun n hn => ?_, h5, by simpa [blksN, rootN] using h6, ⟨by simp, ⟨rootN b em cm, by simp, rfl⟩, fun n hn hne => ?_, by simp⟩, fun n hn hne => ?_, List.Pairwise.nil, by simp, by simp⟩
  · rw [List.mem_singleton.1 hn]
    exact ⟨h2, h3, h4⟩
  · rw [List.mem_singleton.1 hn] at hne; exact absurd rfl hne
  · rw [List.mem_singleton.1 hn] at hne; exact absurd rfl hne
theorem grown_any (w : World) : Calls Tryz.prog 17 #[] w fun e w' => e = .returned (.pointer (some ⟨w.heap.size + 2, 0, none⟩)) ∧ w' = ((w.alloc (.map #[] 0)).alloc (.map #[] 0)).alloc (objBr w.heap.size (w.heap.size + 1)) := by
  have hmm := @run_makeMap Tryz.prog
  go_enter Tryz.func17, Tryz.ntmps17
  go_wp2
  go_ret
  exact ⟨rfl, rfl⟩
/-- the three blocks of a branch that is new -/
theorem grown_mem (w : World) : (((w.alloc (.map #[] 0)).alloc (.map #[] 0)).alloc (objBr w.heap.size (w.heap.size + 1))).heap[w.heap.size + 2]? = some (objBr w.heap.size (w.heap.size + 1)) ∧
    MapL iK (((w.alloc (.map #[] 0)).alloc (.map #[] 0)).alloc (objBr w.heap.size (w.heap.size + 1))) w.heap.size [] ∧ MapL sK (((w.alloc (.map #[] 0)).alloc (.map #[] 0)).alloc (objBr w.heap.size (w.heap.size + 1))) (w.heap.size + 1) [] := by
  have e1 : (w.alloc (.map #[] 0)).heap.size = w.heap.size + 1 := by simp
  have e2 : ((w.alloc (.map #[] 0)).alloc (.map #[] 0)).heap.size = w.heap.size + 2 := by simp
  have hb := heap_alloc_new ((w.alloc (.map #[] 0)).alloc (.map #[] 0)) (objBr w.heap.size (w.heap.size + 1))
  rw [e2] at hb
  have m0 : MapL iK (w.alloc (.map #[] 0)) w.heap.size [] := MapL.made w
  have m1 : MapL sK ((w.alloc (.map #[] 0)).alloc (.map #[] 0)) (w.alloc (.map #[] 0)).heap.size [] := MapL.made _
  rw [e1] at m1
  exact ⟨hb, m0.mod ((((Gr.refl _).alloc _).alloc _).mod []) (by simp), m1.mod (((Gr.refl _).alloc _).mod []) (by simp)⟩
set_option maxRecDepth 100000 in
theorem snew_any (w : World) : Calls Tryz.prog 5 #[] w fun e w' => ∃ sb wb N, e = .returned (.pointer (some ⟨sb, 0, none⟩)) ∧ SetM w' sb wb N [] ∧ (∀ k, k ∈ sb :: wb :: blksN N → w.heap.size ≤ k) ∧ Gr w w' := by
  have hmm := @run_makeMap Tryz.prog
  obtain ⟨h1, h2, h3⟩ := grown_mem w
  have hg := (((Gr.refl w).alloc (.map #[] 0)).alloc (.map #[] 0)).alloc (objBr w.heap.size (w.heap.size + 1))
  have hsz : (((w.alloc (.map #[] 0)).alloc (.map #[] 0)).alloc (objBr w.heap.size (w.heap.size + 1))).heap.size = w.heap.size + 3 := by simp
  go_enter Tryz.func5, Tryz.ntmps5
  go_wp2_with fail
  refine (grown_any w).mono ?_
  rintro e w1 ⟨rfl, hw1⟩
  rw [← hw1] at h1 h2 h3 hg hsz
  have HX := hide (And.intro h1 (And.intro h2 (And.intro h3 hg)))
  have HS := hide hsz
  clear hw1 h1 h2 h3 hg hsz
  go_wp2
  go_ret
  obtain ⟨h1, h2, h3, hg⟩ := HX.out
  have hsz := HS.out
  have m0 : MapL iK (w1.alloc (.map #[] 0)) w1.heap.size [] := MapL.made w1
  have e1 : (w1.alloc (.map #[] 0)).heap.size = w1.heap.size + 1 := by simp
  have hb := heap_alloc_new (w1.alloc (.map #[] 0)) (objSet (w.heap.size + 2) w1.heap.size)
  rw [e1] at hb
  have g2 := ((Gr.refl w1).alloc (.map #[] 0)).alloc (objSet (w.heap.size + 2) w1.heap.size)
  refine ⟨w1.heap.size + 1, w1.heap.size, [rootN (w.heap.size + 2) w.heap.size (w.heap.size + 1)], rfl, set_new hb ((g2.mod []).at_ h1 (by simp)) (h2.mod (g2.mod []) (by simp)) (h3.mod (g2.mod []) (by simp)) (m0.mod (((Gr.refl _).alloc _).mod []) (by simp)) ?_, ?_, hg.trans g2⟩
  · simp only [List.nodup_cons, List.mem_cons, List.not_mem_nil, or_false, not_or]
    refine ⟨⟨?_, ?_, ?_, ?_⟩, ⟨?_, ?_, ?_⟩, ⟨?_, ?_⟩, ?_, ?_⟩ <;> first | omega | simp
  · intro k hk
    simp [blksN, rootN] at hk
    omega
set_option maxRecDepth 100000 in
theorem slen_any {w : World} {sb wb : Nat} {N : List Nd} {l : List Ent} (h : SetM w sb wb N l) : Calls Tryz.prog 7 #[.pointer (some ⟨sb, 0, none⟩)] w fun e w' => e = .returned (.int .i64 l.length) ∧ w' = w := by
  obtain ⟨r, -, -, hb⟩ := h.blk
  have C := blk_cell hb
  have hw := h.wh
  clear h hb
  go_enter Tryz.func7, Tryz.ntmps7
  go_wp2_with (
    at_len
    refine wpList_len_L (T := iK) _ rfl _ rfl Tryz.underlying49 rfl hw ?_)
  go_wp2_with fail
  go_ret
  exact ⟨by simp, rfl⟩
set_option maxRecDepth 100000 in
theorem slen_nil (w : World) : Calls Tryz.prog 7 #[.pointer none] w fun e w' => e = .returned (.int .i64 0) ∧ w' = w := by
  go_enter Tryz.func7, Tryz.ntmps7
  go_wp2_with fail
  go_ret
  exact ⟨rfl, rfl⟩
end Go.Proofs.YthkcbennfochmaaGreatDoor
