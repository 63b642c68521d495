/-
  MEMORY LAWS: layer 5: the tree grows by a place, takes an entry.
-/
import Derived.Test.YthkcbennfochmaaGreatDoorPsMem
namespace Go.Proofs.YthkcbennfochmaaGreatDoor
open Go.RowKit Go.Maps

/-- the tree alone, pruned or not -/
structure TreeM (w : World) (N : List Nd) (l : List Ent) : Prop where
  nd : ∀ n, n ∈ N → NdM w N l n
  apart : (blksN N).Nodup
  tr : TrP N l
theorem SetM.tree {w : World} {sb wb : Nat} {N : List Nd} {l : List Ent} (h : SetM w sb wb N l) : TreeM w N l := ⟨h.nd, (List.nodup_cons.1 (List.nodup_cons.1 h.apart).2).2, h.tr⟩
theorem segOf_inj {a b : Seg} (h : segOf a = segOf b) : a = b := by
  have := congrArg (fun x : ByteArray => x.data.toList) h
  simpa [segOf] using this
theorem snoc_last {p : List Seg} {x : Seg} {m : List Seg} (h : m = p ++ [x]) : m ≠ [] ∧ m.dropLast = p ∧ m.getLastD [] = x := by
  subst h
  refine ⟨by simp, by simp, ?_⟩
  rw [List.getLastD_eq_getLast?]
  simp
theorem kid_some {w : World} {cm : Nat} {N : List Nd} {p : List Seg} (h : MapL sK w cm ((kidsOf N p).map kidV)) {n : Nd} {x : Seg} (hn : n ∈ N) (hp : n.pre = p ++ [x]) : getM ((kidsOf N p).map kidV) (segOf x) = some (.pointer (some ⟨n.b, 0, none⟩)) := by
  obtain ⟨h1, h2, h3⟩ := snoc_last hp
  refine getM_some h.one (List.mem_map.2 ⟨n, mem_kids.2 ⟨hn, h1, h2⟩, ?_⟩)
  unfold kidV
  rw [h3]
theorem kid_fresh {N : List Nd} {p : List Seg} {x : Seg} (hno : ∀ n, n ∈ N → n.pre ≠ p ++ [x]) : ∀ q, q ∈ (kidsOf N p).map kidV → q.1 ≠ segOf x := by
  intro q hq e
  obtain ⟨m, hm, rfl⟩ := List.mem_map.1 hq
  obtain ⟨y, hy⟩ := kid_pre hm
  obtain ⟨-, -, h3⟩ := snoc_last hy
  have : y = x := by
    have e' : segOf (m.pre.getLastD []) = segOf x := e
    rw [h3] at e'
    exact segOf_inj e'
  exact hno m (mem_kids.1 hm).1 (by rw [hy, this])
theorem kid_none {N : List Nd} {p : List Seg} {x : Seg} (hno : ∀ n, n ∈ N → n.pre ≠ p ++ [x]) : getM ((kidsOf N p).map kidV) (segOf x) = none := getM_none (kid_fresh hno)
theorem TreeM.lt {w : World} {N : List Nd} {l : List Ent} (h : TreeM w N l) : ∀ k, k ∈ blksN N → k < w.heap.size := by
  intro k hk
  obtain ⟨n, hn, hx⟩ := List.mem_flatMap.1 hk
  have q := h.nd n hn
  simp only [List.mem_cons, List.not_mem_nil, or_false] at hx
  rcases hx with e | e | e
  · rw [e]; exact lt_of_block q.blk
  · rw [e]; exact q.em.lt
  · rw [e]; exact q.cm.lt
theorem TreeM.mod {w w' : World} {N : List Nd} {l : List Ent} (h : TreeM w N l) {S : List Nat} (m : Mod S w w') (hS : ∀ k, k ∈ blksN N → k ∉ S) : TreeM w' N l :=
  ⟨fun n hn => by
    obtain ⟨x1, x2, x3⟩ := mem_blks hn
    exact (h.nd n hn).mod m (hS _ x1) (hS _ x2) (hS _ x3), h.apart, h.tr⟩
theorem blks_cons (z : Nd) (r : List Nd) : blksN (z :: r) = [z.b, z.em, z.cm] ++ blksN r := by simp [blksN]
theorem mem_blks3 {N : List Nd} {n : Nd} (h : n ∈ N) {c : Nat} (hc : c ∈ [n.b, n.em, n.cm]) : c ∈ blksN N := List.mem_flatMap.2 ⟨n, h, hc⟩
theorem blks_apart {N : List Nd} : (blksN N).Nodup → ∀ n, n ∈ N → ∀ q, q ∈ N → n.pre ≠ q.pre → ∀ a, a ∈ [n.b, n.em, n.cm] → ∀ c, c ∈ [q.b, q.em, q.cm] → a ≠ c := by
  induction N with
  | nil => intro _ n hn; cases hn
  | cons z r ih =>
    intro hd n hn q hq hne a ha c hc
    rw [blks_cons, List.nodup_append] at hd
    obtain ⟨h1, h2, h3⟩ := hd
    rcases List.mem_cons.1 hn with e1 | e1 <;> rcases List.mem_cons.1 hq with e2 | e2
    · exact absurd (by rw [e1, e2]) hne
    · subst e1; exact h3 a ha c (mem_blks3 e2 hc)
    · subst e2; exact fun e => h3 c hc a (mem_blks3 e1 ha) e.symm
    · exact ih h2 n e1 q e2 hne a ha c hc
theorem blks_own {N : List Nd} : (blksN N).Nodup → ∀ n, n ∈ N → [n.b, n.em, n.cm].Nodup := by
  induction N with
  | nil => intro _ n hn; cases hn
  | cons z r ih =>
    intro hd n hn
    rw [blks_cons, List.nodup_append] at hd
    rcases List.mem_cons.1 hn with e1 | e1
    · subst e1; exact hd.1
    · exact ih hd.2.1 n e1
theorem own3 {a b c : Nat} (h : [a, b, c].Nodup) : a ≠ b ∧ a ≠ c ∧ b ≠ c := by
  simp only [List.nodup_cons, List.mem_cons, List.not_mem_nil, or_false, not_or] at h
  exact ⟨h.1.1, h.1.2, h.2.1⟩
theorem delM_self {κ : Type} [DecidableEq κ] {L : List (κ × Value)} {x : κ} (h : ∀ q, q ∈ L → q.1 ≠ x) : delM L x = L := List.filter_eq_self.2 fun q hq => by simpa using h q hq
/-- the tree grows by the place under q by the segment x: its three blocks are new, q's map of children takes it -/
theorem TreeM.grow {w w2 : World} {N : List Nd} {l : List Ent} (h : TreeM w N l) {q : Nd} (hq : q ∈ N) {x : Seg} (hno : ∀ n, n ∈ N → n.pre ≠ q.pre ++ [x])
    (h2 : MapL sK w2 q.cm (setM ((kidsOf N q.pre).map kidV) (segOf x) (.pointer (some ⟨w.heap.size + 2, 0, none⟩))))
    (hg : (((w.alloc (.map #[] 0)).alloc (.map #[] 0)).alloc (objBr w.heap.size (w.heap.size + 1))).grownBy w2 (some q.cm)) :
    TreeM w2 (⟨q.pre ++ [x], w.heap.size + 2, w.heap.size, w.heap.size + 1⟩ :: N) l ∧ Mod [q.cm] w w2 := by
  obtain ⟨b1, b2, b3⟩ := grown_mem w
  have hlt := h.lt
  have g1 := (((Gr.refl w).alloc (.map #[] 0)).alloc (.map #[] 0)).alloc (objBr w.heap.size (w.heap.size + 1))
  have m1 : Mod [q.cm] _ w2 := (Mod.refl [q.cm] (((w.alloc (.map #[] 0)).alloc (.map #[] 0)).alloc (objBr w.heap.size (w.heap.size + 1)))).grown hg (fun k e _ => by simp at e; simp [e])
  have m : Mod [q.cm] w w2 := (g1.mod [q.cm]).then m1
  obtain ⟨hqb, hqe, hqc⟩ := mem_blks hq
  have hql := hlt _ hqc
  have hpre : ∀ p, p ≠ q.pre → kidsOf (⟨q.pre ++ [x], w.heap.size + 2, w.heap.size, w.heap.size + 1⟩ :: N) p = kidsOf N p := fun p hp => by
    rw [kids_cons, if_neg (fun y => hp (by have := y.2; simpa using this.symm))]
  have hkq : kidsOf (⟨q.pre ++ [x], w.heap.size + 2, w.heap.size, w.heap.size + 1⟩ :: N) q.pre = ⟨q.pre ++ [x], w.heap.size + 2, w.heap.size, w.heap.size + 1⟩ :: kidsOf N q.pre := by
    rw [kids_cons, if_pos ⟨by simp, by simp⟩]
  refine ⟨⟨fun n hn => ?_, ?_, ?_⟩, m⟩
  · rcases List.mem_cons.1 hn with e | hn
    · subst e
      refine ⟨m1.at_ b1 (by simp; omega), ?_, ?_⟩
      · rw [ents_fresh h.tr hno]
        exact b2.mod m1 (by simp; omega)
      · rw [hpre _ (by simp), kids_fresh h.tr hno]
        exact b3.mod m1 (by simp; omega)
    · have hn0 := h.nd n hn
      by_cases he : n.pre = q.pre
      · have e0 : n = q := pre_one h.tr.one hn hq he
        obtain ⟨o1, o2, o3⟩ := own3 (blks_own h.apart n hn)
        subst e0
        refine ⟨m.at_ hn0.blk (by simpa using o2), hn0.em.mod m (by simpa using o3), ?_⟩
        rw [hkq, List.map_cons]
        have e : setM ((kidsOf N n.pre).map kidV) (segOf x) (.pointer (some ⟨w.heap.size + 2, 0, none⟩)) = kidV ⟨n.pre ++ [x], w.heap.size + 2, w.heap.size, w.heap.size + 1⟩ :: (kidsOf N n.pre).map kidV := by
          unfold setM
          rw [delM_self (kid_fresh hno)]
          congr 1
          unfold kidV
          rw [(snoc_last rfl).2.2]
        rw [← e]
        exact h2
      · have ha := blks_apart h.apart n hn q hq he
        exact ⟨m.at_ hn0.blk (by simpa using ha n.b (by simp) q.cm (by simp)), hn0.em.mod m (by simpa using ha n.em (by simp) q.cm (by simp)), by
          rw [hpre _ he]
          exact hn0.cm.mod m (by simpa using ha n.cm (by simp) q.cm (by simp))⟩
  · rw [blks_cons, List.nodup_append]
    refine ⟨?_, h.apart, fun a ha c hc e => ?_⟩
    · simp
    · have := hlt c hc
      simp at ha
      omega
  · exact h.tr.grow hno ⟨q, hq, by simp⟩
theorem TrP.perm {N : List Nd} {l l' : List Ent} (h : TrP N l) (p : l.Perm l') : TrP N l' := h.sub fun _ hx => p.mem_iff.2 hx
theorem ents_perm {l l' : List Ent} (p : l.Perm l') (s : List Seg) : (entsOf l s).Perm (entsOf l' s) := p.filter _
theorem TreeM.perm {w : World} {N : List Nd} {l l' : List Ent} (h : TreeM w N l) (p : l.Perm l') : TreeM w N l' :=
  ⟨fun n hn => ⟨(h.nd n hn).blk, (h.nd n hn).em.perm ((ents_perm p n.pre).map _), (h.nd n hn).cm⟩, h.apart, h.tr.perm p⟩
/-- a place takes an entry whose number is new -/
theorem TreeM.put {w w2 : World} {N : List Nd} {l : List Ent} (h : TreeM w N l) {q : Nd} (hq : q ∈ N) {e : Ent} (he : q.pre = e.sg) (hid : ∀ y, y ∈ l → y.id ≠ e.id)
    (h2 : MapL iK w2 q.em (setM ((entsOf l q.pre).map entV) e.id (aggE e))) (hg : w.grownBy w2 (some q.em)) : TreeM w2 N (e :: l) ∧ Mod [q.em] w w2 := by
  have m : Mod [q.em] w w2 := (Mod.refl [q.em] w).grown hg (fun k x _ => by simp at x; simp [x])
  refine ⟨⟨fun n hn => ?_, h.apart, h.tr.put ⟨q, hq, he⟩ (fun x hx => by simpa using hx)⟩, m⟩
  have hn0 := h.nd n hn
  by_cases hp : n.pre = q.pre
  · have e0 : n = q := pre_one h.tr.one hn hq hp
    obtain ⟨o1, o2, o3⟩ := own3 (blks_own h.apart n hn)
    subst e0
    refine ⟨m.at_ hn0.blk (by simpa using o1), ?_, hn0.cm.mod m (by simpa using Ne.symm o3)⟩
    have e1 : entsOf (e :: l) n.pre = e :: entsOf l n.pre := by
      unfold entsOf
      rw [List.filter_cons, if_pos (by simp [he])]
    rw [e1, List.map_cons]
    have e2 : setM ((entsOf l n.pre).map entV) e.id (aggE e) = entV e :: (entsOf l n.pre).map entV := by
      unfold setM
      rw [delM_self (fun p hp => by
        obtain ⟨y, hy, rfl⟩ := List.mem_map.1 hp
        exact hid y (List.mem_filter.1 hy).1)]
      rfl
    rw [← e2]
    exact h2
  · have ha := blks_apart h.apart n hn q hq hp
    have e1 : entsOf (e :: l) n.pre = entsOf l n.pre := by
      unfold entsOf
      rw [List.filter_cons, if_neg (by simp; exact fun x => hp (by rw [← x, he]))]
    exact ⟨m.at_ hn0.blk (by simpa using ha n.b (by simp) q.em (by simp)), by
      rw [e1]
      exact hn0.em.mod m (by simpa using ha n.em (by simp) q.em (by simp)), hn0.cm.mod m (by simpa using ha n.cm (by simp) q.em (by simp))⟩
/-- the map of where each entry lies takes an entry whose number is new -/
theorem wh_put {w2 : World} {wb : Nat} {l : List Ent} {e : Ent} (hid : ∀ y, y ∈ l → y.id ≠ e.id) (h2 : MapL iK w2 wb (setM (l.map whV) e.id (.string e.path))) : MapL iK w2 wb ((e :: l).map whV) := by
  have e2 : setM (l.map whV) e.id (.string e.path) = whV e :: l.map whV := by
    unfold setM
    rw [delM_self (fun p hp => by
      obtain ⟨y, hy, rfl⟩ := List.mem_map.1 hp
      exact hid y hy)]
    rfl
  rw [List.map_cons, ← e2]
  exact h2
/-- is a number there? -/
theorem wh_get {l : List Ent} (h : l.Pairwise fun a b => a.id ≠ b.id) (i : Int) : getM (l.map whV) i = (getS5 l i).map fun e => .string e.path := by
  induction l with
  | nil => rfl
  | cons x r ih =>
    unfold getM getS5
    rw [List.map_cons, List.find?_cons, List.find?_cons]
    by_cases hx : x.id = i
    · have e1 : decide ((whV x).1 = i) = true := decide_eq_true hx
      have e2 : decide (x.id = i) = true := decide_eq_true hx
      rw [e1, e2]
      rfl
    · have e1 : decide ((whV x).1 = i) = false := decide_eq_false hx
      have e2 : decide (x.id = i) = false := decide_eq_false hx
      rw [e1, e2]
      exact ih (List.pairwise_cons.1 h).2
theorem hasId_get (l : List Ent) (i : Int) : (getS5 l i).isSome = hasId l i := by
  unfold getS5 hasId
  rw [Bool.eq_iff_iff, List.find?_isSome]
  simp
end Go.Proofs.YthkcbennfochmaaGreatDoor
