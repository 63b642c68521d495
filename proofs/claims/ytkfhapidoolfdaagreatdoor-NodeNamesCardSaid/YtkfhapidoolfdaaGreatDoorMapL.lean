/-
  PLAIN LAWS OF MEMORY, OVER ANY PROGRAM: a map's block that stands for a list of keys with their raw values, in no order; looked up, written, deleted from, ranged over.
-/
import Derived.Test.YtkfhapidoolfdaaGreatDoorBase
import Derived.Maps.RangeWalk
import Derived.Maps.OwnSet
import Derived.Maps.OwnOps
import Derived.Maps.Ext
namespace Go.Proofs.YtkfhapidoolfdaaGreatDoor
open Go.RowKit Go.Maps

/-- keys of a type k, as values of κ -/
structure KeyT (P : Program) (k : TypeId) (κ : Type) where
  K : Keyed P k
  kv : κ → Value
  kl : κ → Lit
  ok : κ → Prop
  of : ∀ x, ok x → keyOf P k (kv x) = some (kl x)
  inj : ∀ x y, kl x = kl y → ok x → ok y → x = y
  inv : ∀ v l, keyOf P k v = some l → ∃ x, ok x ∧ v = kv x ∧ l = kl x
/-- what a look-up gives (c: with 'ok'), z the zero value -/
def lookV (c : Bool) (z : Value) : Option Value → Value
  | some v => if c then .tuple #[v, .bool true] else v
  | none => if c then .tuple #[z, .bool false] else z
def Raw (v : Value) : Option (DataW Value × List MemPlace) := some (.held v, [])

section
variable {P : Program} {k : TypeId} {κ : Type} (T : KeyT P k κ)
def entM (p : κ × Value) : Lit × DataW Value := (T.kl p.1, .held p.2)
def mapD (L : List (κ × Value)) : DataW Value := .map ((L.map (entM T)).foldr DataW.insert [])
/-- the block b is a map that holds just the pairs of L -/
structure MapL (w : World) (b : Nat) (L : List (κ × Value)) : Prop where
  ok : ∀ p, p ∈ L → T.ok p.1
  one : L.Pairwise fun p q => p.1 ≠ q.1
  rep : ∃ n, w.ownsMap P k Raw b n (mapD T L)
variable {T} {w w' : World} {b : Nat} {L : List (κ × Value)}
theorem entM_keys (hok : ∀ p, p ∈ L → T.ok p.1) : Keys (KeysOf P k) (L.map (entM T)) := by
  intro p hp
  obtain ⟨q, hq, rfl⟩ := List.mem_map.1 hp
  exact ⟨_, T.of _ (hok q hq)⟩
theorem entM_apart (hok : ∀ p, p ∈ L → T.ok p.1) (h1 : L.Pairwise fun p q => p.1 ≠ q.1) : (L.map (entM T)).Pairwise (fun p q => p.1 ≠ q.1) := by
  rw [List.pairwise_map]
  exact h1.imp_of_mem fun {p q} hp hq hne e => hne (T.inj _ _ e (hok p hp) (hok q hq))
theorem mapD_perm {L' : List (κ × Value)} (hok : ∀ p, p ∈ L → T.ok p.1) (h1 : L.Pairwise fun p q => p.1 ≠ q.1) (hp : L.Perm L') : mapD T L = mapD T L' := by
  unfold mapD
  congr 1
  have hok' : ∀ p, p ∈ L' → T.ok p.1 := fun p hp' => hok p (hp.mem_iff.2 hp')
  have h1' : L'.Pairwise fun p q => p.1 ≠ q.1 := (hp.pairwise_iff (fun {a b} (h : a.1 ≠ b.1) => h.symm)).1 h1
  exact ChangeMaps.eq_of_perm_sorted ((WideShapes.sorted_perm _).trans ((hp.map _).trans (WideShapes.sorted_perm _).symm)) (sorted_sorted T.K.one _ (entM_keys hok) (entM_apart hok h1)) (sorted_sorted T.K.one _ (entM_keys hok') (entM_apart hok' h1'))
theorem MapL.perm {L' : List (κ × Value)} (h : MapL T w b L) (hp : L.Perm L') : MapL T w b L' :=
  ⟨fun p hp' => h.ok p (hp.mem_iff.2 hp'), (hp.pairwise_iff (fun {a b} (h : a.1 ≠ b.1) => h.symm)).1 h.one, by rw [← mapD_perm h.ok h.one hp]; exact h.rep⟩
theorem MapL.lt (h : MapL T w b L) : b < w.heap.size := let ⟨_, hn⟩ := h.rep; hn.lt
theorem MapL.at_ (h : MapL T w b L) (hb : w'.heap[b]? = w.heap[b]?) : MapL T w' b L := by
  obtain ⟨n, es, clock, q, r⟩ := h.rep
  exact ⟨h.ok, h.one, n, es, clock, hb.trans q, r⟩
theorem MapL.mod (h : MapL T w b L) {S : List Nat} (m : Mod S w w') (hb : b ∉ S) : MapL T w' b L := h.at_ (m.block b h.lt hb)
theorem MapL.made (w : World) : MapL T (w.alloc (.map #[] 0)) w.heap.size [] := ⟨by simp, List.Pairwise.nil, 0, World.ownsMap_made _ _ _ _⟩
theorem MapL.tight (h : MapL T w b L) : w.ownsMap P k Raw b L.length (mapD T L) := by
  obtain ⟨n, es, clock, q1, q2, q3, q4⟩ := h.rep
  refine ⟨es, clock, q1, q2, ?_, q4⟩
  have := congrArg size q4
  simp only [mapD, size, length_sorted, List.length_map] at this
  rw [this]; simp
theorem MapL.size (_ : MapL T w b L) : Maps.size (mapD T L) = L.length := by simp [mapD, Maps.size, length_sorted]
theorem atKey_mapD (h : MapL T w b L) {x : κ} {v : Value} (hm : (x, v) ∈ L) (z : DataW Value) : (mapD T L).atKey (T.kl x) z = .held v := by
  have hx := h.ok _ hm
  have h2 := sorted_sorted T.K.one _ (entM_keys h.ok) (entM_apart h.ok h.one)
  refine WideAt.atKey_mem z (T.K.key (T.of x hx)) (apart_of_rising h2) ?_
  exact (WideShapes.sorted_perm _).mem_iff.2 (List.mem_map.2 ⟨_, hm, rfl⟩)
theorem has_mapD (h : MapL T w b L) {x : κ} (hx : T.ok x) : Maps.has (mapD T L) (T.kl x) = true ↔ ∃ v, (x, v) ∈ L := by
  unfold mapD Maps.has
  rw [List.any_eq_true]
  constructor
  · rintro ⟨p, hp, hs⟩
    obtain ⟨q, hq, rfl⟩ := List.mem_map.1 ((WideShapes.sorted_perm _).mem_iff.1 hp)
    have : q.1 = x := T.inj _ _ (WideAt.sameKey_eq hs) (h.ok q hq) hx
    exact ⟨q.2, by rw [← this]; exact hq⟩
  · rintro ⟨v, hv⟩
    exact ⟨entM T (x, v), (WideShapes.sorted_perm _).mem_iff.2 (List.mem_map.2 ⟨_, hv, rfl⟩), WideAt.sameKey_self (T.K.key (T.of x hx))⟩

theorem grownBy_turned {b : Nat} (h : w.mapTurned w' b) : w.grownBy w' (some b) := by
  obtain ⟨es, clock, es', clock', hb, rfl⟩ := h
  exact ⟨rfl, rfl, rfl, by simp [ChangeMaps.setBlock], fun i _ hi => ChangeMaps.heap_setBlock_other hb _ (fun e => hi (by rw [e]))⟩
variable [DecidableEq κ]
def getM (L : List (κ × Value)) (x : κ) : Option Value := (L.find? fun p => decide (p.1 = x)).map (·.2)
def delM (L : List (κ × Value)) (x : κ) : List (κ × Value) := L.filter fun p => decide (p.1 ≠ x)
def setM (L : List (κ × Value)) (x : κ) (v : Value) : List (κ × Value) := (x, v) :: delM L x

theorem delM_one (h : L.Pairwise fun p q => p.1 ≠ q.1) (x : κ) : (delM L x).Pairwise fun p q => p.1 ≠ q.1 := h.filter _
theorem mem_delM {x : κ} {p : κ × Value} : p ∈ delM L x ↔ p ∈ L ∧ p.1 ≠ x := by simp [delM]
theorem setM_one (h : L.Pairwise fun p q => p.1 ≠ q.1) (x : κ) (v : Value) : (setM L x v).Pairwise fun p q => p.1 ≠ q.1 :=
  List.pairwise_cons.2 ⟨fun _ hq => (mem_delM.1 hq).2.symm, delM_one h x⟩
theorem filter_entM (hok : ∀ p, p ∈ L → T.ok p.1) (x : κ) (hx : T.ok x) : (L.map (entM T)).filter (ChangeMaps.notKey (T.kl x)) = (delM L x).map (entM T) := by
  unfold delM
  rw [List.filter_map]
  congr 1
  refine List.filter_congr fun p hp => ?_
  show ChangeMaps.notKey (T.kl x) (entM T p) = _
  rw [Bool.eq_iff_iff, notKey_iff (T.K.key (T.of x hx)), decide_eq_true_eq]
  constructor
  · intro h e; exact h (by simp [entM, e])
  · intro h e; exact h (T.inj _ _ e (hok p hp) hx)
theorem mapD_put (h : MapL T w b L) (x : κ) (hx : T.ok x) (v : Value) : (mapD T L).put (T.kl x) (.held v) = mapD T (setM L x v) := by
  unfold mapD
  rw [DataW.put_eq]
  congr 1
  refine (sorted_put T.K.one ⟨_, T.of x hx⟩ (entM_keys h.ok) (entM_apart h.ok h.one) ?_).symm
  rw [filter_entM h.ok x hx]
  exact .refl _
theorem mapD_del (h : MapL T w b L) (x : κ) (hx : T.ok x) : (mapD T L).del (T.kl x) = mapD T (delM L x) := by
  unfold mapD
  rw [DataW.del_eq]
  congr 1
  refine (sorted_del T.K.one (entM_keys h.ok) (entM_apart h.ok h.one) ?_).symm
  rw [filter_entM h.ok x hx]
theorem getM_some {x : κ} {v : Value} (h1 : L.Pairwise fun p q => p.1 ≠ q.1) (h : (x, v) ∈ L) : getM L x = some v := by
  unfold getM
  induction L with
  | nil => cases h
  | cons y r ih =>
    have hp := List.pairwise_cons.1 h1
    rw [List.find?_cons]
    rcases List.mem_cons.1 h with e | e
    · subst e; simp
    · have : y.1 ≠ x := by rintro rfl; exact hp.1 _ e rfl
      rw [decide_eq_false this]
      exact ih hp.2 e
theorem getM_none {x : κ} (h : ∀ p, p ∈ L → p.1 ≠ x) : getM L x = none := by
  unfold getM
  rw [List.find?_eq_none.2 (fun p hp => by simpa using h p hp)]
  rfl
theorem mem_of_getM {x : κ} {v : Value} (h : getM L x = some v) : (x, v) ∈ L := by
  unfold getM at h
  rw [Option.map_eq_some_iff] at h
  obtain ⟨p, hp, rfl⟩ := h
  have h1 := List.mem_of_find?_eq_some hp
  have h2 := List.find?_some hp
  have : p.1 = x := by simpa using h2
  rw [← this]; exact h1
variable {t e : TypeId}
/-- 'v, ok := m[x]' -/
theorem MapL.look (h : MapL T w b L) (ht : P.underlying t = some (.map k e)) {z : Value} (hz : (zeroValue e).run P w = .ok z w) (c : Bool) {x : κ} (hx : T.ok x) :
    (Instr.lookup t (.map (some b)) (T.kv x) c).run P w = .ok (lookV c z (getM L x)) w := by
  obtain ⟨n, es, clock, hb, F, hs, hD⟩ := h.rep
  rcases fit_look c T.K ht hz hb F (T.of x hx) with ⟨hrun, hno, hat⟩ | ⟨e0, y, hm, hk, hrun, hR, hat, _⟩
  · have : getM L x = none := by
      cases hg : getM L x with
      | none => rfl
      | some v =>
        have := atKey_mapD h (mem_of_getM hg) .nil
        rw [hD, hat .nil] at this
        cases this
    rw [this, hrun]; rfl
  · have hy : y = (.held e0.val, []) := by simpa [Raw] using hR.symm
    subst hy
    have h1 : Maps.has (mapD T L) (T.kl x) = true := by
      cases hh : Maps.has (mapD T L) (T.kl x)
      · have h0 := hat .nil
        rw [← hD, atKey_of_not_has hh .nil] at h0
        cases h0
      · rfl
    obtain ⟨v, hv⟩ := (has_mapD h hx).1 h1
    have h2 := atKey_mapD h hv .nil
    rw [hD, hat .nil] at h2
    have h3 : e0.val = v := by simpa using h2
    rw [getM_some h.one hv, hrun, h3]; rfl
/-- 'm[x] = v' -/
theorem MapL.store (h : MapL T w b L) (ht : P.underlying t = some (.map k e)) (hn : L.length < maxLen) {x : κ} (hx : T.ok x) (v : Value) :
    ∃ w', (Instr.mapUpdate t (.map (some b)) (T.kv x) v).run P w = .ok () w' ∧ MapL T w' b (setM L x v) ∧ w.grownBy w' (some b) := by
  obtain ⟨w', h1, h2, h3⟩ := h.tight.update T.K ht hn (T.of x hx) (d := .held v) (ps := []) rfl
  rw [mapD_put h x hx] at h2
  exact ⟨w', h1, ⟨fun p hp => (List.mem_cons.1 hp).elim (fun e => by rw [e]; exact hx) (fun e => h.ok p (mem_delM.1 e).1), setM_one h.one x v, _, h2⟩, h3⟩
end

section
variable {P : Program} {k : TypeId} {κ : Type} {T : KeyT P k κ} (w : World) {b : Nat} {L : List (κ × Value)} {ops : Array Oper} {rest : List Oper} {o : Oper} {a : Act} {Q : Exit → Act → World → Prop} {t e : TypeId}
theorem wpList_len_L (hg : o.guard = none) (m : Operand) (hop : o.op = Op.call { callee := Callee.builtin Builtin.len, args := #[m], argTypes := #[t] }) (ht : P.underlying t = some (.map k e))
    (hm : a.eval m = .map (some b)) (h : MapL T w b L) (hK : wpList P ops Q rest (a.put o.dst (.int .i64 L.length)) w) :
    wpList P ops Q (o :: rest) a w :=
  wpList_len_own w hg m t hop k e ht Raw b L.length _ hm h.tight (by rw [h.size]; exact hK)

/-- a range over the map b under way: the iterator lies in the block r, the pairs of lf are still to come -/
structure RangeL (T : KeyT P k κ) (w : World) (b r : Nat) (L lf : List (κ × Value)) : Prop where
  map : MapL T w b L
  rep : ∃ n left cnt, w.ranges P k Raw b r n (mapD T L) left cnt ∧ lf = L.filter fun p => left (T.kl p.1)
theorem RangeL.mod {w' : World} {r : Nat} {lf : List (κ × Value)} (h : RangeL T w b r L lf) {S : List Nat} (m : Mod S w w') (hb : b ∉ S) (hr : r ∉ S) : RangeL T w' b r L lf := by
  obtain ⟨n, left, cnt, h1, h2⟩ := h.rep
  have l1 := h.map.lt
  have l2 := h1.lt
  obtain ⟨es, clock, since, seen, c0, hb', F, hs, hD, hr', rest⟩ := h1
  exact ⟨h.map.mod m hb, n, left, cnt, ⟨es, clock, since, seen, c0, (m.block b l1 hb).trans hb', F, hs, hD, (m.block r l2 hr).trans hr', rest⟩, h2⟩
theorem RangeL.lt {r : Nat} {lf : List (κ × Value)} (h : RangeL T w b r L lf) : r < w.heap.size := by
  obtain ⟨n, left, cnt, h1, h2⟩ := h.rep
  exact h1.lt
theorem RangeL.sub {r : Nat} {lf : List (κ × Value)} (h : RangeL T w b r L lf) : lf.Sublist L := by
  obtain ⟨n, left, cnt, h1, h2⟩ := h.rep
  rw [h2]; exact List.filter_sublist
theorem wpList_range_L (hg : o.guard = none) (m : Operand) (hop : o.op = Op.range t m) (ht : P.underlying t = some (.map k e)) (hm : a.eval m = .map (some b)) (h : MapL T w b L)
    (hK : ∀ w', RangeL T w' b w.heap.size L L → Mod [] w w' → w'.heap.size = w.heap.size + 1 → wpList P ops Q rest (a.put o.dst (.pointer (some ⟨w.heap.size, 0, none⟩))) w') :
    wpList P ops Q (o :: rest) a w := by
  refine wpList_range_own w hg m t hop k e T.K ht Raw b L.length _ hm h.tight fun w' h1 h2 h3 => hK w' ⟨h.mod ((Mod.refl [] w).grown h2 (by simp)) (by simp), _, _, _, h1, ?_⟩ ((Mod.refl [] w).grown h2 (by simp)) h3
  symm
  refine List.filter_eq_self.2 fun p hp => (has_mapD h (h.ok p hp)).2 ⟨p.2, hp⟩
variable [DecidableEq κ]
theorem wpList_store_L (hg : o.guard = none) (m x v : Operand) (hop : o.op = Op.mapUpdate t m x v) (ht : P.underlying t = some (.map k e))
    (hm : a.eval m = .map (some b)) (h : MapL T w b L) (hn : L.length < maxLen) {key : κ} (hok : T.ok key) (hx : a.eval x = T.kv key) (val : Value) (hv : a.eval v = val)
    (hK : ∀ w', MapL T w' b (setM L key val) → w.grownBy w' (some b) → wpList P ops Q rest (a.put o.dst undef) w') :
    wpList P ops Q (o :: rest) a w := by
  refine wpList_plain hg fun K' hK' => ?_
  obtain ⟨w', hrun, r1, r2⟩ := h.store ht hn hok val
  unfold Oper.wp
  simp [execOp, hop, hm, hx, hv, hrun, Result.andThen]
  exact hK' _ _ (hK w' r1 r2)
theorem wpList_look_L (hg : o.guard = none) (m x : Operand) (c : Bool) (hop : o.op = Op.lookup t m x c) (ht : P.underlying t = some (.map k e)) {z : Value} (hz : (zeroValue e).run P w = .ok z w)
    (hm : a.eval m = .map (some b)) (h : MapL T w b L) {key : κ} (hok : T.ok key) (hx : a.eval x = T.kv key)
    (hK : wpList P ops Q rest (a.put o.dst (lookV c z (getM L key))) w) :
    wpList P ops Q (o :: rest) a w := by
  refine wpList_plain hg fun K' hK' => ?_
  have hrun := h.look ht hz c hok
  unfold Oper.wp
  simp [execOp, hop, hm, hx, hrun, Result.andThen]
  exact hK' _ _ hK
theorem wpList_delete_L (hg : o.guard = none) (m x : Operand) (hop : o.op = Op.call { callee := Callee.builtin Builtin.delete, args := #[m, x], argTypes := #[t, k] }) (ht : P.underlying t = some (.map k e))
    (hm : a.eval m = .map (some b)) (h : MapL T w b L) {key : κ} (hok : T.ok key) (hx : a.eval x = T.kv key)
    (hK : ∀ w', MapL T w' b (delM L key) → w.grownBy w' (some b) → wpList P ops Q rest (a.put o.dst (.tuple #[])) w') :
    wpList P ops Q (o :: rest) a w := by
  refine wpList_delete_own w hg m x t k hop e T.K ht Raw b L.length _ hm h.tight (T.kv key) (T.kl key) hx (T.of key hok) fun w' h1 h2 => hK w' ?_ (grownBy_turned h2)
  rw [mapD_del h key hok] at h1
  exact ⟨fun p hp => h.ok p (mem_delM.1 hp).1, delM_one h.one key, _, h1⟩
theorem wpList_next_L {r : Nat} {lf : List (κ × Value)} (hg : o.guard = none) (it : Operand) (hop : o.op = Op.next it false) (hit : a.eval it = .pointer (some ⟨r, 0, none⟩)) (h : RangeL T w b r L lf)
    (hDone : lf = [] → wpList P ops Q rest (a.put o.dst (.tuple #[.bool false])) w)
    (hMore : ∀ (x : κ) (v : Value) (w' : World), (x, v) ∈ lf → RangeL T w' b r L (delM lf x) → Mod [r] w w' → (Instr.entry (.pointer (some ⟨r, 0, none⟩))).run P w' = .ok (.tuple #[T.kv x, v]) w' → wpList P ops Q rest (a.put o.dst (.tuple #[.bool true, T.kv x, v])) w') :
    wpList P ops Q (o :: rest) a w := by
  obtain ⟨n, left, cnt, h1, h2⟩ := h.rep
  refine wpList_next_ranges (α := { x : κ // T.ok x }) (β := Value) w hg it hop k T.K Raw (fun x => T.kv x.1) id (fun key kl hk => ?_) (fun v y _ => ⟨v, rfl⟩) b r n _ left cnt hit h1 (fun _ hl => hDone ?_) (fun x c kl y w' cnt' hk hl hR hat hr' _ hgr _ hen => ?_)
  · obtain ⟨x, h1, h2, _⟩ := T.inv key kl hk
    exact ⟨⟨x, h1⟩, h2⟩
  · rw [h2]
    exact List.filter_eq_nil_iff.2 fun p _ => by rw [hl]; decide
  · have hkl : kl = T.kl x.1 := by
      have := T.of x.1 x.2
      rw [this] at hk
      exact (Option.some.inj hk).symm
    subst hkl
    have hy : y = (.held c, []) := by simpa [Raw] using hR.symm
    subst hy
    have hh : Maps.has (mapD T L) (T.kl x.1) = true := Maps.has_true_of_atKey hat
    obtain ⟨v, hv⟩ := (has_mapD h.map x.2).1 hh
    have h3 := atKey_mapD h.map hv .nil
    rw [hat .nil] at h3
    have h4 : c = v := by simpa using h3
    subst h4
    have hne := h1.ne
    have md : Mod [r] w w' := (Mod.refl [r] w).grown hgr (fun k e _ => by cases e; simp)
    refine hMore x.1 c w' (by rw [h2]; exact List.mem_filter.2 ⟨hv, hl⟩) ⟨h.map.mod md (by simp; exact fun e => hne e.symm), n, _, cnt', hr', ?_⟩ md hen
    rw [h2]
    unfold delM
    rw [List.filter_filter]
    refine List.filter_congr fun p hp => ?_
    have hp' := h.map.ok p hp
    by_cases q : p.1 = x.1
    · rw [q, WideAt.sameKey_self (T.K.key (T.of x.1 x.2))]
      simp
    · have : (T.kl p.1).sameKey (T.kl x.1) = false := Maps.sameKey_ne (fun e => q (T.inj _ _ e hp' x.2))
      simp [q, this]
/-- the entry that has just come is deleted -/
theorem wpList_delete_range_L {r : Nat} {lf : List (κ × Value)} (hg : o.guard = none) (m x : Operand) (hop : o.op = Op.call { callee := Callee.builtin Builtin.delete, args := #[m, x], argTypes := #[t, k] }) (ht : P.underlying t = some (.map k e))
    (hm : a.eval m = .map (some b)) (h : RangeL T w b r L lf) {key : κ} (hok : T.ok key) (hx : a.eval x = T.kv key)
    (hK : ∀ w', RangeL T w' b r (delM L key) (delM lf key) → w.grownBy w' (some b) → wpList P ops Q rest (a.put o.dst (.tuple #[])) w') :
    wpList P ops Q (o :: rest) a w := by
  obtain ⟨n, left, cnt, h1, h2⟩ := h.rep
  refine wpList_delete_ranges w hg m x t k hop e T.K ht Raw b r n _ left cnt hm h1 (T.kv key) (T.kl key) hx (T.of key hok) fun w' cnt' h3 _ h4 => hK w' ⟨?_, n, _, cnt', by rw [← mapD_del h.map key hok]; exact h3, ?_⟩ (grownBy_turned h4)
  · have := h3.owns
    rw [mapD_del h.map key hok] at this
    exact ⟨fun p hp => h.map.ok p (mem_delM.1 hp).1, delM_one h.map.one key, _, this⟩
  · rw [h2]
    unfold delM
    rw [List.filter_filter, List.filter_filter]
    refine List.filter_congr fun p hp => ?_
    have hp' := h.map.ok p hp
    by_cases q : p.1 = key
    · simp [q]
    · have : (T.kl p.1).sameKey (T.kl key) = false := Maps.sameKey_ne (fun e => q (T.inj _ _ e hp' hok))
      simp [q, this]
end
end Go.Proofs.YtkfhapidoolfdaaGreatDoor
