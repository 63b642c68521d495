/-
  PLAIN, OVER ANY PROGRAM: operations whose order is drawn: what E reckoned, one after another, and what it looked at. PLAIN, OVER ANY PROGRAM: operations in any order that their edges allow: the state behind those that are done. PLAIN, OVER ANY PROGRAM: regions whose order is drawn. PLAIN, OVER ANY PROGRAM: regions whose order is drawn, whole. PLAIN, OVER ANY PROGRAM: what the program's check and one more look at its text say of its regions.
-/
import Derived.Test.YtkfhapidoolfdaaGreatDoorEG5
import Derived.CheckFast
namespace Go.Proofs.YtkfhapidoolfdaaGreatDoor
open Go
namespace Ev
variable {P : Program}

/-- one operation as E did it in the text's order -/
structure Tr where
  o : Oper
  m : Nat
  g : Bool
  tm : TrV
  σ : St
  V : St
  σ1 : St
  v : EV
  σ' : St
def Tr.quiet (t : Tr) : Prop := (∀ k, ¬ Touch t.V t.σ1 k) ∧ ∀ k, t.V.h.get k = none
structure TrOk (P : Program) (all : Array Oper) (t : Tr) : Prop where
  guard : guardE all t.tm t.o = t.g
  skip : t.g = false → t.v = .s undef ∧ ∀ k, ¬ Touch t.V t.σ1 k
  does : t.g = true → Does P t.o t.tm t.V t.v t.σ1
  fr : Frames t.V t.σ1 t.σ t.σ'
  vnx : t.V.nx = t.σ.nx
  live : ∀ k, Touch t.V t.σ1 k → t.V.h.get k ≠ none ∨ t.σ.nx ≤ k
  tlt : ∀ k, Touch t.V t.σ1 k → k < t.σ'.nx
  ghost : ∃ ρ w, Rep P ρ t.σ w ∧ ∀ x, ∃ u, Den ρ (ev t.tm x) u
noncomputable def putD (tm : TrV) (d : Option Nat) (v : EV) : TrV := match d with
  | some t => tm.put t (some v)
  | none => tm
theorem putT_tm (fr : Fr) (d : Option Nat) (v : EV) : (putT fr d v).tm = putD fr.tm d v := by cases d <;> rfl
theorem putT_ds (fr : Fr) (d : Option Nat) (v : EV) : (putT fr d v).ds = fr.ds := by cases d <;> rfl
inductive Chain (P : Program) (all : Array Oper) : TrV → St → List Tr → TrV → St → Prop
  | nil (tm : TrV) (σ : St) : Chain P all tm σ [] tm σ
  | cons {t : Tr} {T : List Tr} {tm' : TrV} {σ' : St} (h : TrOk P all t) (c : Chain P all (putD t.tm t.o.dst t.v) t.σ' T tm' σ') : Chain P all t.tm t.σ (t :: T) tm' σ'
/-- what E's note r says of operation t, number i -/
structure RecIs (i : Nat) (t : Tr) (r : Rec) : Prop where
  i : r.1 = i
  lo : r.2.1 = t.V.nx
  hi : r.2.2.1 = t.σ1.nx
  W : r.2.2.2.1 = t.σ1.W
  ids : ∀ ids, r.2.2.2.2 = some ids → ∀ k, t.V.h.get k ≠ none → k ∈ ids
structure Recs (past : List Tr) (rs : List Rec) (σ : St) : Prop where
  all : ∀ i t, past[i]? = some t → t.quiet ∨ ∃ r ∈ rs, RecIs i t r
  hi : ∀ r ∈ rs, r.2.2.1 ≤ σ.nx
  old : ∀ t ∈ past, ∀ k, σ.nx ≤ k → t.V.h.get k = none
/-- operation j, not bound to come after operation i, looks at nothing that i touches, and touches nothing that i looks at -/
def PairOk (i : Nat) (ti tj : Tr) : Prop := tj.m.testBit i = false → (∀ k, tj.V.h.get k ≠ none → ¬ Touch ti.V ti.σ1 k) ∧ ∀ k, Touch tj.V tj.σ1 k → ti.V.h.get k = none
def Pairs (past T : List Tr) : Prop := ∀ i j ti tj, (past ++ T)[i]? = some ti → i < j → past.length ≤ j → (past ++ T)[j]? = some tj → PairOk i ti tj
theorem cut_self {ρ : Rn} {n : Nat} (h : ∀ k, n ≤ k → ρ k = none) : cut ρ n = ρ := by
  funext k
  unfold cut
  by_cases g : k < n
  · rw [if_pos g]
  · rw [if_neg g, h k (Nat.le_of_not_lt g)]
/-- one operation of the run in the text's order -/
theorem ghost_step {o : Oper} {fr : Fr} {V : St} {v : EV} {σ1 σ σ' : St} {ρ : Rn} {w : World} {a : Act} {n : Nat} (H : Does P o fr.tm V v σ1) (hv : V.nx = σ.nx) (hW : V.W = []) (hs : ∀ k e, V.h.get k = some e → σ.h.get k = some e) (F : FrOk ρ n fr a) (R : Rep P ρ σ w)
    (mk : ∀ ρ1 w1, Stp P ρ V w ρ1 σ1 w1 → Frames V σ1 σ σ') :
    ∃ ρ' w' u, Stp P ρ σ w ρ' σ' w' ∧ Den ρ' v u ∧ Frames V σ1 σ σ' ∧ (∀ k, Touch V σ1 k → V.h.get k ≠ none ∨ σ.nx ≤ k) ∧ ∀ k, Touch V σ1 k → k < σ'.nx := by
  have hc : cut ρ V.nx = ρ := cut_self (fun k hk => R.lim k (by omega))
  have RV : Rep P ρ V w := by
    have := R.view R (V := V) (fun k e h => ⟨hs k e h, hs k e h⟩) hv
    rwa [hc] at this
  obtain ⟨u, w', ρ1, h1, S⟩ := (H ρ w a.eval RV (fun x _ => F.tm x)).some
  have Fr := mk ρ1 w' S
  obtain ⟨ρ', S', le⟩ := frame_full R (by rw [hc]; exact S) Fr hv.symm
  refine ⟨ρ', w', u, S', Den.mono le h1, Fr, ?_, ?_⟩
  · intro k h
    rcases h with h | h
    · rcases S.live k h with q | q | q
      · rw [hW] at q; cases q
      · exact .inl q
      · exact .inr (by omega)
    · exact .inr (by omega)
  · intro k h
    have n1 := Fr.nx
    have n2 := Fr.nx1
    rcases h with h | h
    · rcases S.live k h with q | q | q
      · rw [hW] at q; cases q
      · have : k < V.nx := Nat.lt_of_not_le fun g => q (RV.none_of g)
        omega
      · omega
    · omega
theorem copyL_get (g : TrO) : ∀ (l : List Nat) (h : TrO) (k : Nat), (copyL g h l).get k = if k ∈ l then g.get k else h.get k
  | [], h, k => by rw [if_neg (by simp)]; rfl
  | j :: l, h, k => by
    rw [copyL, copyL_get g l, TrO.get_put]
    by_cases q : k ∈ l
    · rw [if_pos q, if_pos (List.mem_cons_of_mem _ q)]
    · rw [if_neg q]
      by_cases e : k = j
      · subst e; rw [if_pos rfl, if_pos (List.mem_cons_self ..)]
      · rw [if_neg e, if_neg (by simp [e, q])]
theorem mem_span : ∀ (n k j : Nat), j ∈ span k n ↔ k ≤ j ∧ j < k + n
  | 0, k, j => by simp [span]
  | n + 1, k, j => by
    rw [span, List.mem_cons, mem_span n (k + 1) j]
    omega
theorem restrict_get (h : TrO) : ∀ (l : List Nat) (k : Nat), (restrict h l).get k = if k ∈ l then h.get k else none
  | [], k => by rw [if_neg (by simp)]; exact TrO.get_lf k
  | j :: l, k => by
    rw [restrict]
    cases e : h.get j with
    | none =>
      show (restrict h l).get k = _
      rw [restrict_get h l]
      by_cases q : k ∈ l
      · rw [if_pos q, if_pos (List.mem_cons_of_mem _ q)]
      · rw [if_neg q]
        by_cases g : k = j
        · subst g; rw [if_pos (List.mem_cons_self ..), e]
        · rw [if_neg (by simp [g, q])]
    | some o =>
      show ((restrict h l).put j (some o)).get k = _
      rw [TrO.get_put, restrict_get h l]
      by_cases g : k = j
      · subst g; rw [if_pos rfl, if_pos (List.mem_cons_self ..), e]
      · rw [if_neg g]
        by_cases q : k ∈ l
        · rw [if_pos q, if_pos (List.mem_cons_of_mem _ q)]
        · rw [if_neg q, if_neg (by simp [g, q])]
theorem eraseL_get : ∀ (l : List Nat) (h : TrO) (k : Nat), (eraseL h l).get k = if k ∈ l then none else h.get k
  | [], h, k => by rw [if_neg (by simp)]; rfl
  | j :: l, h, k => by
    rw [eraseL, eraseL_get l, TrO.get_put]
    by_cases q : k ∈ l
    · rw [if_pos q, if_pos (List.mem_cons_of_mem _ q)]
    · rw [if_neg q]
      by_cases e : k = j
      · subst e; rw [if_pos rfl, if_pos (List.mem_cons_self ..)]
      · rw [if_neg e, if_neg (by simp [e, q])]
theorem appL_mem {a b : List Nat} {k : Nat} : k ∈ appL a b ↔ k ∈ a ∨ k ∈ b := by rw [appL_eq, List.mem_append]
/-- the frames of an operation that looks at some blocks alone -/
theorem frames_mem {σ V σ1 σ' : St} (hV : V.W = []) (hs : ∀ k e, V.h.get k = some e → σ.h.get k = some e) (hn : V.nx = σ.nx) (h1 : V.nx ≤ σ1.nx) (hσ : σ' = { h := copyL σ1.h σ.h (σ1.W ++ span σ.nx (σ1.nx - σ.nx)), nx := σ1.nx, W := appL σ1.W σ.W }) : Frames V σ1 σ σ' := by
  subst hσ
  have mem : ∀ k, k ∈ σ1.W ++ span σ.nx (σ1.nx - σ.nx) ↔ Touch V σ1 k := by
    intro k
    rw [List.mem_append, mem_span, Touch]
    constructor
    · rintro (h | h)
      · exact .inl h
      · exact .inr (by omega)
    · rintro (h | h)
      · exact .inl h
      · exact .inr (by omega)
  refine ⟨hV, hs, ?_, ?_, by show σ.nx ≤ σ1.nx; omega, Nat.le_refl _, fun k => appL_mem⟩
  · intro k h
    show (copyL σ1.h σ.h _).get k = _
    rw [copyL_get, if_pos ((mem k).2 h)]
  · intro k h
    show (copyL σ1.h σ.h _).get k = _
    rw [copyL_get, if_neg (fun q => h ((mem k).1 q))]
/-- the frames of a call, from which some new blocks are hidden -/
theorem frames_call {σ V σ1 σ' : St} {gone : List Nat} {ρ ρ1 : Rn} {w w1 : World} (R : Rep P ρ σ w) (S : Stp P ρ V w ρ1 σ1 w1) (hV : V = still σ gone) (hg : ∀ k ∈ gone, k < σ.nx) (hσ : σ' = { h := copyL σ.h σ1.h gone, nx := σ1.nx, W := appL σ1.W σ.W }) : Frames V σ1 σ σ' := by
  subst hV hσ
  have hn : (still σ gone).nx = σ.nx := rfl
  have get : ∀ k, (still σ gone).h.get k = if k ∈ gone then none else σ.h.get k := fun k => eraseL_get gone σ.h k
  have hnx := S.nx
  rw [hn] at hnx
  refine ⟨rfl, ?_, ?_, ?_, hnx, Nat.le_refl _, fun k => appL_mem⟩
  · intro k e h
    rw [get k] at h
    by_cases q : k ∈ gone
    · rw [if_pos q] at h; cases h
    · rw [if_neg q] at h; exact h
  · intro k h
    have hk : k ∉ gone := by
      intro q
      have := hg k q
      rcases h with h | h
      · rcases S.live k h with q1 | q1 | q1
        · cases q1
        · rw [get k, if_pos q] at q1; exact q1 rfl
        · rw [hn] at q1; omega
      · rw [hn] at h; omega
    show (copyL σ.h σ1.h gone).get k = _
    rw [copyL_get, if_neg hk]
  · intro k h
    show (copyL σ.h σ1.h gone).get k = _
    rw [copyL_get]
    by_cases q : k ∈ gone
    · rw [if_pos q]
    · rw [if_neg q]
      by_cases g : k < σ.nx
      · rw [S.same k g (fun q1 => h (.inl q1)), get k, if_neg q]
      · have hk : σ1.nx ≤ k := Nat.le_of_not_lt fun q1 => h (.inr ⟨by rw [hn]; omega, q1⟩)
        rw [S.rep.none_of hk, R.none_of (by omega)]
/-! ### from E's run to its steps -/
theorem drawE_nil (go : Go1) (all : Array Oper) (bs : List Nat) (i : Nat) (rs : List Rec) (fr : Fr) (σ : St) : drawE P go all [] bs i rs fr σ = .ok .nrm fr σ := rfl
theorem drawE_cons (go : Go1) (all : Array Oper) (o : Oper) (l : List Oper) (m : Nat) (bs : List Nat) (i : Nat) (rs : List Rec) (fr : Fr) (σ : St) :
    drawE P go all (o :: l) (m :: bs) i rs fr σ = drawG P go (drawE P go all l) m bs i rs fr o σ (guardE all fr.tm o) := rfl
theorem mem_unordered {m : Nat} {rs : List Rec} {r : Rec} : r ∈ unordered m rs ↔ r ∈ rs ∧ m.testBit r.1 = false := by
  unfold unordered
  rw [List.mem_filter]
  simp
theorem hits_no {ids : List Nat} {r : Rec} (h : hits ids r = false) : ∀ k ∈ ids, ¬ (r.2.1 ≤ k ∧ k < r.2.2.1) ∧ k ∉ r.2.2.2.1 := by
  intro k hk
  unfold hits at h
  rw [List.any_eq_false] at h
  have h1 := h k hk
  constructor
  · rintro ⟨q1, q2⟩
    refine h1 ?_
    rw [Nat.ble_eq_true_of_le q1, Nat.ble_eq_true_of_le (show k + 1 ≤ r.2.2.1 from q2)]
    rfl
  · intro q
    refine h1 ?_
    rw [Bool.or_eq_true]
    right
    simpa using q
theorem hitBy_no {W : List Nat} {r : Rec} (h : hitBy W r = false) : ∀ k ∈ W, ∃ ids, r.2.2.2.2 = some ids ∧ k ∉ ids := by
  intro k hk
  unfold hitBy at h
  cases W with
  | nil => cases hk
  | cons a l =>
    simp only at h
    cases e : r.2.2.2.2 with
    | none => rw [e] at h; cases h
    | some ids =>
      rw [e] at h
      simp only at h
      rw [List.any_eq_false] at h
      refine ⟨ids, rfl, fun q => h k q ?_⟩
      simpa using hk
theorem mem_newOf {us : List Rec} {k : Nat} : k ∈ newOf us ↔ ∃ r ∈ us, r.2.1 ≤ k ∧ k < r.2.2.1 := by
  unfold newOf
  rw [List.mem_flatMap]
  constructor
  · rintro ⟨r, h1, h2⟩
    rw [mem_span] at h2
    exact ⟨r, h1, by omega⟩
  · rintro ⟨r, h1, h2⟩
    exact ⟨r, h1, by rw [mem_span]; omega⟩
/-- E's notes, one more operation on -/
theorem Recs.quiet {past : List Tr} {rs : List Rec} {σ : St} (H : Recs past rs σ) {t : Tr} (hq : t.quiet) (hn : σ.nx ≤ t.σ'.nx) : Recs (past ++ [t]) rs t.σ' := by
  refine ⟨?_, fun r hr => Nat.le_trans (H.hi r hr) hn, ?_⟩
  · intro i t' h
    by_cases g : i < past.length
    · rw [List.getElem?_append_left g] at h
      exact H.all i t' h
    · rw [List.getElem?_append_right (by omega)] at h
      cases e : i - past.length with
      | zero => rw [e] at h; cases h; exact .inl hq
      | succ k => rw [e] at h; cases h
  · intro t' ht k hk
    rcases List.mem_append.1 ht with q | q
    · exact H.old t' q k (Nat.le_trans hn hk)
    · have : t' = t := by simpa using q
      subst this
      exact hq.2 k
theorem Recs.loud {past : List Tr} {rs : List Rec} {σ : St} (H : Recs past rs σ) {t : Tr} {r : Rec} (hr : RecIs past.length t r) (hn : σ.nx ≤ t.σ'.nx) (h1 : t.σ1.nx ≤ t.σ'.nx) (ho : ∀ k, t.σ'.nx ≤ k → t.V.h.get k = none) : Recs (past ++ [t]) (r :: rs) t.σ' := by
  refine ⟨?_, ?_, ?_⟩
  · intro i t' h
    by_cases g : i < past.length
    · rw [List.getElem?_append_left g] at h
      rcases H.all i t' h with q | ⟨r', q1, q2⟩
      · exact .inl q
      · exact .inr ⟨r', List.mem_cons_of_mem _ q1, q2⟩
    · rw [List.getElem?_append_right (by omega)] at h
      cases e : i - past.length with
      | zero =>
        rw [e] at h
        cases h
        have : i = past.length := by omega
        subst this
        exact .inr ⟨r, List.mem_cons_self .., hr⟩
      | succ k => rw [e] at h; cases h
  · intro r' q
    rcases List.mem_cons.1 q with g | g
    · rw [g, hr.hi]; exact h1
    · exact Nat.le_trans (H.hi r' g) hn
  · intro t' ht k hk
    rcases List.mem_append.1 ht with q | q
    · exact H.old t' q k (Nat.le_trans hn hk)
    · have : t' = t := by simpa using q
      subst this
      exact ho k hk
theorem pairs_cons {past : List Tr} {t : Tr} {T : List Tr} (h1 : ∀ i ti, past[i]? = some ti → PairOk i ti t) (h2 : Pairs (past ++ [t]) T) : Pairs past (t :: T) := by
  intro i j ti tj hi hij hj hjt
  have e : past ++ t :: T = (past ++ [t]) ++ T := by simp
  by_cases g : j = past.length
  · subst g
    rw [List.getElem?_append_right (Nat.le_refl _), Nat.sub_self] at hjt
    cases hjt
    rw [List.getElem?_append_left (by omega)] at hi
    exact h1 i ti hi
  · rw [e] at hi hjt
    exact h2 i j ti tj hi hij (by rw [List.length_append, List.length_singleton]; omega) hjt
theorem pair_quiet {i : Nat} {ti t : Tr} (hq : t.quiet) : PairOk i ti t := fun _ => ⟨fun k h => absurd (hq.2 k) h, fun k h => absurd h (hq.1 k)⟩
/-- what a run of operations one after another comes to -/
structure Traced (P : Program) (all : Array Oper) (l : List Oper) (bs : List Nat) (past : List Tr) (ρ : Rn) (w : World) (fr : Fr) (σ : St) (x : X) (fr' : Fr) (σ' : St) (T : List Tr) : Prop where
  chain : Chain P all fr.tm σ T fr'.tm σ'
  x : x = .nrm
  ds : fr'.ds = fr.ds
  os : T.map (·.o) = l
  ms : T.map (·.m) = bs.take l.length
  pairs : Pairs past T
  stp : ∃ ρ' w', Stp P ρ σ w ρ' σ' w'
theorem traced_cons {all : Array Oper} {o : Oper} {l : List Oper} {m : Nat} {bs : List Nat} {past : List Tr} {ρ ρ1 : Rn} {w w1 : World} {fr : Fr} {σ : St} {x : X} {fr' : Fr} {σ' : St} {T : List Tr} {t : Tr} (hto : t.o = o) (htm : t.m = m) (htt : t.tm = fr.tm) (hts : t.σ = σ) (hok : TrOk P all t)
    (hp : ∀ i ti, past[i]? = some ti → PairOk i ti t) (S : Stp P ρ σ w ρ1 t.σ' w1) (H : Traced P all l bs (past ++ [t]) ρ1 w1 (putT fr o.dst t.v) t.σ' x fr' σ' T) : Traced P all (o :: l) (m :: bs) past ρ w fr σ x fr' σ' (t :: T) := by
  subst hto htm hts
  refine ⟨?_, H.x, ?_, ?_, ?_, pairs_cons hp H.pairs, ?_⟩
  · rw [← htt]
    refine Chain.cons hok ?_
    rw [htt, ← putT_tm]
    exact H.chain
  · rw [H.ds, putT_ds]
  · rw [List.map_cons, H.os]
  · rw [List.map_cons, H.ms, List.length_cons, List.take_succ_cons]
  · obtain ⟨ρ', w', S'⟩ := H.stp
    exact ⟨ρ', w', S.trans S'⟩
theorem trace (hP : StrOk P) {go : Go1} (G : GoOk P go) (all : Array Oper) {n : Nat} : ∀ (l : List Oper) (bs : List Nat) (i : Nat) (rs : List Rec) (fr : Fr) (σ : St) (ρ : Rn) (w : World) (a : Act) (past : List Tr) (x : X) (fr' : Fr) (σ' : St),
    (∀ o ∈ l, ∀ d, o.dst = some d → d < n) → drawE P go all l bs i rs fr σ = .ok x fr' σ' → FrOk ρ n fr a → Rep P ρ σ w → past.length = i → Recs past rs σ → ∃ T, Traced P all l bs past ρ w fr σ x fr' σ' T
  | [], bs, i, rs, fr, σ, ρ, w, a, past, x, fr', σ', _, e, F, R, _, _ => by
    rw [drawE_nil] at e
    cases e
    refine ⟨[], Chain.nil _ _, rfl, rfl, rfl, by simp, ?_, ρ, w, Stp.refl R⟩
    intro i j ti tj _ _ hj hjt
    rw [List.append_nil, List.getElem?_eq_none hj] at hjt
    cases hjt
  | o :: l, [], i, rs, fr, σ, ρ, w, a, past, x, fr', σ', _, e, _, _, _, _ => by
    have e : Cd.err [i, 169] = .ok x fr' σ' := e
    cases e
  | o :: l, m :: bs, i, rs, fr, σ, ρ, w, a, past, x, fr', σ', hd, e, F, R, hi, Rc => by
    subst hi
    have hdo := hd o (List.mem_cons_self ..)
    have ih := trace hP G all (n := n) l bs (past.length + 1)
    have hdl : ∀ o' ∈ l, ∀ d, o'.dst = some d → d < n := fun o' h => hd o' (List.mem_cons_of_mem _ h)
    have gh : ∃ ρ w, Rep P ρ σ w ∧ ∀ x, ∃ u, Den ρ (ev fr.tm x) u := ⟨ρ, w, R, fun x => ⟨_, F.tm x⟩⟩
    have emp : ∀ k e, (St.mk .lf σ.nx []).h.get k = some e → σ.h.get k = some e := by
      intro k e h
      rw [show (St.mk .lf σ.nx []).h.get k = none from TrO.get_lf k] at h
      cases h
    rw [drawE_cons] at e
    cases hg : guardE all fr.tm o with
    | false =>
      rw [hg] at e
      have e : drawE P go all l bs (past.length + 1) rs (putT fr o.dst (.s undef)) σ = .ok x fr' σ' := e
      let t : Tr := { o := o, m := m, g := false, tm := fr.tm, σ := σ, V := ⟨.lf, σ.nx, []⟩, σ1 := ⟨.lf, σ.nx, []⟩, v := .s undef, σ' := σ }
      have nt : ∀ k, ¬ Touch t.V t.σ1 k := by
        rintro k (h | h)
        · cases h
        · have h1 : σ.nx ≤ k := h.1
          have h2 : k < σ.nx := h.2
          omega
      have hq : t.quiet := ⟨nt, fun k => TrO.get_lf k⟩
      have hok : TrOk P all t := ⟨hg, fun _ => ⟨rfl, nt⟩, fun h => (by cases h), ⟨rfl, emp, fun k h => absurd h (nt k), fun k _ => rfl, Nat.le_refl _, Nat.le_refl _, fun k => by show k ∈ σ.W ↔ k ∈ [] ∨ k ∈ σ.W; simp⟩, rfl, fun k h => absurd h (nt k), fun k h => absurd h (nt k), gh⟩
      obtain ⟨T, H⟩ := ih rs (putT fr o.dst (.s undef)) σ ρ w (a.put o.dst undef) (past ++ [t]) x fr' σ' hdl e (F.put hdo (Den.sv undef)) R (by simp) (Rc.quiet hq (Nat.le_refl _))
      exact ⟨t :: T, traced_cons rfl rfl rfl rfl hok (fun _ _ _ => pair_quiet hq) (Stp.refl R) H⟩
    | true =>
      rw [hg] at e
      have e : drawK P go (drawE P go all l) m bs past.length rs fr o σ (kindOf P o) = .ok x fr' σ' := e
      have K := kindOf_ok hP o
      have L := kind_local (P := P) o
      have nosel : ∀ f tm V v σ1, (kindOf P o = .plain f ∨ kindOf P o = .mem f) → f tm V = some (v, σ1) → ∀ cs b, o.op ≠ .select cs b := by
        intro f tm V v σ1 hk hf cs b q
        rw [kind_select q] at hk
        rcases hk with hk | hk
        · cases hk; cases hf
        · cases hk
      cases hk : kindOf P o with
      | plain f =>
        rw [hk] at e K L
        have e : drawPure (drawE P go all l) bs past.length rs fr o σ (f fr.tm ⟨.lf, σ.nx, []⟩) = .ok x fr' σ' := e
        cases hf : f fr.tm ⟨.lf, σ.nx, []⟩ with
        | none => rw [hf] at e; cases e
        | some vs =>
          obtain ⟨v, s⟩ := vs
          rw [hf] at e
          simp only [drawPure] at e
          cases hb : Nat.beq s.nx σ.nx with
          | false => rw [hb] at e; cases e
          | true =>
            cases hw : s.W with
            | cons c r => rw [hb, hw] at e; cases e
            | nil =>
              rw [hb, hw] at e
              have e : drawE P go all l bs (past.length + 1) rs (putT fr o.dst v) σ = .ok x fr' σ' := e
              have hnx : s.nx = σ.nx := Nat.eq_of_beq_eq_true hb
              have H := fn_does K L (nosel f _ _ _ _ (.inl hk) hf) hf
              let t : Tr := { o := o, m := m, g := true, tm := fr.tm, σ := σ, V := ⟨.lf, σ.nx, []⟩, σ1 := s, v := v, σ' := σ }
              have nt : ∀ k, ¬ Touch t.V t.σ1 k := by
                rintro k (h | h)
                · rw [show t.σ1.W = [] from hw] at h; cases h
                · have h1 : σ.nx ≤ k := h.1
                  have h2 : k < s.nx := h.2
                  omega
              have fr0 : Frames t.V t.σ1 t.σ t.σ' := ⟨rfl, emp, fun k h => absurd h (nt k), fun k _ => rfl, Nat.le_refl _, by show s.nx ≤ σ.nx; omega, fun k => by show k ∈ σ.W ↔ k ∈ s.W ∨ k ∈ σ.W; rw [hw]; simp⟩
              obtain ⟨ρ1, w1, u, S, du, _, _, _⟩ := ghost_step (σ := σ) (σ' := σ) H rfl rfl emp F R (fun _ _ _ => fr0)
              have hq : t.quiet := ⟨nt, fun k => TrO.get_lf k⟩
              have hok : TrOk P all t := ⟨hg, fun h => (by cases h), fun _ => H, fr0, rfl, fun k h => absurd h (nt k), fun k h => absurd h (nt k), gh⟩
              obtain ⟨T, HT⟩ := ih rs (putT fr o.dst v) σ ρ1 w1 (a.put o.dst u) (past ++ [t]) x fr' σ' hdl e ((F.mono S.le).put hdo du) S.rep (by simp) (Rc.quiet hq (Nat.le_refl _))
              exact ⟨t :: T, traced_cons rfl rfl rfl rfl hok (fun _ _ _ => pair_quiet hq) S HT⟩
      | mem f =>
        rw [hk] at e K L
        have e : drawM (drawE P go all l) bs past.length rs fr o σ (unordered m rs) (idsOf fr.tm o σ) f = .ok x fr' σ' := e
        unfold drawM at e
        cases hh : (unordered m rs).any (hits (idsOf fr.tm o σ)) with
        | true => rw [hh] at e; cases e
        | false =>
          rw [hh] at e
          have e : drawMem (drawE P go all l) bs past.length rs fr o σ (idsOf fr.tm o σ) (unordered m rs) (f fr.tm (only σ (idsOf fr.tm o σ))) = .ok x fr' σ' := e
          cases hf : f fr.tm (only σ (idsOf fr.tm o σ)) with
          | none => rw [hf] at e; cases e
          | some vs =>
            obtain ⟨v, σ1⟩ := vs
            rw [hf] at e
            simp only [drawMem, drawNext] at e
            cases hh2 : (unordered m rs).any (hitBy σ1.W) with
            | true => rw [hh2] at e; cases e
            | false =>
              rw [hh2] at e
              have H := fn_does K L (nosel f _ _ _ _ (.inr hk) hf) hf
              let t : Tr := { o := o, m := m, g := true, tm := fr.tm, σ := σ, V := only σ (idsOf fr.tm o σ), σ1 := σ1, v := v, σ' := { h := copyL σ1.h σ.h (σ1.W ++ span σ.nx (σ1.nx - σ.nx)), nx := σ1.nx, W := appL σ1.W σ.W } }
              have get : ∀ k, t.V.h.get k = if k ∈ idsOf fr.tm o σ then σ.h.get k else none := fun k => restrict_get σ.h _ k
              have sub : ∀ k e, t.V.h.get k = some e → σ.h.get k = some e := by
                intro k e h
                rw [get k] at h
                by_cases q : k ∈ idsOf fr.tm o σ
                · rw [if_pos q] at h; exact h
                · rw [if_neg q] at h; cases h
              have inids : ∀ k, t.V.h.get k ≠ none → k ∈ idsOf fr.tm o σ := by
                intro k h
                rw [get k] at h
                by_cases q : k ∈ idsOf fr.tm o σ
                · exact q
                · rw [if_neg q] at h; exact absurd rfl h
              obtain ⟨ρ1, w1, u, S, du, Fr, lv, tl⟩ := ghost_step (σ := σ) (σ' := t.σ') H rfl rfl sub F R (fun ρ1 w1 S => frames_mem rfl sub rfl S.nx rfl)
              have hok : TrOk P all t := ⟨hg, fun h => (by cases h), fun _ => H, Fr, rfl, lv, tl, gh⟩
              have hr : RecIs past.length t (past.length, σ.nx, σ1.nx, σ1.W, some (idsOf fr.tm o σ)) := ⟨rfl, rfl, rfl, rfl, fun ids h k hk => by cases h; exact inids k hk⟩
              have none_at : ∀ k, σ.nx ≤ k → t.V.h.get k = none := by
                intro k hk
                cases q : t.V.h.get k with
                | none => rfl
                | some e => have := sub k e q; rw [R.none_of hk] at this; cases this
              have hp : ∀ i ti, past[i]? = some ti → PairOk i ti t := by
                intro i ti hi hm
                rcases Rc.all i ti hi with q | ⟨r, q1, q2⟩
                · exact ⟨fun k _ => q.1 k, fun k _ => q.2 k⟩
                · have hu : r ∈ unordered m rs := mem_unordered.2 ⟨q1, by rw [q2.i]; exact hm⟩
                  constructor
                  · intro k hk htouch
                    obtain ⟨g1, g2⟩ := hits_no (by simpa using List.any_eq_false.1 hh r hu) k (inids k hk)
                    rw [q2.lo, q2.hi] at g1
                    rw [q2.W] at g2
                    rcases htouch with z | z
                    · exact g2 z
                    · exact g1 z
                  · intro k htouch
                    rcases htouch with z | z
                    · obtain ⟨ids, g1, g2⟩ := hitBy_no (by simpa using List.any_eq_false.1 hh2 r hu) k z
                      cases q3 : ti.V.h.get k with
                      | none => rfl
                      | some e => exact absurd (q2.ids ids g1 k (by rw [q3]; simp)) g2
                    · exact Rc.old ti (List.mem_of_getElem? hi) k z.1
              obtain ⟨T, HT⟩ := ih _ (putT fr o.dst v) t.σ' ρ1 w1 (a.put o.dst u) (past ++ [t]) x fr' σ' hdl e ((F.mono S.le).put hdo du) S.rep (by simp) (Rc.loud hr Fr.nx Fr.nx1 (fun k hk => none_at k (Nat.le_trans Fr.nx hk)))
              exact ⟨t :: T, traced_cons rfl rfl rfl rfl hok hp S HT⟩
      | call c =>
        rw [hk] at e K
        have e : drawC P go (drawE P go all l) bs past.length rs fr o σ (unordered m rs) (newOf (unordered m rs)) c = .ok x fr' σ' := e
        unfold drawC at e
        cases hh : (unordered m rs).any (fun r => !r.2.2.2.1.isEmpty) with
        | true => rw [hh] at e; cases e
        | false =>
          rw [hh] at e
          have e : drawCall go (drawE P go all l) bs past.length rs fr o σ (still σ (newOf (unordered m rs))) (newOf (unordered m rs)) (unordered m rs) (calleeE P (still σ (newOf (unordered m rs))) fr.tm c) = .ok x fr' σ' := e
          cases hc : calleeE P (still σ (newOf (unordered m rs))) fr.tm c with
          | none => rw [hc] at e; cases e
          | some fa =>
            obtain ⟨f, args⟩ := fa
            rw [hc] at e
            have e : drawEnd (drawE P go all l) bs past.length rs fr o σ (newOf (unordered m rs)) (unordered m rs) (go f args (still σ (newOf (unordered m rs)))) = .ok x fr' σ' := e
            cases hgo : go f args (still σ (newOf (unordered m rs))) with
            | err q => rw [hgo] at e; cases e
            | ok v σ1 =>
              rw [hgo] at e
              simp only [drawEnd, drawNext] at e
              cases hh2 : (unordered m rs).any (hitBy σ1.W) with
              | true => rw [hh2] at e; cases e
              | false =>
                rw [hh2] at e
                have H := call_does G K.1 hc hgo
                let t : Tr := { o := o, m := m, g := true, tm := fr.tm, σ := σ, V := still σ (newOf (unordered m rs)), σ1 := σ1, v := v, σ' := { h := copyL σ.h σ1.h (newOf (unordered m rs)), nx := σ1.nx, W := appL σ1.W σ.W } }
                have get : ∀ k, t.V.h.get k = if k ∈ newOf (unordered m rs) then none else σ.h.get k := fun k => eraseL_get _ σ.h k
                have sub : ∀ k e, t.V.h.get k = some e → σ.h.get k = some e := by
                  intro k e h
                  rw [get k] at h
                  by_cases q : k ∈ newOf (unordered m rs)
                  · rw [if_pos q] at h; cases h
                  · rw [if_neg q] at h; exact h
                have hgl : ∀ k ∈ newOf (unordered m rs), k < σ.nx := by
                  intro k hk
                  obtain ⟨r, h1, h2, h3⟩ := mem_newOf.1 hk
                  exact Nat.lt_of_lt_of_le h3 (Rc.hi r (mem_unordered.1 h1).1)
                obtain ⟨ρ1, w1, u, S, du, Fr, lv, tl⟩ := ghost_step (σ := σ) (σ' := t.σ') H rfl rfl sub F R (fun ρ1 w1 S => frames_call R S rfl hgl rfl)
                have hok : TrOk P all t := ⟨hg, fun h => (by cases h), fun _ => H, Fr, rfl, lv, tl, gh⟩
                have hr : RecIs past.length t (past.length, σ.nx, σ1.nx, σ1.W, none) := ⟨rfl, rfl, rfl, rfl, fun ids h k hk => by cases h⟩
                have none_at : ∀ k, σ.nx ≤ k → t.V.h.get k = none := by
                  intro k hk
                  cases q : t.V.h.get k with
                  | none => rfl
                  | some e => have := sub k e q; rw [R.none_of hk] at this; cases this
                have hp : ∀ i ti, past[i]? = some ti → PairOk i ti t := by
                  intro i ti hi hm
                  rcases Rc.all i ti hi with q | ⟨r, q1, q2⟩
                  · exact ⟨fun k _ => q.1 k, fun k _ => q.2 k⟩
                  · have hu : r ∈ unordered m rs := mem_unordered.2 ⟨q1, by rw [q2.i]; exact hm⟩
                    have hwe : ti.σ1.W = [] := by
                      have := List.any_eq_false.1 hh r hu
                      rw [q2.W] at this
                      simpa using this
                    constructor
                    · intro k hk htouch
                      rcases htouch with z | z
                      · rw [hwe] at z; cases z
                      · rw [← q2.lo, ← q2.hi] at z
                        rw [get k, if_pos (mem_newOf.2 ⟨r, hu, z⟩)] at hk
                        exact hk rfl
                    · intro k htouch
                      rcases htouch with z | z
                      · obtain ⟨ids, g1, g2⟩ := hitBy_no (by simpa using List.any_eq_false.1 hh2 r hu) k z
                        cases q3 : ti.V.h.get k with
                        | none => rfl
                        | some e => exact absurd (q2.ids ids g1 k (by rw [q3]; simp)) g2
                      · exact Rc.old ti (List.mem_of_getElem? hi) k z.1
                obtain ⟨T, HT⟩ := ih _ (putT fr o.dst v) t.σ' ρ1 w1 (a.put o.dst u) (past ++ [t]) x fr' σ' hdl e ((F.mono S.le).put hdo du) S.rep (by simp) (Rc.loud hr Fr.nx Fr.nx1 (fun k hk => none_at k (Nat.le_trans Fr.nx hk)))
                exact ⟨t :: T, traced_cons rfl rfl rfl rfl hok hp S HT⟩
      | dfr c =>
        rw [hk] at e
        cases e
end Ev
end Go.Proofs.YtkfhapidoolfdaaGreatDoor

namespace Go.Proofs.YtkfhapidoolfdaaGreatDoor
open Go
namespace Ev
variable {P : Program}

/-! ### the steps of a run, one by one -/
theorem Chain.ok {all : Array Oper} : ∀ {tm : TrV} {σ : St} {T : List Tr} {tm' : TrV} {σ' : St}, Chain P all tm σ T tm' σ' → ∀ t ∈ T, TrOk P all t
  | _, _, _, _, _, .nil _ _, t, h => by cases h
  | _, _, _, _, _, .cons ok c, t, h => by
    rcases List.mem_cons.1 h with e | e
    · rw [e]; exact ok
    · exact Chain.ok c t e
theorem Chain.nx {all : Array Oper} : ∀ {tm : TrV} {σ : St} {T : List Tr} {tm' : TrV} {σ' : St}, Chain P all tm σ T tm' σ' → σ.nx ≤ σ'.nx
  | _, _, _, _, _, .nil _ _ => Nat.le_refl _
  | _, _, _, _, _, .cons ok c => Nat.le_trans ok.fr.nx (Chain.nx c)
theorem Chain.lo {all : Array Oper} : ∀ {tm : TrV} {σ : St} {T : List Tr} {tm' : TrV} {σ' : St}, Chain P all tm σ T tm' σ' → ∀ (j : Nat) (t : Tr), T[j]? = some t → σ.nx ≤ t.σ.nx ∧ t.σ'.nx ≤ σ'.nx
  | _, _, _, _, _, .nil _ _, j, t, h => by cases j <;> cases h
  | _, _, _, _, _, .cons ok c, 0, t, h => by cases h; exact ⟨Nat.le_refl _, c.nx⟩
  | _, _, _, _, _, .cons ok c, j + 1, t, h => by
    obtain ⟨h1, h2⟩ := Chain.lo c j t h
    exact ⟨Nat.le_trans ok.fr.nx h1, h2⟩
/-- earlier operations have earlier numbers -/
theorem Chain.mono {all : Array Oper} : ∀ {tm : TrV} {σ : St} {T : List Tr} {tm' : TrV} {σ' : St}, Chain P all tm σ T tm' σ' → ∀ (i j : Nat) (ti tj : Tr), T[i]? = some ti → T[j]? = some tj → i < j → ti.σ'.nx ≤ tj.σ.nx
  | _, _, _, _, _, .nil _ _, i, j, ti, tj, h, _, _ => by cases i <;> cases h
  | _, _, _, _, _, .cons ok c, i, 0, ti, tj, _, _, h => by omega
  | _, _, _, _, _, .cons ok c, 0, j + 1, ti, tj, h1, h2, _ => by
    cases h1
    exact (Chain.lo c j tj h2).1
  | _, _, _, _, _, .cons ok c, i + 1, j + 1, ti, tj, h1, h2, h => Chain.mono c i j ti tj h1 h2 (by omega)
/-! ### what some of the operations come to, in the text's order -/
noncomputable def touchL (t : Tr) : List Nat := t.σ1.W ++ span t.V.nx (t.σ1.nx - t.V.nx)
theorem mem_touchL {t : Tr} {k : Nat} : k ∈ touchL t ↔ Touch t.V t.σ1 k := by
  unfold touchL Touch
  rw [List.mem_append, mem_span]
  constructor
  · rintro (h | h)
    · exact .inl h
    · exact .inr (by omega)
  · rintro (h | h)
    · exact .inl h
    · exact .inr (by omega)
noncomputable def foldH (D : Nat → Bool) : Nat → List Tr → TrO → TrO
  | _, [], h => h
  | i, t :: T, h => foldH D (i + 1) T (match D i with | true => copyL t.σ'.h h (touchL t) | false => h)
noncomputable def foldT (D : Nat → Bool) : Nat → List Tr → TrV → TrV
  | _, [], tm => tm
  | i, t :: T, tm => foldT D (i + 1) T (match D i with | true => putD tm t.o.dst t.v | false => tm)
noncomputable def foldW (D : Nat → Bool) : Nat → List Tr → List Nat → List Nat
  | _, [], W => W
  | i, t :: T, W => foldW D (i + 1) T (match D i with | true => appL t.σ1.W W | false => W)
theorem foldW_mem (D : Nat → Bool) : ∀ (T : List Tr) (i : Nat) (W : List Nat) (k : Nat), k ∈ foldW D i T W ↔ k ∈ W ∨ ∃ j t, T[j]? = some t ∧ D (i + j) = true ∧ k ∈ t.σ1.W
  | [], i, W, k => by
    constructor
    · exact fun h => .inl h
    · rintro (h | ⟨j, t, h, _⟩)
      · exact h
      · cases j <;> cases h
  | t :: T, i, W, k => by
    rw [foldW, foldW_mem D T (i + 1)]
    constructor
    · rintro (h | ⟨j, t', h1, h2, h3⟩)
      · cases e : D i with
        | true =>
          rw [e] at h
          rcases appL_mem.1 h with q | q
          · exact .inr ⟨0, t, rfl, e, q⟩
          · exact .inl q
        | false => rw [e] at h; exact .inl h
      · exact .inr ⟨j + 1, t', h1, by rw [show i + (j + 1) = i + 1 + j by omega]; exact h2, h3⟩
    · rintro (h | ⟨j, t', h1, h2, h3⟩)
      · left
        cases D i with
        | true => exact appL_mem.2 (.inr h)
        | false => exact h
      · cases j with
        | zero =>
          cases h1
          left
          rw [Nat.add_zero] at h2
          rw [h2]
          exact appL_mem.2 (.inl h3)
        | succ j => exact .inr ⟨j, t', h1, by rw [show i + 1 + j = i + (j + 1) by omega]; exact h2, h3⟩
/-- none of those that are done touches k: it is as it was -/
theorem foldH_skip (D : Nat → Bool) (k : Nat) : ∀ (T : List Tr) (i : Nat) (h : TrO), (∀ j t, T[j]? = some t → D (i + j) = true → ¬ Touch t.V t.σ1 k) → (foldH D i T h).get k = h.get k
  | [], i, h, _ => rfl
  | t :: T, i, h, H => by
    rw [foldH, foldH_skip D k T (i + 1) _ (fun j t' h1 h2 => H (j + 1) t' h1 (by rw [show i + (j + 1) = i + 1 + j by omega]; exact h2))]
    cases e : D i with
    | true => rw [copyL_get, if_neg (fun q => H 0 t rfl e (mem_touchL.1 q))]
    | false => rfl
/-- up to operation j all that touch k are done, from there on none: k is as it was ahead of j in the text's order -/
theorem foldH_at {all : Array Oper} (D : Nat → Bool) (k : Nat) : ∀ (T : List Tr) (i j : Nat) (h : TrO) (tm : TrV) (σ : St) (tm' : TrV) (σ' : St), Chain P all tm σ T tm' σ' → h.get k = σ.h.get k →
    (∀ q t, T[q]? = some t → q < j → Touch t.V t.σ1 k → D (i + q) = true) → (∀ q t, T[q]? = some t → j ≤ q → D (i + q) = true → ¬ Touch t.V t.σ1 k) →
    (∀ t, T[j]? = some t → (foldH D i T h).get k = t.σ.h.get k) ∧ (T.length ≤ j → (foldH D i T h).get k = σ'.h.get k)
  | T, i, 0, h, tm, σ, tm', σ', c, hk, _, H2 => by
    have hs := foldH_skip D k T i h (fun q t h1 h2 => H2 q t h1 (Nat.zero_le _) h2)
    constructor
    · intro t ht
      cases c with
      | nil => cases ht
      | cons ok c => cases ht; rw [hs, hk]
    · intro hl
      cases c with
      | nil => rw [hs, hk]
      | cons ok c => simp at hl
  | [], i, j + 1, h, tm, σ, tm', σ', c, hk, _, _ => by
    cases c
    exact ⟨(fun t ht => by cases ht), fun _ => hk⟩
  | t :: T, i, j + 1, h, tm, σ, tm', σ', c, hk, H1, H2 => by
    cases c with
    | cons ok c =>
      have hk' : (match D i with | true => copyL t.σ'.h h (touchL t) | false => h : TrO).get k = t.σ'.h.get k := by
        by_cases g : Touch t.V t.σ1 k
        · have hd : D i = true := H1 0 t rfl (Nat.succ_pos j) g
          rw [hd]
          show (copyL t.σ'.h h (touchL t)).get k = _
          rw [copyL_get, if_pos (mem_touchL.2 g)]
        · rw [ok.fr.u k g]
          cases D i with
          | true =>
            show (copyL t.σ'.h h (touchL t)).get k = _
            rw [copyL_get, if_neg (fun q => g (mem_touchL.1 q)), hk]
          | false => exact hk
      obtain ⟨h1, h2⟩ := foldH_at D k T (i + 1) j _ _ _ tm' σ' c hk' (fun q t' a b d => by
        have := H1 (q + 1) t' a (by omega) d
        rwa [show i + (q + 1) = i + 1 + q by omega] at this) (fun q t' a b d => H2 (q + 1) t' a (by omega) (by rw [show i + (q + 1) = i + 1 + q by omega]; exact d))
      exact ⟨fun t' ht => h1 t' ht, fun hl => h2 (by simp at hl; omega)⟩
/-- the same for variables -/
def Puts (t : Tr) (k : Nat) : Prop := t.o.dst = some k
theorem putD_get (tm : TrV) (d : Option Nat) (v : EV) (k : Nat) : (putD tm d v).get k = if d = some k then some v else tm.get k := by
  cases d with
  | none => simp [putD]
  | some j =>
    rw [putD, TrV.get_put]
    by_cases g : k = j
    · subst g; rw [if_pos rfl, if_pos rfl]
    · rw [if_neg g, if_neg (fun e => g (by cases e; rfl))]
theorem foldT_skip (D : Nat → Bool) (k : Nat) : ∀ (T : List Tr) (i : Nat) (h : TrV), (∀ j t, T[j]? = some t → D (i + j) = true → ¬ Puts t k) → (foldT D i T h).get k = h.get k
  | [], i, h, _ => rfl
  | t :: T, i, h, H => by
    rw [foldT, foldT_skip D k T (i + 1) _ (fun j t' h1 h2 => H (j + 1) t' h1 (by rw [show i + (j + 1) = i + 1 + j by omega]; exact h2))]
    cases e : D i with
    | true =>
      have hn : ¬ t.o.dst = some k := H 0 t rfl e
      rw [putD_get, if_neg hn]
    | false => rfl
theorem foldT_at {all : Array Oper} (D : Nat → Bool) (k : Nat) : ∀ (T : List Tr) (i j : Nat) (h : TrV) (tm : TrV) (σ : St) (tm' : TrV) (σ' : St), Chain P all tm σ T tm' σ' → h.get k = tm.get k →
    (∀ q t, T[q]? = some t → q < j → Puts t k → D (i + q) = true) → (∀ q t, T[q]? = some t → j ≤ q → D (i + q) = true → ¬ Puts t k) →
    (∀ t, T[j]? = some t → (foldT D i T h).get k = t.tm.get k) ∧ (T.length ≤ j → (foldT D i T h).get k = tm'.get k)
  | T, i, 0, h, tm, σ, tm', σ', c, hk, _, H2 => by
    have hs := foldT_skip D k T i h (fun q t h1 h2 => H2 q t h1 (Nat.zero_le _) h2)
    constructor
    · intro t ht
      cases c with
      | nil => cases ht
      | cons ok c => cases ht; rw [hs, hk]
    · intro hl
      cases c with
      | nil => rw [hs, hk]
      | cons ok c => simp at hl
  | [], i, j + 1, h, tm, σ, tm', σ', c, hk, _, _ => by
    cases c
    exact ⟨(fun t ht => by cases ht), fun _ => hk⟩
  | t :: T, i, j + 1, h, tm, σ, tm', σ', c, hk, H1, H2 => by
    cases c with
    | cons ok c =>
      have hk' : (match D i with | true => putD h t.o.dst t.v | false => h : TrV).get k = (putD t.tm t.o.dst t.v).get k := by
        rw [putD_get]
        by_cases g : t.o.dst = some k
        · have hd : D i = true := H1 0 t rfl (Nat.succ_pos j) g
          rw [hd, if_pos g]
          show (putD h t.o.dst t.v).get k = _
          rw [putD_get, if_pos g]
        · rw [if_neg g]
          cases D i with
          | true =>
            show (putD h t.o.dst t.v).get k = _
            rw [putD_get, if_neg g, hk]
          | false => exact hk
      obtain ⟨h1, h2⟩ := foldT_at D k T (i + 1) j _ _ _ tm' σ' c hk' (fun q t' a b d => by
        have := H1 (q + 1) t' a (by omega) d
        rwa [show i + (q + 1) = i + 1 + q by omega] at this) (fun q t' a b d => H2 (q + 1) t' a (by omega) (by rw [show i + (q + 1) = i + 1 + q by omega]; exact d))
      exact ⟨fun t' ht => h1 t' ht, fun hl => h2 (by simp at hl; omega)⟩
/-! ### one operation more -/
def more (D : Nat → Bool) (j : Nat) : Nat → Bool := fun i => match Nat.beq i j with | true => true | false => D i
theorem more_self (D : Nat → Bool) (j : Nat) : more D j j = true := by unfold more; rw [Nat.beq_refl]
theorem more_ne {D : Nat → Bool} {i j : Nat} (h : i ≠ j) : more D j i = D i := by
  unfold more
  cases e : Nat.beq i j with
  | true => exact absurd (Nat.eq_of_beq_eq_true e) h
  | false => rfl
theorem foldH_more_ne (D : Nat → Bool) (j k : Nat) : ∀ (T : List Tr) (i : Nat) (h h' : TrO), h.get k = h'.get k → (∀ q t, T[q]? = some t → i + q = j → ¬ Touch t.V t.σ1 k) → (foldH (more D j) i T h).get k = (foldH D i T h').get k
  | [], i, h, h', e, _ => e
  | t :: T, i, h, h', e, H => by
    rw [foldH, foldH]
    refine foldH_more_ne D j k T (i + 1) _ _ ?_ (fun q t' a b => H (q + 1) t' a (by omega))
    by_cases g : i = j
    · subst g
      rw [more_self]
      show (copyL t.σ'.h h (touchL t)).get k = _
      rw [copyL_get, if_neg (fun q => H 0 t rfl (by omega) (mem_touchL.1 q)), e]
      cases D i with
      | true =>
        show _ = (copyL t.σ'.h h' (touchL t)).get k
        rw [copyL_get, if_neg (fun q => H 0 t rfl (by omega) (mem_touchL.1 q))]
      | false => rfl
    · rw [more_ne g]
      cases D i with
      | true =>
        show (copyL t.σ'.h h (touchL t)).get k = (copyL t.σ'.h h' (touchL t)).get k
        rw [copyL_get, copyL_get, e]
      | false => exact e
theorem foldH_more_eq (D : Nat → Bool) (j k : Nat) : ∀ (T : List Tr) (i : Nat) (h : TrO) (t : Tr) (q : Nat), T[q]? = some t → i + q = j → Touch t.V t.σ1 k → (∀ q' t', T[q']? = some t' → q < q' → D (i + q') = true → ¬ Touch t'.V t'.σ1 k) → (foldH (more D j) i T h).get k = t.σ'.h.get k
  | [], i, h, t, q, ht, _, _, _ => by cases q <;> cases ht
  | t0 :: T, i, h, t, 0, ht, hj, hk, H => by
    cases ht
    rw [foldH, foldH_skip]
    · have : i = j := by omega
      subst this
      rw [more_self]
      show (copyL t0.σ'.h h (touchL t0)).get k = _
      rw [copyL_get, if_pos (mem_touchL.2 hk)]
    · intro q' t' a b
      rw [more_ne (by omega)] at b
      exact H (q' + 1) t' a (by omega) (by rw [show i + (q' + 1) = i + 1 + q' by omega]; exact b)
  | t0 :: T, i, h, t, q + 1, ht, hj, hk, H => by
    rw [foldH]
    exact foldH_more_eq D j k T (i + 1) _ t q ht (by omega) hk (fun q' t' a b d => H (q' + 1) t' a (by omega) (by rw [show i + (q' + 1) = i + 1 + q' by omega]; exact d))
theorem foldT_more_ne (D : Nat → Bool) (j k : Nat) : ∀ (T : List Tr) (i : Nat) (h h' : TrV), h.get k = h'.get k → (∀ q t, T[q]? = some t → i + q = j → ¬ Puts t k) → (foldT (more D j) i T h).get k = (foldT D i T h').get k
  | [], i, h, h', e, _ => e
  | t :: T, i, h, h', e, H => by
    rw [foldT, foldT]
    refine foldT_more_ne D j k T (i + 1) _ _ ?_ (fun q t' a b => H (q + 1) t' a (by omega))
    by_cases g : i = j
    · subst g
      have hn : ¬ t.o.dst = some k := H 0 t rfl (by omega)
      rw [more_self]
      show (putD h t.o.dst t.v).get k = _
      rw [putD_get, if_neg hn, e]
      cases D i with
      | true =>
        show _ = (putD h' t.o.dst t.v).get k
        rw [putD_get, if_neg hn]
      | false => rfl
    · rw [more_ne g]
      cases D i with
      | true =>
        show (putD h t.o.dst t.v).get k = (putD h' t.o.dst t.v).get k
        rw [putD_get, putD_get, e]
      | false => exact e
theorem foldT_more_eq (D : Nat → Bool) (j k : Nat) : ∀ (T : List Tr) (i : Nat) (h : TrV) (t : Tr) (q : Nat), T[q]? = some t → i + q = j → Puts t k → (∀ q' t', T[q']? = some t' → q < q' → D (i + q') = true → ¬ Puts t' k) → (foldT (more D j) i T h).get k = some t.v
  | [], i, h, t, q, ht, _, _, _ => by cases q <;> cases ht
  | t0 :: T, i, h, t, 0, ht, hj, hk, H => by
    cases ht
    rw [foldT, foldT_skip]
    · have : i = j := by omega
      subst this
      rw [more_self]
      have hk' : t0.o.dst = some k := hk
      show (putD h t0.o.dst t0.v).get k = _
      rw [putD_get, if_pos hk']
    · intro q' t' a b
      rw [more_ne (by omega)] at b
      exact H (q' + 1) t' a (by omega) (by rw [show i + (q' + 1) = i + 1 + q' by omega]; exact b)
  | t0 :: T, i, h, t, q + 1, ht, hj, hk, H => by
    rw [foldT]
    exact foldT_more_eq D j k T (i + 1) _ t q ht (by omega) hk (fun q' t' a b d => H (q' + 1) t' a (by omega) (by rw [show i + (q' + 1) = i + 1 + q' by omega]; exact d))
end Ev
end Go.Proofs.YtkfhapidoolfdaaGreatDoor

namespace Go.Proofs.YtkfhapidoolfdaaGreatDoor
open Go
namespace Ev
variable {P : Program}

/-- what is asked of a region whose order is drawn -/
structure DrawOk (ops : Array Oper) : Prop where
  len : (masksOf ops).length = ops.size
  edge : ∀ (j : Nat) (o : Oper) (e : Edge), ops[j]? = some o → e ∈ o.after → Region.binds .any e = true → e.on < j
  mask : ∀ (j : Nat) (o : Oper) (m i : Nat), ops[j]? = some o → (masksOf ops)[j]? = some m → m.testBit i = true → ∃ e ∈ o.after, Region.binds .any e = true ∧ (i = e.on ∨ ∃ m', (masksOf ops)[e.on]? = some m' ∧ m'.testBit i = true)
  tmp : ∀ (i j : Nat) (oi oj : Oper) (t m : Nat), ops[i]? = some oi → ops[j]? = some oj → oi.dst = some t → (oj.dst = some t ∨ Operand.tmp t ∈ oj.op.operands.toList) → i < j → (masksOf ops)[j]? = some m → m.testBit i = true
  tmp' : ∀ (i j : Nat) (oi oj : Oper) (t m : Nat), ops[i]? = some oi → ops[j]? = some oj → oi.dst = some t → (oj.dst = some t ∨ Operand.tmp t ∈ oj.op.operands.toList) → j < i → (masksOf ops)[i]? = some m → m.testBit j = true
  guard : ∀ (j : Nat) (o : Oper) (g : Nat) (want : Bool) (m : Nat), ops[j]? = some o → o.guard = some (g, want) → (masksOf ops)[j]? = some m → m.testBit g = true ∧ g < j ∧ ∀ og t, ops[g]? = some og → og.dst = some t → ∀ i oi, ops[i]? = some oi → oi.dst = some t → i = g
/-- a region's run in the text's order -/
structure Reg (P : Program) (ops : Array Oper) (T : List Tr) (fr0 : Fr) (σ0 : St) (tmN : TrV) (σN : St) : Prop where
  D : DrawOk ops
  chain : Chain P ops fr0.tm σ0 T tmN σN
  pairs : Pairs [] T
  os : T.map (·.o) = ops.toList
  ms : T.map (·.m) = masksOf ops
section
variable {ops : Array Oper} {T : List Tr} {fr0 : Fr} {σ0 σN : St} {tmN : TrV}
theorem Reg.o (H : Reg P ops T fr0 σ0 tmN σN) {j : Nat} {t : Tr} (h : T[j]? = some t) : ops[j]? = some t.o := by
  rw [← Array.getElem?_toList, ← H.os, List.getElem?_map, h]; rfl
theorem Reg.m (H : Reg P ops T fr0 σ0 tmN σN) {j : Nat} {t : Tr} (h : T[j]? = some t) : (masksOf ops)[j]? = some t.m := by
  rw [← H.ms, List.getElem?_map, h]; rfl
theorem Reg.len (H : Reg P ops T fr0 σ0 tmN σN) : T.length = ops.size := by
  rw [← Array.length_toList, ← H.os, List.length_map]
theorem Reg.at_ (H : Reg P ops T fr0 σ0 tmN σN) {j : Nat} {o : Oper} (h : ops[j]? = some o) : ∃ t, T[j]? = some t ∧ t.o = o := by
  rw [← Array.getElem?_toList, ← H.os, List.getElem?_map] at h
  cases e : T[j]? with
  | none => rw [e] at h; cases h
  | some t => rw [e] at h; cases h; exact ⟨t, rfl, rfl⟩
theorem Reg.pair (H : Reg P ops T fr0 σ0 tmN σN) {i j : Nat} {ti tj : Tr} (hi : T[i]? = some ti) (hj : T[j]? = some tj) (h : i < j) : PairOk i ti tj :=
  H.pairs i j ti tj hi h (Nat.zero_le _) hj
/-- the state behind the operations of D, N: the last number -/
structure DS (P : Program) (T : List Tr) (fr0 : Fr) (n : Nat) (ρ0 : Rn) (σ0 : St) (w0 : World) (N : Nat) (D : Nat → Bool) (ρ : Rn) (a : Act) (w : World) : Prop where
  stp : StpW P ρ0 ⟨σ0.h, N, σ0.W⟩ w0 ρ ⟨foldH D 0 T σ0.h, N, foldW D 0 T σ0.W⟩ w
  fresh : ∀ j t, T[j]? = some t → D j = false → ∀ k, t.V.nx ≤ k → k < t.σ1.nx → ρ k = none
  old : ∀ k, k < σ0.nx → ρ k = ρ0 k
  fr : FrOk ρ n { tm := foldT D 0 T fr0.tm, ds := fr0.ds } a
  cl : ∀ j t b, T[j]? = some t → D j = true → t.m.testBit b = true → D b = true
theorem Rep.congr {ρ : Rn} {σ σ' : St} {w : World} (R : Rep P ρ σ w) (h : ∀ k, σ'.h.get k = σ.h.get k) (hn : σ'.nx = σ.nx) : Rep P ρ σ' w :=
  ⟨fun k e hk => R.blk k e (by rw [← h k]; exact hk), fun i j a c d hi hj => R.inj i j a c d (by rw [← h i]; exact hi) (by rw [← h j]; exact hj), fun k hk => R.lim k (by omega), R.inb⟩
theorem ev_get {tm tm' : TrV} {k : Nat} (h : tm.get k = tm'.get k) : ev tm (.tmp k) = ev tm' (.tmp k) := by
  show Option.rec (motive := fun _ => EV) (.s undef) (fun v => v) (tm.get k) = Option.rec (motive := fun _ => EV) (.s undef) (fun v => v) (tm'.get k)
  rw [h]
/-- variables behind one operation more -/
theorem tm_more {ρ : Rn} {n : Nat} {D : Nat → Bool} {a : Act} {j : Nat} {t : Tr} (H : Reg P ops T fr0 σ0 tmN σN) (F : FrOk ρ n { tm := foldT D 0 T fr0.tm, ds := fr0.ds } a) (hj : T[j]? = some t) (hD : ∀ i ti, T[i]? = some ti → D i = true → ti.m.testBit j = false)
    (hd : ∀ d, t.o.dst = some d → d < n) {u : Value} (du : Den ρ t.v u) : FrOk ρ n { tm := foldT (more D j) 0 T fr0.tm, ds := fr0.ds } (a.put t.o.dst u) := by
  have F2 := F.put hd du
  refine ⟨F2.size, ?_, by have := F2.ds; rwa [putT_ds] at this⟩
  intro x
  cases x with
  | tmp k =>
    have e : ev (foldT (more D j) 0 T fr0.tm) (.tmp k) = ev (putT { tm := foldT D 0 T fr0.tm, ds := fr0.ds } t.o.dst t.v).tm (.tmp k) := by
      apply ev_get
      rw [putT_tm, putD_get]
      by_cases g : t.o.dst = some k
      · rw [if_pos g]
        refine foldT_more_eq D j k T 0 fr0.tm t j hj (Nat.zero_add j) g ?_
        intro q t' h1 h2 h3 h4
        rw [Nat.zero_add] at h3
        have := H.D.tmp j q t.o t'.o k t'.m (H.o hj) (H.o h1) g (.inl h4) h2 (H.m h1)
        rw [hD q t' h1 h3] at this
        cases this
      · rw [if_neg g]
        refine foldT_more_ne D j k T 0 _ _ rfl ?_
        intro q t' h1 h2
        have : q = j := by omega
        subst this
        rw [hj] at h1
        cases h1
        exact g
    show Den ρ (ev (foldT (more D j) 0 T fr0.tm) (.tmp k)) _
    rw [e]
    exact F2.tm (.tmp k)
  | const c => exact F2.tm (.const c)
  | global g => exact F2.tm (.global g)
  | func g => exact F2.tm (.func g)
theorem StpW.congr {ρ ρ' : Rn} {σ σ' σ'' : St} {w w' : World} (S : StpW P ρ σ w ρ' σ' w') (h : ∀ k, σ''.h.get k = σ'.h.get k) (hn : σ''.nx = σ'.nx) (hW : ∀ k, k ∈ σ''.W ↔ k ∈ σ'.W) : StpW P ρ σ w ρ' σ'' w' := by
  have wr : ∀ a, Wrote ρ σ'.W a ↔ Wrote ρ σ''.W a := fun a => ⟨fun ⟨k, h1, h2⟩ => ⟨k, (hW k).2 h1, h2⟩, fun ⟨k, h1, h2⟩ => ⟨k, (hW k).1 h1, h2⟩⟩
  exact ⟨S.rep.congr h hn, S.le, fun k hk => (hW k).2 (S.wr k hk), fun k a c e => (S.ext k a c e).imp id (fun q => q.imp id (fun z => (wr a).1 z)), S.size, fun a ha hn => S.keep a ha (fun z => hn ((wr a).1 z)), S.os, S.out, S.tape⟩
theorem OpEnds.mono {o : Oper} {η : Operand → Value} {w : World} {R R' : Value → World → Prop} (h : OpEnds P o η w R) (hr : ∀ u w', R u w' → R' u w') : OpEnds P o η w R' := by
  rcases h with ⟨u, w', h1, h2⟩ | ⟨w', h1, h2⟩ | ⟨f, args, w0, h1, h2⟩
  · exact .inl ⟨u, w', h1, hr u w' h2⟩
  · exact .inr (.inl ⟨w', h1, hr _ w' h2⟩)
  · refine .inr (.inr ⟨f, args, w0, h1, h2.mono ?_⟩)
    intro e w' he
    cases e with
    | returned u => exact hr u w' he
    | panicked c => exact he.elim
    | outgrown => exact he.elim
theorem guardE_get {all : Array Oper} {o : Oper} {tm tm' : TrV} (h : ∀ g want og t, o.guard = some (g, want) → all[g]? = some og → og.dst = some t → tm.get t = tm'.get t) : guardE all tm o = guardE all tm' o := by
  unfold guardE
  cases e : o.guard with
  | none => rfl
  | some jw =>
    obtain ⟨g, want⟩ := jw
    show guardJ all tm (g, want) = guardJ all tm' (g, want)
    unfold guardJ
    cases e1 : all[g]? with
    | none => simp only [e1]
    | some og =>
      simp only [e1]
      cases e2 : og.dst with
      | none => rfl
      | some t =>
        simp only
        rw [h g want og t e e1 e2]
theorem foldW_more {D : Nat → Bool} {j : Nat} {t : Tr} (hj : T[j]? = some t) (k : Nat) (W : List Nat) : k ∈ foldW (more D j) 0 T W ↔ k ∈ t.σ1.W ∨ k ∈ foldW D 0 T W := by
  rw [foldW_mem, foldW_mem]
  constructor
  · rintro (h | ⟨q, t', h1, h2, h3⟩)
    · exact .inr (.inl h)
    · by_cases g : q = j
      · subst g
        rw [hj] at h1
        cases h1
        exact .inl h3
      · rw [Nat.zero_add, more_ne g] at h2
        exact .inr (.inr ⟨q, t', h1, by rw [Nat.zero_add]; exact h2, h3⟩)
  · rintro (h | h | ⟨q, t', h1, h2, h3⟩)
    · exact .inr ⟨j, t, hj, by rw [Nat.zero_add, more_self], h⟩
    · exact .inl h
    · refine .inr ⟨q, t', h1, ?_, h3⟩
      rw [Nat.zero_add] at h2 ⊢
      by_cases g : q = j
      · rw [g, more_self]
      · rw [more_ne g]; exact h2
/-- one operation that may come next -/
theorem ds_step {n : Nat} {ρ0 : Rn} {w0 : World} {D : Nat → Bool} {ρ : Rn} {a : Act} {w : World} {j : Nat} {t : Tr} (H : Reg P ops T fr0 σ0 tmN σN) (S : DS P T fr0 n ρ0 σ0 w0 σN.nx D ρ a w) (hj : T[j]? = some t) (hDj : D j = false) (hm : ∀ b, t.m.testBit b = true → D b = true) (hd : ∀ d, t.o.dst = some d → d < n) :
    Region.wanted t.o (yielded ops a.tmps) = t.g ∧ (t.g = false → DS P T fr0 n ρ0 σ0 w0 σN.nx (more D j) ρ (a.put t.o.dst undef) w) ∧
      (t.g = true → OpEnds P t.o a.eval w fun u w' => ∃ ρ', DS P T fr0 n ρ0 σ0 w0 σN.nx (more D j) ρ' (a.put t.o.dst u) w') := by
  have ok := H.chain.ok t (List.mem_of_getElem? hj)
  have later : ∀ i ti, T[i]? = some ti → D i = true → ti.m.testBit j = false := by
    intro i ti hi hDi
    cases e : ti.m.testBit j with
    | false => rfl
    | true => rw [S.cl i ti j hi hDi e] at hDj; cases hDj
  have earlier : ∀ i, D i = false → t.m.testBit i = false := by
    intro i hi
    cases e : t.m.testBit i with
    | false => rfl
    | true => rw [hm i e] at hi; cases hi
  have tmE : ∀ k, Operand.tmp k ∈ t.o.op.operands.toList → (foldT D 0 T fr0.tm).get k = t.tm.get k := by
    intro k hk
    refine (foldT_at D k T 0 j fr0.tm fr0.tm σ0 tmN σN H.chain rfl ?_ ?_).1 t hj
    · intro q tq hq hlt hput
      rw [Nat.zero_add]
      exact hm q (H.D.tmp q j tq.o t.o k t.m (H.o hq) (H.o hj) hput (.inr hk) hlt (H.m hj))
    · intro q tq hq hle hDq hput
      rw [Nat.zero_add] at hDq
      have hne : q ≠ j := by intro e; rw [e, hDj] at hDq; cases hDq
      have := H.D.tmp' q j tq.o t.o k tq.m (H.o hq) (H.o hj) hput (.inr hk) (by omega) (H.m hq)
      rw [later q tq hq hDq] at this
      cases this
  have hg : Region.wanted t.o (yielded ops a.tmps) = t.g := by
    rw [← guard_D S.fr ops t.o, ← ok.guard]
    apply guardE_get
    intro g want og tg e1 e2 e3
    obtain ⟨g1, g2, g3⟩ := H.D.guard j t.o g want t.m (H.o hj) e1 (H.m hj)
    refine (foldT_at D tg T 0 j fr0.tm fr0.tm σ0 tmN σN H.chain rfl ?_ ?_).1 t hj
    · intro q tq hq hlt hput
      rw [Nat.zero_add, g3 og tg e2 e3 q tq.o (H.o hq) hput]
      exact hm g g1
    · intro q tq hq hle hDq hput
      have := g3 og tg e2 e3 q tq.o (H.o hq) hput
      omega
  have cl : ∀ i ti b, T[i]? = some ti → more D j i = true → ti.m.testBit b = true → more D j b = true := by
    intro i ti b hi h1 h2
    have hb : D b = true := by
      by_cases g : i = j
      · subst g
        rw [hj] at hi
        cases hi
        exact hm b h2
      · rw [more_ne g] at h1
        exact S.cl i ti b hi h1 h2
    by_cases g : b = j
    · rw [g, more_self]
    · rw [more_ne g]; exact hb
  refine ⟨hg, ?_, ?_⟩
  · intro hgf
    obtain ⟨hv, nt⟩ := ok.skip hgf
    refine ⟨S.stp.congr ?_ rfl ?_, ?_, S.old, ?_, cl⟩
    · intro k
      refine foldH_more_ne D j k T 0 _ _ rfl ?_
      intro q t' h1 h2
      have : q = j := by omega
      subst this
      rw [hj] at h1
      cases h1
      exact nt k
    · intro k
      show k ∈ foldW (more D j) 0 T σ0.W ↔ k ∈ foldW D 0 T σ0.W
      rw [foldW_more hj]
      exact ⟨fun h => h.elim (fun q => absurd (.inl q) (nt k)) id, .inr⟩
    · intro i ti hi h1
      by_cases g : i = j
      · rw [g, more_self] at h1; cases h1
      · rw [more_ne g] at h1; exact S.fresh i ti hi h1
    · have := tm_more H S.fr hj later hd (u := undef) (by rw [hv]; exact Den.sv undef)
      exact this
  · intro hgt
    have heapE : ∀ k, t.V.h.get k ≠ none → (foldH D 0 T σ0.h).get k = t.σ.h.get k := by
      intro k hk
      refine (foldH_at D k T 0 j σ0.h fr0.tm σ0 tmN σN H.chain rfl ?_ ?_).1 t hj
      · intro q tq hq hlt htouch
        rw [Nat.zero_add]
        cases e : D q with
        | true => rfl
        | false => exact absurd htouch ((H.pair hq hj hlt (earlier q e)).1 k hk)
      · intro q tq hq hle hDq htouch
        rw [Nat.zero_add] at hDq
        have hne : q ≠ j := by intro e; rw [e, hDj] at hDq; cases hDq
        exact hk ((H.pair hj hq (by omega) (later q tq hq hDq)).2 k htouch)
    obtain ⟨ρg, wg, G, Gtm⟩ := ok.ghost
    have R := S.stp.rep
    have sub : ∀ k e, t.V.h.get k = some e → (foldH D 0 T σ0.h).get k = some e := by
      intro k e h
      rw [heapE k (by rw [h]; simp)]
      exact ok.fr.sub k e h
    have RV : Rep P (cut ρ t.V.nx) t.V w := R.view G (fun k e h => ⟨sub k e h, ok.fr.sub k e h⟩) ok.vnx
    have hb : ∀ k, t.V.nx ≤ k → ρg k = none := fun k hk => G.lim k (by rw [← ok.vnx]; exact hk)
    have DV : ∀ x ∈ t.o.op.operands.toList, Den (cut ρ t.V.nx) (ev t.tm x) (a.eval x) := by
      intro x hx
      obtain ⟨u', d'⟩ := Gtm x
      have d := S.fr.tm x
      have e : ev (foldT D 0 T fr0.tm) x = ev t.tm x := by
        cases x with
        | tmp k => exact ev_get (tmE k hx)
        | _ => rfl
      have d : Den ρ (ev (foldT D 0 T fr0.tm) x) (a.eval x) := d
      rw [e] at d
      exact Den.cut hb d d'
    refine (ok.does hgt (cut ρ t.V.nx) w a.eval RV DV).mono ?_
    rintro u w' ⟨ρ1, du, S1⟩
    have hlo := H.chain.lo j t hj
    have F : Frames t.V t.σ1 ⟨foldH D 0 T σ0.h, σN.nx, foldW D 0 T σ0.W⟩ ⟨foldH (more D j) 0 T σ0.h, σN.nx, foldW (more D j) 0 T σ0.W⟩ := by
      refine ⟨ok.fr.nil, sub, ?_, ?_, Nat.le_refl _, Nat.le_trans ok.fr.nx1 hlo.2, fun k => foldW_more hj k σ0.W⟩
      · intro k hk
        rw [← ok.fr.t k hk]
        refine foldH_more_eq D j k T 0 σ0.h t j hj (Nat.zero_add j) hk ?_
        intro q tq hq hlt hDq htouch
        rw [Nat.zero_add] at hDq
        have okq := H.chain.ok tq (List.mem_of_getElem? hq)
        rcases okq.live k htouch with z | z
        · exact (H.pair hj hq hlt (later q tq hq hDq)).1 k z hk
        · have h1 := ok.tlt k hk
          have h2 := H.chain.mono j q t tq hj hq hlt
          omega
      · intro k hk
        refine foldH_more_ne D j k T 0 _ _ rfl ?_
        intro q t' h1 h2
        have : q = j := by omega
        subst this
        rw [hj] at h1
        cases h1
        exact hk
    obtain ⟨ρ', SW, le1, hout⟩ := frame R S1 F (fun k h1 h2 => S.fresh j t hj hDj k h1 h2)
    refine ⟨ρ', S.stp.trans SW, ?_, ?_, tm_more H (S.fr.mono SW.le) hj later hd (Den.mono le1 du), cl⟩
    · intro i ti hi h1 k k1 k2
      by_cases g : i = j
      · rw [g, more_self] at h1; cases h1
      · rw [more_ne g] at h1
        rw [hout k ?_]
        · exact S.fresh i ti hi h1 k k1 k2
        · have oki := H.chain.ok ti (List.mem_of_getElem? hi)
          have v1 := oki.vnx
          have v2 := ok.vnx
          have v3 := oki.fr.nx1
          have v4 := ok.fr.nx1
          rcases Nat.lt_or_gt_of_ne g with q | q
          · have := H.chain.mono i j ti t hi hj q
            omega
          · have := H.chain.mono j i t ti hj hi q
            omega
    · intro k hk
      have v2 := ok.vnx
      rw [hout k (by omega)]
      exact S.old k hk
end
end Ev
end Go.Proofs.YtkfhapidoolfdaaGreatDoor

namespace Go.Proofs.YtkfhapidoolfdaaGreatDoor
open Go
namespace Ev
variable {P : Program}

section
variable {ops : Array Oper} {T : List Tr} {fr0 : Fr} {σ0 σN : St} {tmN : TrV}
theorem Chain.W {all : Array Oper} : ∀ {tm : TrV} {σ : St} {T : List Tr} {tm' : TrV} {σ' : St}, Chain P all tm σ T tm' σ' → ∀ (k : Nat), k ∈ σ'.W ↔ k ∈ σ.W ∨ ∃ (j : Nat) (t : Tr), T[j]? = some t ∧ k ∈ t.σ1.W
  | _, _, _, _, _, .nil _ _, k => by
    constructor
    · exact fun h => .inl h
    · rintro (h | ⟨j, t, h, _⟩)
      · exact h
      · cases j <;> cases h
  | _, _, _, _, _, .cons (t := t) ok c, k => by
    rw [Chain.W c k, ok.fr.W k]
    constructor
    · rintro ((h | h) | ⟨j, t', h1, h2⟩)
      · exact .inr ⟨0, t, rfl, h⟩
      · exact .inl h
      · exact .inr ⟨j + 1, t', h1, h2⟩
    · rintro (h | ⟨j, t', h1, h2⟩)
      · exact .inl (.inr h)
      · cases j with
        | zero => cases h1; exact .inl (.inl h2)
        | succ j => exact .inr ⟨j, t', h1, h2⟩
theorem FrOk.tmc {ρ : Rn} {n : Nat} {tm tm' : TrV} {ds : List (FuncId × List EV)} {a : Act} (F : FrOk ρ n { tm := tm, ds := ds } a) (h : ∀ k, tm'.get k = tm.get k) : FrOk ρ n { tm := tm', ds := ds } a := by
  refine ⟨F.size, ?_, F.ds⟩
  intro x
  cases x with
  | tmp k =>
    show Den ρ (ev tm' (.tmp k)) _
    rw [ev_get (h k)]
    exact F.tm (.tmp k)
  | const c => exact F.tm (.const c)
  | global g => exact F.tm (.global g)
  | func g => exact F.tm (.func g)
/-- nothing is done yet -/
theorem ds_start {n : Nat} {ρ : Rn} {w : World} {a : Act} {D : Nat → Bool} (H : Reg P ops T fr0 σ0 tmN σN) (hD : ∀ i, i < ops.size → D i = false) (R : Rep P ρ σ0 w) (F : FrOk ρ n fr0 a) : DS P T fr0 n ρ σ0 w σN.nx D ρ a w := by
  have none : ∀ j t, T[j]? = some t → D j = false := by
    intro j t h
    refine hD j ?_
    rw [← H.len]
    exact (List.getElem?_eq_some_iff.1 h).1
  have R' : Rep P ρ ⟨σ0.h, σN.nx, σ0.W⟩ w := ⟨R.blk, R.inj, fun k hk => R.lim k (Nat.le_trans H.chain.nx hk), R.inb⟩
  refine ⟨(StpW.refl R').congr ?_ rfl ?_, ?_, fun _ _ => rfl, ?_, ?_⟩
  · intro k
    exact foldH_skip D k T 0 σ0.h (fun j t h1 h2 => by rw [Nat.zero_add, none j t h1] at h2; cases h2)
  · intro k
    show k ∈ foldW D 0 T σ0.W ↔ k ∈ σ0.W
    rw [foldW_mem]
    constructor
    · rintro (h | ⟨j, t, h1, h2, _⟩)
      · exact h
      · rw [Nat.zero_add, none j t h1] at h2; cases h2
    · exact fun h => .inl h
  · intro j t hj _ k h1 _
    have ok := H.chain.ok t (List.mem_of_getElem? hj)
    have h2 := (H.chain.lo j t hj).1
    have h3 := ok.vnx
    exact R.lim k (by omega)
  · exact FrOk.tmc (tm := fr0.tm) F (fun k => foldT_skip D k T 0 fr0.tm (fun j t h1 h2 => by rw [Nat.zero_add, none j t h1] at h2; cases h2))
  · intro j t b h1 h2
    rw [none j t h1] at h2; cases h2
/-- all is done -/
theorem ds_end {n : Nat} {ρ0 ρ : Rn} {w0 w : World} {a : Act} {D : Nat → Bool} (H : Reg P ops T fr0 σ0 tmN σN) (hD : ∀ i, i < ops.size → D i = true) (S : DS P T fr0 n ρ0 σ0 w0 σN.nx D ρ a w) {ρg : Rn} {w1 wg : World} (G : Stp P ρ0 σ0 w1 ρg σN wg) :
    FrOk ρ n { tm := tmN, ds := fr0.ds } a ∧ Stp P ρ0 σ0 w0 ρ σN w := by
  have all : ∀ j t, T[j]? = some t → D j = true := by
    intro j t h
    refine hD j ?_
    rw [← H.len]
    exact (List.getElem?_eq_some_iff.1 h).1
  have hh : ∀ k, σN.h.get k = (foldH D 0 T σ0.h).get k := by
    intro k
    exact ((foldH_at D k T 0 T.length σ0.h fr0.tm σ0 tmN σN H.chain rfl (fun q t h1 _ _ => by rw [Nat.zero_add]; exact all q t h1) (fun q t h1 h2 _ => by rw [List.getElem?_eq_none h2] at h1; cases h1)).2 (Nat.le_refl _)).symm
  have hW : ∀ k, k ∈ σN.W ↔ k ∈ foldW D 0 T σ0.W := by
    intro k
    rw [H.chain.W k, foldW_mem]
    constructor
    · rintro (h | ⟨j, t, h1, h2⟩)
      · exact .inl h
      · exact .inr ⟨j, t, h1, by rw [Nat.zero_add]; exact all j t h1, h2⟩
    · rintro (h | ⟨j, t, h1, _, h2⟩)
      · exact .inl h
      · exact .inr ⟨j, t, h1, h2⟩
  have SW := S.stp.congr (σ'' := σN) hh rfl hW
  refine ⟨FrOk.tmc S.fr ?_, ⟨SW.rep, SW.le, G.nx, SW.wr, SW.ext, SW.size, SW.keep, SW.os, SW.out, SW.tape, G.dom, G.live, G.same, S.old⟩⟩
  intro k
  exact ((foldT_at D k T 0 T.length fr0.tm fr0.tm σ0 tmN σN H.chain rfl (fun q t h1 _ _ => by rw [Nat.zero_add]; exact all q t h1) (fun q t h1 h2 _ => by rw [List.getElem?_eq_none h2] at h1; cases h1)).2 (Nat.le_refl _)).symm
/-! ### the order is drawn -/
theorem mem_ready' {listed : Array Bool} {i : Nat} : i ∈ Region.ready .any ops listed ↔ i < ops.size ∧ listed.getD i true = false ∧ ∃ o, ops[i]? = some o ∧ ∀ e ∈ o.after, Region.binds .any e = true → listed.getD e.on false = true := by
  unfold Region.ready
  rw [List.mem_filter, List.mem_range]
  constructor
  · rintro ⟨h1, h2⟩
    rw [Bool.and_eq_true] at h2
    obtain ⟨h3, h4⟩ := h2
    refine ⟨h1, by simpa using h3, ?_⟩
    cases e : ops[i]? with
    | none => rw [e] at h4; cases h4
    | some o =>
      rw [e] at h4
      refine ⟨o, rfl, ?_⟩
      intro ed hed hb
      have h5 : o.after.all (fun e => !Region.binds .any e || listed.getD e.on false) = true := h4
      rw [Array.all_eq_true'] at h5
      have := h5 ed hed
      rw [hb] at this
      simpa using this
  · rintro ⟨h1, h2, o, h3, h4⟩
    refine ⟨h1, ?_⟩
    rw [Bool.and_eq_true]
    refine ⟨by simp [h2], ?_⟩
    rw [h3]
    show o.after.all (fun e => !Region.binds .any e || listed.getD e.on false) = true
    rw [Array.all_eq_true']
    intro ed hed
    cases hb : Region.binds .any ed with
    | false => rfl
    | true => simpa using h4 ed hed hb
theorem ready_nil {listed : Array Bool} (hD : DrawOk ops) (hs : listed.size = ops.size) (h : Region.ready .any ops listed = []) : ∀ i, i < ops.size → listed.getD i true = true := by
  intro i
  induction i using Nat.strongRecOn with
  | _ i ih =>
    intro hi
    cases e : listed.getD i true with
    | true => rfl
    | false =>
      have : i ∈ Region.ready .any ops listed := by
        rw [mem_ready']
        refine ⟨hi, e, ops[i], Array.getElem?_eq_getElem hi, ?_⟩
        intro ed hed hb
        have hlt := hD.edge i _ ed (Array.getElem?_eq_getElem hi) hed hb
        have h1 := ih ed.on hlt (by omega)
        rw [Array.getD_eq_getD_getElem?] at h1 ⊢
        rw [Array.getElem?_eq_getElem (by omega)] at h1 ⊢
        exact h1
      rw [h] at this
      cases this
theorem getD_more {listed : Array Bool} {i : Nat} (h : i < listed.size) : (fun k => (listed.setIfInBounds i true).getD k true) = more (fun k => listed.getD k true) i := by
  funext k
  show (listed.setIfInBounds i true).getD k true = more (fun k => listed.getD k true) i k
  rw [Array.getD_eq_getD_getElem?, Array.getElem?_setIfInBounds]
  by_cases g : i = k
  · subst g
    rw [if_pos rfl, if_pos h, more_self]; rfl
  · rw [if_neg g, more_ne (fun e => g e.symm), ← Array.getD_eq_getD_getElem?]
theorem any_ok {n : Nat} {ρ0 : Rn} {w0 : World} {Q : Exit → Act → World → Prop} (H : Reg P ops T fr0 σ0 tmN σN) (hd : ∀ o ∈ ops.toList, ∀ d, o.dst = some d → d < n)
    (fin : ∀ (D : Nat → Bool) (ρ : Rn) (a : Act) (w : World), (∀ i, i < ops.size → D i = true) → DS P T fr0 n ρ0 σ0 w0 σN.nx D ρ a w → Q .normal a w) :
    ∀ (fuel : Nat) (listed : Array Bool) (a : Act) (w : World) (ρ : Rn), listed.size = ops.size → listed.toList.countP (fun b => !b) = fuel → DS P T fr0 n ρ0 σ0 w0 σN.nx (fun k => listed.getD k true) ρ a w → wpAny P .any ops Q fuel listed a w
  | 0, listed, a, w, ρ, hs, hc, S => by
    have hall : ∀ i, i < ops.size → listed.getD i true = true := by
      intro i hi
      have hi' : i < listed.size := by omega
      rw [Array.getD_eq_getD_getElem?, Array.getElem?_eq_getElem hi']
      have h0 := List.countP_eq_zero.1 hc listed[i] (by simp)
      simpa using h0
    refine ⟨?_, fin _ ρ a w hall S⟩
    cases e : Region.ready .any ops listed with
    | nil => rfl
    | cons i r =>
      have : i ∈ Region.ready .any ops listed := by rw [e]; exact List.mem_cons_self ..
      obtain ⟨h1, h2, _⟩ := mem_ready'.1 this
      rw [hall i h1] at h2
      cases h2
  | fuel + 1, listed, a, w, ρ, hs, hc, S => by
    refine ⟨fun h => fin _ ρ a w (ready_nil H.D hs h) S, ?_⟩
    intro j hj
    obtain ⟨h1, h2, o, h3, h4⟩ := mem_ready'.1 hj
    obtain ⟨t, ht, hto⟩ := H.at_ h3
    have hjl : j < listed.size := by omega
    have hmask : ∀ b, t.m.testBit b = true → listed.getD b true = true := by
      intro b hb
      obtain ⟨e, he, hbind, hcase⟩ := H.D.mask j o t.m b h3 (H.m ht) hb
      have hlt := H.D.edge j o e h3 he hbind
      have hel := h4 e he hbind
      have hel' : listed.getD e.on true = true := by
        rw [Array.getD_eq_getD_getElem?] at hel ⊢
        rw [Array.getElem?_eq_getElem (show e.on < listed.size by omega)] at hel ⊢
        exact hel
      rcases hcase with q | ⟨m', q1, q2⟩
      · rw [q]; exact hel'
      · obtain ⟨te, hte, _⟩ := H.at_ (Array.getElem?_eq_getElem (show e.on < ops.size by omega))
        have := H.m hte
        rw [q1] at this
        have : m' = te.m := by cases this; rfl
        rw [this] at q2
        exact S.cl e.on te b hte hel' q2
    have hdo : ∀ d, t.o.dst = some d → d < n := by
      rw [hto]
      exact hd o (by rw [← Array.getElem?_toList] at h3; exact List.mem_of_getElem? h3)
    obtain ⟨k1, k2, k3⟩ := ds_step H S ht h2 hmask hdo
    rw [hto] at k1 k2 k3
    have hcount : (listed.setIfInBounds j true).toList.countP (fun b => !b) = fuel := by
      rw [Array.toList_setIfInBounds, List.countP_set (by rw [Array.length_toList]; exact hjl), hc]
      have : listed.toList[j]'(by rw [Array.length_toList]; exact hjl) = false := by
        rw [Array.getD_eq_getD_getElem?, Array.getElem?_eq_getElem hjl] at h2
        simpa using h2
      rw [this]
      simp
    have ih := fun a w ρ S => any_ok H hd fin fuel (listed.setIfInBounds j true) a w ρ (by rw [Array.size_setIfInBounds]; exact hs) hcount S
    unfold wpOp
    rw [h3]
    show if _ then _ else _
    rw [k1]
    cases hg : t.g with
    | false =>
      rw [if_neg (by simp)]
      refine ih _ _ ρ ?_
      rw [getD_more hjl]
      exact k2 hg
    | true =>
      rw [if_pos rfl]
      left
      refine (k3 hg).wp ?_
      rintro u w' ⟨ρ', S'⟩
      refine ih _ _ ρ' ?_
      rw [getD_more hjl]
      exact S'
end
theorem draw_ok (hP : StrOk P) (hm : P.follows .mixedOrders = true) (go : Go1) (G : GoOk P go) : DrawS P DrawOk go := by
  intro id ops n fr σ a w ρ x fr' σ' hD hd e F R
  obtain ⟨T, HT⟩ := trace hP G ops ops.toList (masksOf ops) 0 [] fr σ ρ w a [] x fr' σ' hd e F R rfl ⟨(fun i t h => by cases i <;> cases h), (fun r h => by cases h), (fun t h => by cases h)⟩
  have H : Reg P ops T fr σ fr'.tm σ' := ⟨hD, HT.chain, HT.pairs, HT.os, by
    rw [HT.ms, Array.length_toList, ← hD.len, List.take_length]⟩
  obtain ⟨ρg, wg, G1⟩ := HT.stp
  have Rd : Rep P ρ σ { w with drawn := w.drawn + 1 } := R.heap rfl
  refine wp_region_any hm ?_
  refine any_ok (ρ0 := ρ) (w0 := { w with drawn := w.drawn + 1 }) H hd ?_ ops.size _ a _ ρ (by simp) ?_ ?_
  · intro D ρ' a' w' hall S
    obtain ⟨F', S'⟩ := ds_end H hall S G1
    refine ⟨by rw [HT.x]; rfl, ρ', ?_, (Stp.heap R (w' := { w with drawn := w.drawn + 1 }) rfl rfl rfl rfl).trans S'⟩
    rw [← HT.ds] at F'
    exact F'
  · rw [Array.toList_replicate, List.countP_replicate]; simp
  · refine ds_start H ?_ Rd F
    intro i hi
    rw [Array.getD_eq_getD_getElem?, Array.getElem?_replicate, if_pos hi]; rfl
end Ev
end Go.Proofs.YtkfhapidoolfdaaGreatDoor

namespace Go.Proofs.YtkfhapidoolfdaaGreatDoor
open Go
namespace Ev
variable {P : Program}

theorem bind_ok {α β : Type} {a : Except String α} {f : α → Except String β} {b : β} (h : (a >>= f) = .ok b) : ∃ x, a = .ok x ∧ f x = .ok b := by
  cases a with
  | error e => cases h
  | ok x => exact ⟨x, rfl, h⟩
theorem require_ok {b : Bool} {msg : String} {u : Unit} (h : CheckCode.require b msg = .ok u) : b = true := by
  unfold CheckCode.require at h
  cases b with
  | true => rfl
  | false => cases h
theorem forM_ok {α : Type} {f : α → Except String Unit} : ∀ {l : List α} {u : Unit}, l.forM f = .ok u → ∀ x ∈ l, f x = .ok ()
  | [], _, _, x, hx => by cases hx
  | a :: l, u, h, x, hx => by
    have h : (f a >>= fun _ => l.forM f) = .ok u := h
    obtain ⟨v, h1, h2⟩ := bind_ok h
    rcases List.mem_cons.1 hx with e | e
    · rw [e]; exact h1
    · exact forM_ok h2 x e
theorem mapError_ok {α : Type} {e : Except String α} {f : String → String} {x : α} (h : e.mapError f = .ok x) : e = .ok x := by
  cases e with
  | error s => cases h
  | ok y => cases h; rfl
/-! ### the numbers of those that must come before -/
def stepB (acc : Array Nat) (o : Oper) : Array Nat := acc.push (CheckFast.one (fun i => acc.getD i 0) o)
theorem stepB_size (acc : Array Nat) (o : Oper) : (stepB acc o).size = acc.size + 1 := by rw [stepB, Array.size_push]
theorem foldB_size : ∀ (l : List Oper) (acc : Array Nat), (l.foldl stepB acc).size = acc.size + l.length
  | [], acc => rfl
  | o :: l, acc => by rw [List.foldl_cons, foldB_size l, stepB_size, List.length_cons]; omega
theorem foldB_keep : ∀ (l : List Oper) (acc : Array Nat) (k : Nat), k < acc.size → (l.foldl stepB acc)[k]? = acc[k]?
  | [], acc, k, _ => rfl
  | o :: l, acc, k, h => by
    rw [List.foldl_cons, foldB_keep l (stepB acc o) k (by rw [stepB_size]; omega), stepB, Array.getElem?_push, if_neg (by omega)]
theorem foldB_at : ∀ (l : List Oper) (acc : Array Nat) (j : Nat) (o : Oper), l[j]? = some o → ∃ pre : Array Nat, pre.size = acc.size + j ∧ (∀ k, k < pre.size → (l.foldl stepB acc)[k]? = pre[k]?) ∧ (l.foldl stepB acc)[acc.size + j]? = some (CheckFast.one (fun i => pre.getD i 0) o)
  | [], acc, j, o, h => by cases j <;> cases h
  | a :: l, acc, 0, o, h => by
    cases h
    refine ⟨acc, rfl, ?_, ?_⟩
    · intro k hk
      exact foldB_keep (a :: l) acc k hk
    · rw [List.foldl_cons, Nat.add_zero, foldB_keep l (stepB acc a) acc.size (by rw [stepB_size]; omega), stepB, Array.getElem?_push, if_pos rfl]
  | a :: l, acc, j + 1, o, h => by
    obtain ⟨pre, h1, h2, h3⟩ := foldB_at l (stepB acc a) j o h
    rw [stepB_size] at h1 h3
    rw [List.foldl_cons]
    exact ⟨pre, by omega, h2, by rw [show acc.size + (j + 1) = acc.size + 1 + j by omega]; exact h3⟩
theorem before_fold (ops : Array Oper) : Region.before ops = ops.toList.foldl stepB #[] := by
  unfold Region.before
  rw [← Array.foldl_toList]
  rfl
theorem masks_eq (ops : Array Oper) : masksOf ops = (Region.before ops).toList := by
  have h := CheckFast.beforeF_eq ops
  rw [← h]
  rfl
theorem or_bit {l : List Edge} {look : Nat → Nat} {b : Nat} : ∀ {s : Nat}, (l.foldl (fun s e => if Region.binds .any e then s ||| 2 ^ e.on ||| look e.on else s) s).testBit b = true → s.testBit b = true ∨ ∃ e ∈ l, Region.binds .any e = true ∧ (b = e.on ∨ (look e.on).testBit b = true) := by
  induction l with
  | nil => intro s h; exact .inl h
  | cons e l ih =>
    intro s h
    rw [List.foldl_cons] at h
    rcases ih h with q | ⟨e', q1, q2⟩
    · by_cases hb : Region.binds .any e = true
      · rw [if_pos hb, Nat.testBit_or, Nat.testBit_or, Bool.or_eq_true, Bool.or_eq_true] at q
        rcases q with (q | q) | q
        · exact .inl q
        · refine .inr ⟨e, List.mem_cons_self .., hb, .inl ?_⟩
          rw [Nat.testBit_two_pow] at q
          exact (of_decide_eq_true q).symm
        · exact .inr ⟨e, List.mem_cons_self .., hb, .inr q⟩
      · rw [if_neg hb] at q
        exact .inl q
    · exact .inr ⟨e', List.mem_cons_of_mem _ q1, q2⟩
theorem or_has {l : List Edge} {look : Nat → Nat} {b : Nat} : ∀ {s : Nat}, (s.testBit b = true ∨ ∃ e ∈ l, Region.binds .any e = true ∧ b = e.on) → (l.foldl (fun s e => if Region.binds .any e then s ||| 2 ^ e.on ||| look e.on else s) s).testBit b = true := by
  induction l with
  | nil =>
    intro s h
    rcases h with h | ⟨e, h, _⟩
    · exact h
    · cases h
  | cons e l ih =>
    intro s h
    rw [List.foldl_cons]
    apply ih
    rcases h with h | ⟨e', h1, h2, h3⟩
    · left
      by_cases hb : Region.binds .any e = true
      · rw [if_pos hb, Nat.testBit_or, Nat.testBit_or, h]; rfl
      · rw [if_neg hb]; exact h
    · rcases List.mem_cons.1 h1 with g | g
      · left
        subst g
        rw [if_pos h2, Nat.testBit_or, Nat.testBit_or, Nat.testBit_two_pow, h3]; simp
      · exact .inr ⟨e', g, h2, h3⟩
theorem mask_at {ops : Array Oper} {j : Nat} {o : Oper} {m : Nat} (ho : ops[j]? = some o) (hm : (masksOf ops)[j]? = some m) :
    (∀ i, m.testBit i = true → ∃ e ∈ o.after, Region.binds .any e = true ∧ (i = e.on ∨ ∃ m', (masksOf ops)[e.on]? = some m' ∧ m'.testBit i = true)) ∧ ∀ e ∈ o.after, Region.binds .any e = true → m.testBit e.on = true := by
  rw [masks_eq, before_fold] at hm ⊢
  rw [← Array.getElem?_toList] at ho
  obtain ⟨pre, h1, h2, h3⟩ := foldB_at ops.toList #[] j o ho
  rw [Array.getElem?_toList] at hm
  simp only [List.size_toArray, List.length_nil, Nat.zero_add] at h1 h3
  rw [h3] at hm
  have hm : CheckFast.one (fun i => pre.getD i 0) o = m := by cases hm; rfl
  unfold CheckFast.one at hm
  rw [← Array.foldl_toList] at hm
  constructor
  · intro i hi
    rw [← hm] at hi
    rcases or_bit (l := o.after.toList) (look := fun i => pre.getD i 0) hi with q | ⟨e, q1, q2, q3⟩
    · simp at q
    · refine ⟨e, by simpa using q1, q2, q3.imp id ?_⟩
      intro q
      rw [Array.getD_eq_getD_getElem?] at q
      cases e1 : pre[e.on]? with
      | none => rw [e1] at q; simp at q
      | some m' =>
        rw [e1] at q
        have hlt : e.on < pre.size := (Array.getElem?_eq_some_iff.1 e1).1
        exact ⟨m', by rw [Array.getElem?_toList, h2 _ hlt, e1], q⟩
  · intro e he hb
    rw [← hm]
    exact or_has (l := o.after.toList) (look := fun i => pre.getD i 0) (.inr ⟨e, by simpa using he, hb, rfl⟩)
theorem masks_len (ops : Array Oper) : (masksOf ops).length = ops.size := by
  rw [masks_eq, before_fold, Array.length_toList, foldB_size]
  simp
/-! ### variables -/
def wStep (s : Nat) (w : Array (List (Nat × Nat))) (x : Oper × Nat) : Array (List (Nat × Nat)) := match x.1.dst with
  | some d => w.modify (d % s) ((d, x.2) :: ·)
  | none => w
theorem wStep_size (s : Nat) (w : Array (List (Nat × Nat))) (x : Oper × Nat) : (wStep s w x).size = w.size := by
  unfold wStep
  split
  · rw [Array.size_modify]
  · rfl
theorem wStep_keep {s : Nat} {w : Array (List (Nat × Nat))} {x : Oper × Nat} {k : Nat} {p : Nat × Nat} (h : p ∈ w.getD k []) : p ∈ (wStep s w x).getD k [] := by
  unfold wStep
  split
  · next d hd =>
    rw [Array.getD_eq_getD_getElem?] at h ⊢
    rw [Array.getElem?_modify]
    cases e : w[k]? with
    | none => rw [e] at h; cases h
    | some l =>
      rw [e] at h
      by_cases g : d % s = k
      · rw [if_pos g]
        exact List.mem_cons_of_mem _ h
      · rw [if_neg g]; exact h
  · exact h
theorem wStep_has {s : Nat} {w : Array (List (Nat × Nat))} {x : Oper × Nat} {d : Nat} (hd : x.1.dst = some d) (hs : d % s < w.size) : (d, x.2) ∈ (wStep s w x).getD (d % s) [] := by
  unfold wStep
  rw [hd]
  show (d, x.2) ∈ (w.modify (d % s) ((d, x.2) :: ·)).getD (d % s) []
  rw [Array.getD_eq_getD_getElem?, Array.getElem?_modify, if_pos rfl, Array.getElem?_eq_getElem hs]
  exact List.mem_cons_self ..
theorem wFold {s : Nat} : ∀ (l : List (Oper × Nat)) (w : Array (List (Nat × Nat))), w.size = s → (∀ k p, p ∈ w.getD k [] → p ∈ (l.foldl (wStep s) w).getD k []) ∧ ∀ x ∈ l, ∀ d, x.1.dst = some d → d % s < s → (d, x.2) ∈ (l.foldl (wStep s) w).getD (d % s) []
  | [], w, _ => ⟨fun k p h => h, fun x h => by cases h⟩
  | a :: l, w, hw => by
    obtain ⟨h1, h2⟩ := wFold (s := s) l (wStep s w a) ((wStep_size s w a).trans hw)
    rw [List.foldl_cons]
    refine ⟨fun k p h => h1 k p (wStep_keep h), ?_⟩
    intro x hx d hd hs
    rcases List.mem_cons.1 hx with e | e
    · rw [e] at hd ⊢
      exact h1 _ _ (wStep_has hd (by rw [hw]; exact hs))
    · exact h2 x e d hd hs
theorem mem_zip {ops : Array Oper} {j : Nat} {o : Oper} (h : ops[j]? = some o) : (o, j) ∈ ops.toList.zipIdx := by
  rw [← Array.getElem?_toList] at h
  rw [List.mem_zipIdx_iff_getElem?]
  exact h
theorem temps_ok {ops : Array Oper} {b : Array Nat} (h : Region.temporariesOk ops b = true) {i j : Nat} {oi oj : Oper} {t : Nat} (hi : ops[i]? = some oi) (hj : ops[j]? = some oj) (hd : oi.dst = some t) (hn : oj.dst = some t ∨ Operand.tmp t ∈ oj.op.operands.toList) (hne : i ≠ j) : (b.getD (max i j) 0).testBit (min i j) = true := by
  unfold Region.temporariesOk at h
  simp only at h
  have hsz : 0 < ops.size := by
    have := (Array.getElem?_eq_some_iff.1 hi).1
    omega
  have hw := (wFold (s := ops.size) ops.toList.zipIdx (Array.replicate ops.size []) (by simp)).2 (oi, i) (mem_zip hi) t hd (Nat.mod_lt _ hsz)
  rw [List.all_eq_true] at h
  have h1 := h (oj, j) (mem_zip hj)
  simp only at h1
  rw [List.all_eq_true] at h1
  have ht : t ∈ oj.dst.toList ++ oj.op.operands.toList.filterMap (fun | .tmp t => some t | _ => none) := by
    rw [List.mem_append]
    rcases hn with q | q
    · left; rw [q]; simp
    · right
      rw [List.mem_filterMap]
      exact ⟨_, q, rfl⟩
  have h2 := h1 t ht
  rw [List.all_eq_true] at h2
  have h3 := h2 (t, i) hw
  simp only [bne_self_eq_false, Bool.false_or, Bool.or_eq_true, beq_iff_eq] at h3
  rcases h3 with q | q
  · exact absurd q hne
  · exact q
/-! ### a guard's variable is written by one operation alone -/
def uniqB (g t : Nat) : List Oper → Nat → Bool
  | [], _ => true
  | o :: l, i => (match o.dst with
    | some d => match Nat.beq d t with
      | true => Nat.beq i g
      | false => true
    | none => true) && uniqB g t l (i + 1)
theorem uniqB_ok {g t : Nat} : ∀ {l : List Oper} {i : Nat}, uniqB g t l i = true → ∀ (j : Nat) (o : Oper), l[j]? = some o → o.dst = some t → i + j = g
  | [], _, _, j, o, h, _ => by cases j <;> cases h
  | a :: l, i, h, j, o, ho, hd => by
    rw [uniqB, Bool.and_eq_true] at h
    cases j with
    | zero =>
      cases ho
      have h1 := h.1
      rw [hd] at h1
      simp only [Nat.beq_refl] at h1
      exact Nat.eq_of_beq_eq_true h1
    | succ j =>
      have := uniqB_ok h.2 j o ho hd
      omega
def guardsB (ops : Array Oper) : List Oper → Bool
  | [] => true
  | o :: l => (match o.guard with
    | some (g, _) => match ops[g]? with
      | some og => match og.dst with
        | some t => uniqB g t ops.toList 0
        | none => true
      | none => true
    | none => true) && guardsB ops l
theorem guardsB_ok {ops : Array Oper} : ∀ {l : List Oper}, guardsB ops l = true → ∀ o ∈ l, ∀ g want og t, o.guard = some (g, want) → ops[g]? = some og → og.dst = some t → ∀ (i : Nat) (oi : Oper), ops[i]? = some oi → oi.dst = some t → i = g
  | [], _, o, h => by cases h
  | a :: l, h, o, ho => by
    rw [guardsB, Bool.and_eq_true] at h
    rcases List.mem_cons.1 ho with e | e
    · subst e
      intro g want og t e1 e2 e3 i oi hi hd
      have h1 := h.1
      simp only [e1, e2, e3] at h1
      have := uniqB_ok h1 i oi (by rw [Array.getElem?_toList]; exact hi) hd
      omega
    · exact guardsB_ok h.2 o e
theorem drawOk_of {types : Array TypeInfo} {ops : Array Oper} {d : Bool} (h : Region.ok types ops d = true) (hg : guardsB ops ops.toList = true) : DrawOk ops := by
  unfold Region.ok at h
  simp only [Bool.and_eq_true] at h
  obtain ⟨⟨⟨⟨h1, h2⟩, _⟩, _⟩, _⟩ := h
  rw [Array.all_eq_true'] at h1
  have at_ : ∀ (j : Nat) (o : Oper), ops[j]? = some o → (o.after.all (fun e => e.on < j || (match e.ground with | .gcOnly _ => e.on != j && e.on < ops.size | _ => false)) = true) ∧ (match o.guard with | none => true | some (g, _) => o.after.any (fun e => e.on == g && Region.binds .any e) && ((ops[g]?).bind (·.dst)).isSome) = true := by
    intro j o ho
    have := h1 (o, j) (by
      rw [Array.mem_zipIdx_iff_getElem?]
      exact ho)
    simp only [Bool.and_eq_true] at this
    exact ⟨this.1, this.2⟩
  have edge : ∀ (j : Nat) (o : Oper) (e : Edge), ops[j]? = some o → e ∈ o.after → Region.binds .any e = true → e.on < j := by
    intro j o e ho he hb
    have := (at_ j o ho).1
    rw [Array.all_eq_true'] at this
    have h3 := this e he
    rw [Bool.or_eq_true] at h3
    rcases h3 with q | q
    · simpa using q
    · unfold Region.binds at hb
      cases hgr : e.ground with
      | gcOnly r => rw [hgr] at hb; cases hb
      | _ => rw [hgr] at q; cases q
  have getM : ∀ (j m : Nat), (masksOf ops)[j]? = some m → (Region.before ops).getD j 0 = m := by
    intro j m hm
    rw [masks_eq, Array.getElem?_toList] at hm
    rw [Array.getD_eq_getD_getElem?, hm]; rfl
  refine ⟨masks_len ops, edge, fun j o m i ho hm => (mask_at ho hm).1 i, ?_, ?_, ?_⟩
  · intro i j oi oj t m hi hj hd hn hlt hm
    have := temps_ok h2 hi hj hd hn (by omega)
    rw [Nat.max_eq_right (by omega), Nat.min_eq_left (by omega), getM j m hm] at this
    exact this
  · intro i j oi oj t m hi hj hd hn hlt hm
    have := temps_ok h2 hi hj hd hn (by omega)
    rw [Nat.max_eq_left (by omega), Nat.min_eq_right (by omega), getM i m hm] at this
    exact this
  · intro j o g want m ho he hm
    have h4 := (at_ j o ho).2
    rw [he] at h4
    simp only [Bool.and_eq_true] at h4
    obtain ⟨h5, _⟩ := h4
    rw [Array.any_eq_true'] at h5
    obtain ⟨ed, h6, h7⟩ := h5
    rw [Bool.and_eq_true] at h7
    have hon : ed.on = g := by simpa using h7.1
    refine ⟨?_, ?_, ?_⟩
    · rw [← hon]
      exact (mask_at ho hm).2 ed h6 h7.2
    · rw [← hon]
      exact edge j o ed ho h6 h7.2
    · intro og t e1 e2 i oi hi hd
      exact guardsB_ok hg o (by rw [← Array.getElem?_toList] at ho; exact List.mem_of_getElem? ho) g want og t he e1 e2 i oi hi hd
/-! ### the whole text -/
def codeB : Code → Bool
  | .region _ ops d => match d with
    | true => guardsB ops ops.toList
    | false => true
  | .seq a b => codeB a && codeB b
  | .cond _ a b => codeB a && codeB b
  | .block _ c => codeB c
  | .loop c => codeB c
  | .scope c => codeB c
  | _ => true
theorem region_of {f : Func} {id : Nat} {ops : Array Oper} {d : Bool} {u : Unit} (h : CheckCode.region P f id ops d = .ok u) : (∀ o ∈ ops.toList, ∀ t, o.dst = some t → t < f.ntmps) ∧ Region.ok P.types ops d = true := by
  unfold CheckCode.region at h
  obtain ⟨_, h1, h⟩ := bind_ok h
  obtain ⟨_, _, h⟩ := bind_ok h
  refine ⟨?_, require_ok h⟩
  intro o ho t ht
  obtain ⟨i, hi⟩ := List.mem_iff_getElem?.1 ho
  have h2 := forM_ok h1 (o, i) (by rw [List.mem_zipIdx_iff_getElem?]; exact hi)
  simp only [ht] at h2
  obtain ⟨_, h3, _⟩ := bind_ok h2
  exact of_decide_eq_true (require_ok h3)
theorem cOk_of {f : Func} : ∀ (c : Code) (bl lb : List Nat) (u : Unit), CheckCode.code P f bl lb c = .ok u → codeB c = true → COk DrawOk f.ntmps c := by
  intro c
  induction c with
  | region id ops d =>
    intro bl lb u h hb
    obtain ⟨h1, h2⟩ := region_of (show CheckCode.region P f id ops d = .ok u from h)
    refine ⟨h1, ?_⟩
    intro hd
    subst hd
    exact drawOk_of h2 hb
  | seq a b iha ihb =>
    intro bl lb u h hb
    obtain ⟨_, h1, h2⟩ := bind_ok (show (CheckCode.code P f bl lb a >>= fun _ => CheckCode.code P f bl lb b) = .ok u from h)
    have hb := (Bool.and_eq_true_iff.1 (show (codeB a && codeB b) = true from hb))
    exact ⟨iha bl lb _ h1 hb.1, ihb bl lb _ h2 hb.2⟩
  | cond x a b iha ihb =>
    intro bl lb u h hb
    unfold CheckCode.code at h
    obtain ⟨_, _, h⟩ := bind_ok h
    obtain ⟨_, h1, h2⟩ := bind_ok h
    have hb := (Bool.and_eq_true_iff.1 (show (codeB a && codeB b) = true from hb))
    exact ⟨iha bl lb _ h1 hb.1, ihb bl lb _ h2 hb.2⟩
  | block id c ih =>
    intro bl lb u h hb
    exact ih (id :: bl) lb u h hb
  | loop c ih =>
    intro bl lb u h hb
    exact ih bl lb u h hb
  | scope c ih =>
    intro bl lb u h hb
    exact ih bl (CheckCode.spine c ++ lb) u h hb
  | _ => intros; trivial
theorem func_of {f : Func} {c : Code} {u : Unit} (h : CheckCode.func P f = .ok u) (hb : f.body = some c) : CheckCode.code P f [] [] c = .ok () := by
  unfold CheckCode.func at h
  obtain ⟨_, _, h⟩ := bind_ok h
  obtain ⟨_, _, h⟩ := bind_ok h
  obtain ⟨_, _, h⟩ := bind_ok h
  rw [hb] at h
  simp only at h
  obtain ⟨_, _, h⟩ := bind_ok h
  obtain ⟨_, h1, _⟩ := bind_ok h
  exact h1
def funcB (fn : Func) : Bool := match fn.body with
  | some c => codeB c && !(fn.name == "runtime.NumGoroutine")
  | none => true
noncomputable def structB (P : Program) (d : TypeDesc) : Bool := match d with
  | .struct fs => fs.toList.all fun f => (szE P f.type).isSome
  | _ => true
noncomputable def lookB (P : Program) : Bool := P.funcs.toList.all funcB && P.types.toList.all (fun i => structB P i.desc)
theorem infoE_mem {t : TypeId} {i : TypeInfo} (h : infoE P t = some i) : i ∈ P.types.toList := by
  rw [infoE, atE_eq, ← Array.getElem?_toList] at h
  exact List.mem_of_getElem? h
theorem strOk_of (h : P.types.toList.all (fun i => structB P i.desc) = true) : StrOk P := by
  intro t fs hu f hf
  rw [List.all_eq_true] at h
  have fin : ∀ i : TypeInfo, i ∈ P.types.toList → i.desc = .struct fs → ∃ n, szE P f.type = some n := by
    intro i hi hd
    have h1 := h i hi
    rw [hd] at h1
    simp only [structB, List.all_eq_true] at h1
    have h2 := h1 f hf
    cases e : szE P f.type with
    | none => rw [e] at h2; cases h2
    | some n => exact ⟨n, rfl⟩
  unfold underE at hu
  cases e : infoE P t with
  | none => rw [e] at hu; cases hu
  | some i =>
    rw [e] at hu
    have hm := infoE_mem e
    cases hd : i.desc with
    | named n u =>
      simp only [hd] at hu
      cases e2 : infoE P u with
      | none => rw [e2] at hu; cases hu
      | some j =>
        rw [e2] at hu
        exact fin j (infoE_mem e2) (by injection hu)
    | _ => simp only [hd] at hu; first | (cases hu; done) | (exact fin i hm (by rw [hd]; injection hu))
theorem prog_ok (hc : (List.range P.funcs.size).forM (CheckCode.funcAt P) = .ok ()) (hb : lookB P = true) : StrOk P ∧ NamesOk P ∧ BodiesOk P DrawOk := by
  unfold lookB at hb
  rw [Bool.and_eq_true] at hb
  refine ⟨strOk_of hb.2, ?_, ?_⟩
  · intro f fn c hf hbody
    have := List.all_eq_true.1 hb.1 fn (by rw [← Array.getElem?_toList] at hf; exact List.mem_of_getElem? hf)
    simp only [funcB, hbody, Bool.and_eq_true] at this
    simpa using this.2
  · intro f fn c hf hbody
    have h1 := List.all_eq_true.1 hb.1 fn (by rw [← Array.getElem?_toList] at hf; exact List.mem_of_getElem? hf)
    simp only [funcB, hbody, Bool.and_eq_true] at h1
    have hlt : f < P.funcs.size := (Array.getElem?_eq_some_iff.1 hf).1
    have h2 := forM_ok hc f (List.mem_range.2 hlt)
    unfold CheckCode.funcAt at h2
    rw [hf] at h2
    exact cOk_of c [] [] () (func_of (mapError_ok h2) hbody) h1.1
end Ev
end Go.Proofs.YtkfhapidoolfdaaGreatDoor
