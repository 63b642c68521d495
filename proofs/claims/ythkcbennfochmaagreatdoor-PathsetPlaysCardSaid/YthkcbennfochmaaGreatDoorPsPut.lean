/-
  WALK: layer 5: Put.
-/
import Derived.Test.YthkcbennfochmaaGreatDoorPsX
import Derived.Deep.RegionHeld3
import Derived.Deep.LoopGhost
import Derived.Deep.DeepCutAuto
import Derived.StillTailTactics
namespace Go.Proofs.YthkcbennfochmaaGreatDoor
open Go.RowKit Go.Maps

/-- paths.Split in one form: a slice of the segments, or an error -/
def SplR (w : World) (s : ByteArray) (q : Option Addr) (D : List ByteArray) (er : Int) (w' : World) : Prop :=
  Gr w w' ∧ ((er = 10 ∧ pathOk s.data.toList = false ∧ D = []) ∨ (er = 0 ∧ pathOk s.data.toList = true ∧ D.map (fun d => d.data.toList) = segsOf s.data.toList ∧ D.length ≤ 4 ∧
    (∀ i, i < D.length → (D.getD i ByteArray.empty).size ≤ maxLen) ∧ ∀ i, i < D.length → ∃ b, q = some ⟨b, 0, none⟩ ∧ w.heap.size ≤ b ∧ w'.cell? ⟨b, i, none⟩ = some (.string (D.getD i ByteArray.empty))))
theorem join_len : ∀ (L : List Seg) (x : Seg), x ∈ L → x.length ≤ (join47 L).length
  | [], x, h => by cases h
  | [s], x, h => by rw [List.mem_singleton.1 h]; exact Nat.le_refl _
  | s :: t :: r, x, h => by
    rw [join47_cons (by simp), List.length_append, List.length_cons]
    rcases List.mem_cons.1 h with e | e
    · rw [e]; omega
    · have := join_len (t :: r) x e; omega
theorem seg_len {l : List UInt8} (h0 : l ≠ []) {x : Seg} (h : x ∈ segsOf l) : x.length ≤ l.length := by
  unfold segsOf at h
  rw [if_neg h0] at h
  have := join_len _ x h
  rwa [join_split] at this
theorem psplit_gen (s : ByteArray) (hs : s.size ≤ 9223372036854775807) (w : World) : Calls Tryz.prog 30 #[.string s] w fun e w' => ∃ q D er, e = .returned (.tuple #[.slice q D.length D.length, .int .i64 er]) ∧ SplR w s q D er w' := by
  refine (psplit_any s hs w).mono ?_
  rintro e w' (⟨h1, rfl, rfl⟩ | ⟨h1, rfl, rfl⟩ | ⟨h1, h2, D, hD, rfl, rfl⟩)
  · exact ⟨none, [], 10, rfl, Gr.refl _, .inl ⟨rfl, h1, rfl⟩⟩
  · exact ⟨none, [], 0, rfl, Gr.refl _, .inr ⟨rfl, by rw [h1]; rfl, by rw [h1]; rfl, by simp, by simp, by simp⟩⟩
  · have hl : D.length ≤ 4 := by
      have e1 := congrArg List.length hD
      rw [List.length_map] at e1
      rw [e1]
      exact segs_length h1
    have hlp := pathOk_len h1
    refine ⟨_, D, 0, rfl, (Gr.refl w).alloc _, .inr ⟨rfl, h1, hD, hl, fun i hi => ?_, fun i hi => ⟨w.heap.size, rfl, Nat.le_refl _, ?_⟩⟩⟩
    · have hm : (D.getD i ByteArray.empty).data.toList ∈ segsOf s.data.toList := by
        rw [← hD]
        exact List.mem_map.2 ⟨D.getD i ByteArray.empty, by simp [hi], rfl⟩
      have := seg_len h2 hm
      rw [Lib.size_eq]
      unfold maxLen
      omega
    rw [blk_cell (heap_alloc_new w (.cells (D.map Value.string).toArray 9 (0, 0)))]
    simp [hi]
theorem zero_str (w : World) : (zeroValue 9).run Tryz.prog w = .ok (.string ByteArray.empty) w := by kernel_rfl
theorem zero_br (w : World) : (zeroValue 47).run Tryz.prog w = .ok (.pointer none) w := by kernel_rfl
def GrownTo (w w' : World) (b em cm : Nat) : Prop := Gr w w' ∧ w.heap.size ≤ b ∧ w.heap.size ≤ em ∧ w.heap.size ≤ cm ∧
    ∀ (N : List Nd) (l : List Ent) (q : Nd) (x : Seg) (w2 : World), TreeM w N l → q ∈ N → (∀ n, n ∈ N → n.pre ≠ q.pre ++ [x]) → MapL sK w2 q.cm (setM ((kidsOf N q.pre).map kidV) (segOf x) (.pointer (some ⟨b, 0, none⟩))) → w'.grownBy w2 (some q.cm) →
      TreeM w2 (⟨q.pre ++ [x], b, em, cm⟩ :: N) l ∧ Mod [q.cm] w w2
theorem grown_gen (w : World) : Calls Tryz.prog 17 #[] w fun e w' => ∃ b em cm, e = .returned (.pointer (some ⟨b, 0, none⟩)) ∧ GrownTo w w' b em cm := by
  refine (grown_any w).mono ?_
  rintro e w' ⟨rfl, rfl⟩
  exact ⟨_, _, _, rfl, (((Gr.refl w).alloc _).alloc _).alloc _, by omega, Nat.le_refl _, by omega, fun N l q x w2 h hq hno h2 hg => h.grow hq hno h2 hg⟩
/-- on the way down, Put makes the places that are missing -/
def PLoop (w3 : World) (N : List Nd) (l : List Ent) (D : List ByteArray) (g : Nat) (bv i : Value) (wr : World) : Prop :=
  ∃ (k : Nat) (N' : List Nd) (n : Nd), k + g = D.length ∧ i = .int .i64 k ∧ bv = .pointer (some ⟨n.b, 0, none⟩) ∧ n ∈ N' ∧ n.pre = (D.map fun d => d.data.toList).take k ∧ TreeM wr N' l ∧ (∀ x, x ∈ N → x ∈ N') ∧
    (∀ x, x ∈ N' → x ∈ N ∨ (x.pre <+: (D.map fun d => d.data.toList) ∧ w3.heap.size ≤ x.b ∧ w3.heap.size ≤ x.em ∧ w3.heap.size ≤ x.cm)) ∧ Mod (blksN N) w3 wr
theorem segOf_bytes (x : ByteArray) : segOf x.data.toList = x := by cases x; simp [segOf]
/-- a set's answer to Put -/
def PutTo (w : World) (sb wb : Nat) (N : List Nd) (s : List Ent × Int) (e : Ending) (w' : World) : Prop := e = .returned (.int .i64 s.2) ∧ ∃ N', SetM w' sb wb N' s.1 ∧ SetTo w sb wb N w' N'
theorem PutTo.same {w w' : World} {sb wb : Nat} {N : List Nd} {l : List Ent} (h : SetM w sb wb N l) (m : Mod [] w w') (k : Int) : PutTo w sb wb N (l, k) (.returned (.int .i64 k)) w' :=
  ⟨rfl, N, h.same m, m.mono (by simp), fun _ hk => .inl hk⟩
theorem new_own {N N' : List Nd} {B : Nat} {Q : Nd → Prop} (h : ∀ x, x ∈ N' → x ∈ N ∨ (Q x ∧ B ≤ x.b ∧ B ≤ x.em ∧ B ≤ x.cm)) : ∀ k, k ∈ blksN N' → k ∈ blksN N ∨ B ≤ k := by
  intro k hk
  obtain ⟨x, hx, hc⟩ := List.mem_flatMap.1 hk
  rcases h x hx with h1 | ⟨-, h1, h2, h3⟩
  · exact .inl (mem_blks3 h1 hc)
  · simp only [List.mem_cons, List.not_mem_nil, or_false] at hc
    rcases hc with e | e | e <;> exact .inr (by omega)
theorem SetM.apart2 {w : World} {sb wb : Nat} {N : List Nd} {l : List Ent} (h : SetM w sb wb N l) : sb ≠ wb ∧ sb ∉ blksN N ∧ wb ∉ blksN N := by
  have h1 := List.nodup_cons.1 h.apart
  have h2 := List.nodup_cons.1 h1.2
  exact ⟨fun e => h1.1 (by rw [e]; exact List.mem_cons_self), fun e => h1.1 (List.mem_cons_of_mem _ e), h2.1⟩
/-- the end of Put: the entry lies at its place, and the map of where knows it -/
theorem put_end {w wc wr w5 w6 w7 : World} {sb wb : Nat} {N N' : List Nd} {l : List Ent} {e : Ent} {n : Nd} (g : Gr w wc) (h3 : SetM wc sb wb N l) (hn : n ∈ N') (hT : TreeM w5 N' (e :: l)) (m5 : Mod [n.em] wr w5) (g6 : Gr w5 w6) (hmr : Mod (blksN N) wc wr)
    (hnew : ∀ x, x ∈ N' → x ∈ N ∨ (x.pre <+: e.sg ∧ wc.heap.size ≤ x.b ∧ wc.heap.size ≤ x.em ∧ wc.heap.size ≤ x.cm)) (hsub : ∀ x, x ∈ N → x ∈ N') (hok : entOk e) (hid : ∀ y, y ∈ l → y.id ≠ e.id) (hlen : l.length ≠ 64)
    (q1 : MapL iK w7 wb ((e :: l).map whV)) (q2 : w6.grownBy w7 (some wb)) : PutTo w sb wb N (insE e l, 0) (.returned (.int .i64 0)) w7 := by
  have hown := new_own hnew
  obtain ⟨a1, a2, a3⟩ := h3.apart2
  have hlt := h3.lt
  have hem := (mem_blks hn).2.1
  have hsN : sb ∉ blksN N' := fun x => by
    rcases hown _ x with y | y
    · exact a2 y
    · have := hlt sb (by simp); omega
  have hwN : wb ∉ blksN N' := fun x => by
    rcases hown _ x with y | y
    · exact a3 y
    · have := hlt wb (by simp); omega
  have m7 : Mod [wb] w6 w7 := (Mod.refl [wb] w6).grown q2 (fun k e _ => by simp at e; simp [e])
  have hT7 : TreeM w7 N' (e :: l) := (hT.mod (g6.mod []) (by simp)).mod m7 (fun k hk => by simp; exact fun x => hwN (by rw [← x]; exact hk))
  have mAll : Mod (wb :: blksN N') wc w7 := by
    refine ((hmr.trans m5 (U := wb :: blksN N') (fun x hx _ => ?_) (fun x hx _ => ?_)).gr g6).trans m7 (fun _ x _ => x) (fun x hx _ => by simp at hx; simp [hx])
    · obtain ⟨y, hy, hc⟩ := List.mem_flatMap.1 hx
      exact List.mem_cons_of_mem _ (mem_blks3 (hsub y hy) hc)
    · rw [List.mem_singleton.1 hx]; exact List.mem_cons_of_mem _ hem
  have p := insE_perm e l
  refine ⟨rfl, N', ⟨?_, (hT7.perm p.symm).nd, q1.perm (p.symm.map _), ?_, (hT7.perm p.symm).tr, fun x hx h0 => ?_, ?_, fun x hx => ?_, ?_⟩, ⟨?_, fun k hk => ?_⟩⟩
  · obtain ⟨r, hr, hr0, hb⟩ := h3.blk
    exact ⟨r, hsub r hr, hr0, mAll.at_ hb (by simp; exact ⟨a1, hsN⟩)⟩
  · exact List.nodup_cons.2 ⟨by simp; exact ⟨a1, hsN⟩, List.nodup_cons.2 ⟨hwN, hT.apart⟩⟩
  · rcases hnew x hx with y | ⟨y, -⟩
    · obtain ⟨e', he', hp⟩ := h3.pr x y h0
      exact ⟨e', mem_insE.2 (.inr he'), hp⟩
    · exact ⟨e, mem_insE.2 (.inl rfl), y⟩
  · exact (p.pairwise_iff (fun {_ _} q => Ne.symm q)).2 (List.pairwise_cons.2 ⟨fun y hy => (hid y hy).symm, h3.ids⟩)
  · rcases mem_insE.1 hx with rfl | y
    · exact hok
    · exact h3.ok x y
  · have := p.length_eq
    have := h3.small
    simp only [List.length_cons] at *
    omega
  · refine (g.mod (wb :: blksN N)).trans mAll (fun _ x _ => x) fun x hx hlt2 => ?_
    have := g.size
    rcases List.mem_cons.1 hx with y | y
    · rw [y]; exact List.mem_cons_self
    · rcases hown _ y with z | z
      · exact List.mem_cons_of_mem _ z
      · omega
  · have := g.size
    rcases hown _ hk with z | z
    · exact .inl z
    · exact .inr (by omega)
set_option maxHeartbeats 4000000 in
set_option maxRecDepth 100000 in
theorem sput_any {w : World} {sb wb : Nat} {N : List Nd} {l : List Ent} (h : SetM w sb wb N l) (id : Int) (p : ByteArray) (m who : Int) (hp : p.size ≤ 9223372036854775807) (hi : (Lit.int .i64 id).wf = true) :
    Calls Tryz.prog 10 #[.pointer (some ⟨sb, 0, none⟩), .agg #[.int .i64 id, .string p, .int .i64 m, .int .i64 who]] w fun en w' => PutTo w sb wb N (putS5 l ⟨id, p, m, who⟩) en w' := by
  obtain ⟨⟨L', k'⟩, hsp⟩ : ∃ sp, putS5 l ⟨id, p, m, who⟩ = sp := ⟨_, rfl⟩
  rw [hsp]
  have g1 := (Gr.refl w).alloc (objE id p m who)
  have hb1 := heap_alloc_new w (objE id p m who)
  have HX := hide (And.intro h (And.intro g1 hb1))
  have HSP := hide hsp
  clear h g1 hb1 hsp
  go_enter Tryz.func10, Tryz.ntmps10
  go_wp2_with fail
  refine (psplit_gen p hp _).mono ?_
  rintro en w2 ⟨q, D, er, rfl, g2, hs2⟩
  obtain ⟨h, g1, hb1⟩ := HX.out
  have g12 := g1.trans g2
  have h2 := h.same (g12.mod [])
  have hb2 := (g2.mod []).at_ hb1 (by simp)
  have HX2 := hide (And.intro h (And.intro g12 (And.intro h2 (And.intro hb2 (And.intro g2 hs2)))))
  clear HX h g1 hb1 g2 g12 hs2
  obtain ⟨r, hr, hr0, hsb⟩ := h2.blk
  have CS := blk_cell hsb
  have CE := blk_cell hb2
  have hw := h2.wh
  have hget := wh_get h2.ids id
  have hwl := hw.lt
  clear h2 hb2 hsb
  have HK : ∀ w' : World, w'.heap[wb]? = w2.heap[wb]? → (Instr.lookup 49 (.map (some wb)) (.int .i64 id) true).run Tryz.prog w' = .ok (lookV true (.string ByteArray.empty) (getM (l.map whV) id)) w' :=
    fun w' e => (hw.at_ e).look (t := 49) Tryz.underlying49 (zero_str w') true hi
  obtain ⟨pv, th, hV, hth⟩ : ∃ pv th, lookV true (.string ByteArray.empty) (getM (l.map whV) id) = .tuple #[.string pv, .bool th] ∧ th = hasId l id := by
    rw [hget, ← hasId_get]
    cases getS5 l id with
    | none => exact ⟨_, _, rfl, rfl⟩
    | some y => exact ⟨_, _, rfl, rfl⟩
  rw [hV] at HK
  have HK' := hide HK
  have hlk := HK w2 rfl
  have c1 : w2.cell? ⟨sb, 1, none⟩ = some (.map (some wb)) := CS 1
  have c2 : w2.cell? ⟨w.heap.size, 0, none⟩ = some (.int .i64 id) := CE 0
  have HTH := hide hth
  clear HK hV hget hth CS CE
  go_wp2_with fail
  go_region_held3 (fun w' => w'.cell? ⟨sb, 1, none⟩ = some (.map (some wb)) ∧ w'.cell? ⟨w.heap.size, 0, none⟩ = some (.int .i64 id) ∧ (Instr.lookup 49 (.map (some wb)) (.int .i64 id) true).run Tryz.prog w' = .ok (.tuple #[.string pv, .bool th]) w')
    (first | (go_split_ands; refine ⟨?_, ?_, HK'.out _ rfl⟩ <;> (first | rfl | assumption | go_keep)) | fail)
    (fail)
  clear hlk c1 c2 HK'
  obtain ⟨h, g12, h2, hb2, g2, hs2⟩ := HX2.out
  have gD := (Gr.refl w2).drew
  have h3 := h2.same (gD.mod [])
  have hb3 := (gD.mod []).at_ hb2 (by simp)
  have hs3 : SplR (w.alloc (objE id p m who)) p q D er w2.drew := ⟨g2.drew, hs2⟩
  have g13 := g12.drew
  obtain ⟨w3, hw3⟩ : ∃ w3, w2.drew = w3 := ⟨_, rfl⟩
  rw [hw3] at h3 hb3 hs3 g13 ⊢
  have hsplit := hs3.2
  have CE := blk_cell hb3
  have HX3 := hide (And.intro h (And.intro g13 (And.intro h3 hb3)))
  clear HX2 h g12 h2 hb2 hs2 gD hb3 hs3 hw3 g13 g2
  rcases hsplit with ⟨rfl, hpk, rfl⟩ | ⟨rfl, hpk, hD, hDl, hDz, hDc⟩
  · have e0 : putS5 l ⟨id, p, m, who⟩ = (l, 10) := by
      unfold putS5
      rw [if_pos (show pathOk (Ent.bs ⟨id, p, m, who⟩) = false from hpk)]
    obtain ⟨rfl, rfl⟩ := Prod.mk.inj (HSP.out.symm.trans e0)
    clear hpk e0 HSP h3 CE
    go_wp2_with fail
    go_ret
    exact PutTo.same HX3.out.1 (HX3.out.2.1.mod []) 10
  · have e0 : putS5 l ⟨id, p, m, who⟩ = if modE m = false then (l, 11) else if hasId l id = true then (l, 50) else if l.length = 64 then (l, 51) else (insE ⟨id, p, m, who⟩ l, 0) := by
      unfold putS5
      rw [if_neg (show ¬ pathOk (Ent.bs ⟨id, p, m, who⟩) = false by rw [show pathOk (Ent.bs ⟨id, p, m, who⟩) = true from hpk]; simp)]
    have HE := hide (HSP.out.symm.trans e0)
    clear e0 HSP
    have hmw : (m = 1 ∨ m = 2) ∨ ((m != 1) = true ∧ (m != 2) = true) := by
      by_cases h1 : m = 1
      · exact .inl (.inl h1)
      · by_cases h2 : m = 2
        · exact .inl (.inr h2)
        · exact .inr ⟨by simpa using h1, by simpa using h2⟩
    rcases hmw with hm | ⟨b1, b2⟩
    · have hme : modE m = true := by
        unfold modE
        rcases hm with rfl | rfl <;> simp
      have e1 := HE.out
      rw [if_neg (by rw [hme]; simp)] at e1
      have HE2 := hide e1
      have HM := hide hm
      clear e1 hme HE hm
      go_upto_region 7 with fail
      go_cut [34] (fun s34 wx => s34 = .bool false ∧ wx = w3)
      case first =>
        rcases HM.out with rfl | rfl
        all_goals
          go_wp2_with fail
          go_meet
          case rel => exact ⟨rfl, rfl⟩
      case rest =>
      obtain ⟨rfl, rfl⟩ := hcut
      cases th
      · have e1 := HE2.out
        rw [if_neg (by rw [← HTH.out]; simp)] at e1
        obtain ⟨r3, hr3, hr30, hsb3⟩ := h3.blk
        have CS3 := blk_cell hsb3
        have hwh := h3.wh
        by_cases h64 : l.length = 64
        · rw [if_pos h64] at e1
          have b64 : ((l.length : Int) == 64) = true := by rw [h64]; rfl
          obtain ⟨rfl, rfl⟩ := Prod.mk.inj e1
          clear e1 HE2 hsb3 h3 h64 CE
          go_wp2_with (
            at_len
            refine wpList_len_L (T := iK) _ rfl _ rfl Tryz.underlying49 rfl hwh ?_
            rw [List.length_map])
          go_ret
          exact PutTo.same HX3.out.1 (HX3.out.2.1.mod []) 51
        · rw [if_neg h64] at e1
          have b64 : ((l.length : Int) == 64) = false := by simp; omega
          have HE3 := hide e1
          clear e1 HE2
          go_wp2_with (
            at_len
            refine wpList_len_L (T := iK) _ rfl _ rfl Tryz.underlying49 rfl hwh ?_
            rw [List.length_map])
          have hT0 := h3.tree
          have hwb3 := hwh.lt
          clear hsb3 hwh
          go_loopg [9, 11, 58] D.length (fun g bv _ ii wr => PLoop wc N l D g bv ii wr)
          case atStart => exact ⟨0, N, r3, Nat.zero_add _, rfl, rfl, hr3, by rw [hr30]; rfl, hT0, fun _ hx => hx, fun _ hx => .inl hx, Mod.refl _ _⟩
          case round =>
            obtain ⟨k, N', n, hk, rfl, rfl, hn, hnp, hT, hsub, hnew, hmr⟩ := hrel
            by_cases hlt : k < D.length
            · obtain ⟨gg, rfl⟩ : ∃ g, gk = g + 1 := ⟨gk - 1, by omega⟩
              obtain ⟨qb, rfl, hqw, hcell⟩ := hDc k hlt
              have hz := hDz k hlt
              have htk := take_snoc (fun d : ByteArray => d.data.toList) D hlt ByteArray.empty
              have hqn : qb ∉ blksN N := fun x => by
                have y1 := HX3.out.1.lt qb (by simp [x])
                have y2 := ((Gr.refl w).alloc (objE id p m who)).size
                omega
              have hcw := hmr.kept hcell hqn
              generalize D.getD k ByteArray.empty = d at hz htk hcw
              rw [← hnp] at htk
              replace htk : (D.map fun d => d.data.toList).take (k + 1) = n.pre ++ [d.data.toList] := htk
              have hnd := hT.nd n hn
              have CB := blk_cell hnd.blk
              have hcm := hnd.cm
              have hnlt := lt_of_block hnd.blk
              have i0 : (0 : Int) ≤ (k : Int) := by omega
              have i1 : (k : Int) < (D.length : Int) := by omega
              by_cases hex : ∃ z, z ∈ N' ∧ z.pre = n.pre ++ [d.data.toList]
              · obtain ⟨z, hz1, hz2⟩ := hex
                have hg : lookV false (.pointer none) (getM ((kidsOf N' n.pre).map kidV) d) = .pointer (some ⟨z.b, 0, none⟩) := by
                  have := kid_some hcm hz1 hz2
                  rw [segOf_bytes] at this
                  rw [this]
                  rfl
                have HL := hide (show PLoop wc N l D gg (.pointer (some ⟨z.b, 0, none⟩)) (.int .i64 (k + 1 : Nat)) wr from ⟨k + 1, N', z, by omega, rfl, rfl, hz1, by rw [hz2, htk], hT, hsub, hnew, hmr⟩)
                clear hDc hDz htk hcell hnd hT hsub hnew hmr hz1 hz2 hT0 h3 HTH HE3 hnp
                go_wp2_with (
                  at_lookup
                  refine wpList_look_L (T := sK) _ rfl _ _ false rfl Tryz.underlying69 (zero_br _) rfl hcm hz rfl ?_
                  rw [hg])
                go_roundg gg
                case measure => omega
                case rel => exact HL.out
              · have hno : ∀ z, z ∈ N' → z.pre ≠ n.pre ++ [d.data.toList] := fun z h1 h2 => hex ⟨z, h1, h2⟩
                have hg : lookV false (.pointer none) (getM ((kidsOf N' n.pre).map kidV) d) = .pointer none := by
                  have := kid_none hno
                  rw [segOf_bytes] at this
                  rw [this]
                  rfl
                have hkl : (kidsOf N' n.pre).length ≤ l.length := kids_le hT.tr.one fun y hy => by
                  obtain ⟨x, hx⟩ := kid_pre hy
                  rcases hnew y (mem_kids.1 hy).1 with h1 | ⟨h1, -⟩
                  · exact HX3.out.1.pr y h1 (by rw [hx]; simp)
                  · exfalso
                    refine hno y (mem_kids.1 hy).1 ?_
                    have e := List.prefix_iff_eq_take.1 h1
                    have e2 : y.pre.length = k + 1 := by
                      rw [hx, hnp, List.length_append, List.length_take, List.length_map, List.length_singleton]
                      omega
                    rw [e2] at e
                    rw [← htk]
                    exact e
                have hkl2 : ((kidsOf N' n.pre).map kidV).length < maxLen := by
                  rw [List.length_map]
                  have := HX3.out.1.small
                  unfold maxLen
                  omega
                have HZ := hide (And.intro hT (And.intro hn (And.intro hno (And.intro hsub (And.intro hnew (And.intro hmr (And.intro htk (And.intro hnp hnd))))))))
                clear hDc hDz htk hcell hnd hT hsub hnew hmr hT0 h3 HTH HE3 hnp hno hex hkl
                go_wp2_with (
                  at_lookup
                  refine wpList_look_L (T := sK) _ rfl _ _ false rfl Tryz.underlying69 (zero_br _) rfl hcm hz rfl ?_
                  rw [hg])
                have c1 : wr.cell? ⟨n.b, 1, none⟩ = some (.map (some n.cm)) := CB 1
                have hst : ∀ (w4 : World) (nb nem ncm : Nat), GrownTo wr.drew w4 nb nem ncm → w4.cell? ⟨n.b, 1, none⟩ = some (.map (some n.cm)) ∧ ∃ w5, (Instr.mapUpdate 69 (.map (some n.cm)) (.string d) (.pointer (some ⟨nb, 0, none⟩))).run Tryz.prog w4 = .ok () w5 ∧ w5.cell? ⟨n.b, 1, none⟩ = some (.map (some n.cm)) ∧ ∃ K5, MapL sK w5 n.cm K5 ∧ lookV false (.pointer none) (getM K5 d) = .pointer (some ⟨nb, 0, none⟩) ∧ Hid (PLoop wc N l D gg (.pointer (some ⟨nb, 0, none⟩)) (.int .i64 (k + 1 : Nat)) w5) := by
                  rintro w4 nb nem ncm ⟨g4, hb1, hb2, hb3, hgr⟩
                  have gw4 := (Gr.refl wr).drew.trans g4
                  refine ⟨gw4.kept c1, ?_⟩
                  have hcm4 := hcm.mod (gw4.mod []) (by simp)
                  obtain ⟨w5, hrun, q1, q2⟩ := hcm4.store Tryz.underlying69 hkl2 (x := d) hz (.pointer (some ⟨nb, 0, none⟩))
                  refine ⟨w5, hrun, ?_⟩
                  obtain ⟨hT, hn, hno, hsub, hnew, hmr, htk, hnp, hnd⟩ := HZ.out
                  have hTd := hT.mod ((Gr.refl wr).drew.mod []) (by simp)
                  rw [← segOf_bytes d] at q1
                  obtain ⟨hT5, m5⟩ := hgr N' l n d.data.toList w5 hTd hn hno q1 q2
                  have m5' : Mod [n.cm] wr w5 := ((Gr.refl wr).drew.mod [n.cm]).then m5
                  have hnd5 := hT5.nd n (by simp [hn])
                  refine ⟨blk_cell hnd5.blk 1, _, hnd5.cm, ?_, hide ⟨k + 1, _, _, by omega, rfl, rfl, List.mem_cons_self .., htk.symm, hT5, fun x hx => List.mem_cons_of_mem _ (hsub x hx), fun x hx => ?_, ?_⟩⟩
                  · have := kid_some hnd5.cm (List.mem_cons_self ..) rfl
                    rw [segOf_bytes] at this
                    rw [this]
                    rfl
                  · have hs1 : wc.heap.size ≤ wr.drew.heap.size := hmr.size
                    rcases List.mem_cons.1 hx with e | hx
                    · rw [e]
                      exact .inr ⟨by show n.pre ++ [d.data.toList] <+: _; rw [← htk]; exact List.take_prefix _ _, by show wc.heap.size ≤ nb; omega, by show wc.heap.size ≤ nem; omega, by show wc.heap.size ≤ ncm; omega⟩
                    · exact hnew x hx
                  · refine hmr.trans m5' (fun _ x _ => x) fun x hx hlt2 => ?_
                    rw [List.mem_singleton.1 hx] at hlt2 ⊢
                    rcases hnew n hn with h1 | ⟨-, -, -, h1⟩
                    · exact (mem_blks h1).2.2
                    · omega
                clear hcm HZ hg
                go_region_held3 (fun w' => w'.cell? ⟨n.b, 1, none⟩ = some (.map (some n.cm)))
                  (first | assumption | go_keep)
                  (first
                    | (go_at_call 17; refine (grown_gen wr.drew).mono ?_; rintro en w4 ⟨nb, nem, ncm, rfl, hg4⟩; obtain ⟨c4, w5, hrun5, C5, K5, hcm5, hg5, HL5⟩ := hst w4 nb nem ncm hg4)
                    | fail)
                all_goals
                  clear hst
                  go_wp2_with (
                    at_lookup
                    refine wpList_look_L (T := sK) _ rfl _ _ false rfl Tryz.underlying69 (zero_br _) rfl hcm5 hz rfl ?_
                    rw [hg5])
                  go_roundg gg
                  case measure => omega
                  case rel => exact HL5.out
            · have hkk : k = D.length := by omega
              obtain ⟨h0, g13, h33, hb3⟩ := HX3.out
              have hnp2 : n.pre = segsOf p.data.toList := by
                rw [hnp, hkk, ← hD]
                exact List.take_of_length_le (by simp)
              have hpn : w.heap.size ∉ blksN N := fun x => by
                have := h0.lt w.heap.size (by simp [x])
                omega
              have hb4 := hmr.at_ hb3 hpn
              have CE4 := blk_cell hb4
              have hnd := hT.nd n hn
              have CB := blk_cell hnd.blk
              have hem := hnd.em.mod ((Gr.refl wr).drew.mod []) (by simp)
              have hidne : ∀ y, y ∈ l → y.id ≠ id := fun y hy e => by
                have h1 := HTH.out
                have : hasId l id = true := List.any_eq_true.2 ⟨y, hy, by simpa using e⟩
                rw [this] at h1
                cases h1
              have hel : ((entsOf l n.pre).map entV).length < maxLen := by
                rw [List.length_map]
                have h1 : (entsOf l n.pre).length ≤ l.length := List.length_filter_le _ _
                have h2 := h0.small
                unfold maxLen
                omega
              have hwl2 : (l.map whV).length < maxLen := by
                rw [List.length_map]
                have h2 := h0.small
                unfold maxLen
                omega
              obtain ⟨r3, hr3, hr30, hsb3⟩ := h33.blk
              obtain ⟨a1, a2, a3⟩ := h33.apart2
              have CS4 := hmr.at_ hsb3 a2
              have hwh4 := h33.wh.mod hmr a3
              have hown := new_own hnew
              have hnem : n.em ≠ sb ∧ n.em ≠ wb ∧ n.em ≠ w.heap.size := by
                have hlt2 := h33.lt
                have h1 := hlt2 sb (by simp)
                have h2 := hlt2 wb (by simp)
                have h3 := lt_of_block hb3
                rcases hown _ (mem_blks hn).2.1 with y | y
                · exact ⟨fun e => a2 (e ▸ y), fun e => a3 (e ▸ y), fun e => hpn (e ▸ y)⟩
                · exact ⟨by omega, by omega, by omega⟩
              have hTd := hT.mod ((Gr.refl wr).drew.mod []) (by simp)
              have hput : ∀ w5, MapL iK w5 n.em (setM ((entsOf l n.pre).map entV) id (aggE ⟨id, p, m, who⟩)) → wr.drew.grownBy w5 (some n.em) → TreeM w5 N' (⟨id, p, m, who⟩ :: l) ∧ Mod [n.em] wr w5 := fun w5 x1 x2 => by
                obtain ⟨y1, y2⟩ := hTd.put hn (e := ⟨id, p, m, who⟩) hnp2 hidne x1 x2
                exact ⟨y1, ((Gr.refl wr).drew.mod [n.em]).then y2⟩
              have hfin : ∀ w5 w7, TreeM w5 N' (⟨id, p, m, who⟩ :: l) → Mod [n.em] wr w5 → MapL iK w7 wb (setM (l.map whV) id (.string p)) → w5.drew.grownBy w7 (some wb) → PutTo w sb wb N (insE ⟨id, p, m, who⟩ l, 0) (.returned (.int .i64 0)) w7 := fun w5 w7 x1 x2 x3 x4 =>
                put_end g13 h33 hn x1 x2 ((Gr.refl w5).drew) hmr (fun x hx => by
                  rcases hnew x hx with y | ⟨y1, y2⟩
                  · exact .inl y
                  · exact .inr ⟨by rw [hD] at y1; exact y1, y2⟩) hsub ⟨hpk, HM.out⟩ hidne h64 (wh_put (e := ⟨id, p, m, who⟩) hidne x3) x4
              have HF := hide (And.intro hput (And.intro hfin (And.intro HE3.out (And.intro hnem (And.intro CS4 (And.intro CE4 (And.intro hwh4 hb4)))))))
              have c1 : wr.cell? ⟨n.b, 0, none⟩ = some (.map (some n.em)) := CB 0
              clear hput hfin hnem hwh4 hown hTd hT hsub hnew hmr hnd h33 hb3 hb4 CB CS4 g13 h0 HE3 hidne hDc hDz hD hpk hnp hnp2 hr3 hr30 hsb3 a1 a2 a3 hpn HX3 HTH hT0 h3 CS3 h64
              go_wp2_with fail
              go_still_tail 7, (by kernel_rfl)
              change wpList _ _ _ _ _ wr.drew
              go_wp2_with (
                at_mapUpdate
                refine wpList_store_L (T := iK) _ rfl _ _ _ rfl Tryz.underlying68 rfl hem hel (key := id) hi rfl _ rfl ?_
                intro w5 q1 q2)
              obtain ⟨hput, hfin, e1, ⟨n1, n2, n3⟩, CS4, CE4, hwh4, hb4⟩ := HF.out
              obtain ⟨hT5, m5⟩ := hput w5 q1 q2
              have CS5 := blk_cell (m5.at_ CS4 (by simp; exact n1.symm))
              have CE5 := blk_cell (m5.at_ hb4 (by simp; exact n3.symm))
              have hwh5 := (hwh4.mod m5 (by simp; exact n2.symm)).mod ((Gr.refl w5).drew.mod []) (by simp)
              have hfin5 := fun w7 x3 x4 => hfin w5 w7 hT5 m5 x3 x4
              have HF5 := hide (And.intro hfin5 e1)
              have c2 : w5.cell? ⟨sb, 1, none⟩ = some (.map (some wb)) := CS5 1
              clear hfin5 e1 hput hfin n1 n2 n3 CS4 CE4 hwh4 hb4 HF hT5 m5 hem hel q1 q2 CS5 c1
              go_wp2_with fail
              go_still_tail 8, (by kernel_rfl)
              change wpList _ _ _ _ _ w5.drew
              go_wp2_with (
                at_mapUpdate
                refine wpList_store_L (T := iK) _ rfl _ _ _ rfl Tryz.underlying49 rfl hwh5 hwl2 (key := id) hi rfl _ rfl ?_
                intro w7 q1 q2
                clear hwh5 CE5 c2)
              go_ret
              obtain ⟨hfin5, e1⟩ := HF5.out
              rw [e1]
              exact hfin5 w7 q1 q2
      · have e1 := HE2.out
        rw [if_pos HTH.out.symm] at e1
        obtain ⟨rfl, rfl⟩ := Prod.mk.inj e1
        clear e1 HE2 h3 CE
        go_wp2_with fail
        go_ret
        exact PutTo.same HX3.out.1 (HX3.out.2.1.mod []) 50
    · have hme : modE m = false := by
        unfold modE
        simp only [bne_iff_ne, ne_eq] at b1 b2
        simp [b1, b2]
      have e1 := HE.out
      rw [if_pos hme] at e1
      obtain ⟨rfl, rfl⟩ := Prod.mk.inj e1
      clear hme e1 HE h3 hpk hD hDl hDz hDc
      go_wp2_with fail
      go_ret
      exact PutTo.same HX3.out.1 (HX3.out.2.1.mod []) 11
end Go.Proofs.YthkcbennfochmaaGreatDoor
