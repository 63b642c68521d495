/-
  WALK: layer 5: Drop.
-/
import Derived.Test.YthkcbennfochmaaGreatDoorPsPrune
namespace Go.Proofs.YthkcbennfochmaaGreatDoor
open Go.RowKit Go.Maps

theorem wh_drop (l : List Ent) (i : Int) : delM (l.map whV) i = (dropS5 l i).map whV := by
  unfold delM dropS5
  rw [List.filter_map]
  rfl
theorem get_mem {l : List Ent} {i : Int} {e : Ent} (h : getS5 l i = some e) : e ∈ l ∧ e.id = i := by
  unfold getS5 at h
  exact ⟨List.mem_of_find?_eq_some h, by simpa using List.find?_some h⟩
theorem blks_sub {N N' : List Nd} (h : ∀ n, n ∈ N' → n ∈ N) {k : Nat} (hk : k ∈ blksN N') : k ∈ blksN N := by
  obtain ⟨x, hx, hc⟩ := List.mem_flatMap.1 hk
  exact mem_blks3 (h x hx) hc
/-- a set's answer to Drop -/
def DropTo (w : World) (sb wb : Nat) (N : List Nd) (l : List Ent) (i : Int) (e : Ending) (w' : World) : Prop := e = .returned (.bool (hasId l i)) ∧ ∃ N', SetM w' sb wb N' (dropS5 l i) ∧ SetTo w sb wb N w' N'
theorem drop_none {l : List Ent} {i : Int} (h : getS5 l i = none) : hasId l i = false ∧ dropS5 l i = l := by
  have h0 := hasId_get l i
  rw [h] at h0
  refine ⟨h0.symm, List.filter_eq_self.2 fun x hx => decide_eq_true fun e => ?_⟩
  have : hasId l i = true := List.any_eq_true.2 ⟨x, hx, by simpa using e⟩
  rw [this] at h0
  cases h0
theorem drop_end {w w2 w3 w4 : World} {sb wb : Nat} {N N1 : List Nd} {l : List Ent} {e : Ent} (g : Gr w w2) (h : SetM w2 sb wb N l) (hT : TreeM w3 N1 (dropS5 l e.id)) (hPr : Prn N (dropS5 l e.id) [] N1) (hm : Mod (blksN N) w2 w3) (he : e ∈ l)
    (q1 : MapL iK w4 wb (delM (l.map whV) e.id)) (q2 : w3.grownBy w4 (some wb)) : DropTo w sb wb N l e.id (.returned (.bool true)) w4 := by
  obtain ⟨a1, a2, a3⟩ := h.apart2
  have hb : hasId l e.id = true := List.any_eq_true.2 ⟨e, he, by simp⟩
  have hsub : ∀ k, k ∈ blksN N1 → k ∈ blksN N := fun k hk => blks_sub hPr.sub hk
  have m4 : Mod [wb] w3 w4 := (Mod.refl [wb] w3).grown q2 (fun k e _ => by simp at e; simp [e])
  have hT4 := hT.mod m4 (fun k hk => by simp; exact fun x => a3 (x ▸ hsub k hk))
  have mAll : Mod (wb :: blksN N) w2 w4 := hm.trans m4 (fun x hx _ => List.mem_cons_of_mem _ hx) (fun x hx _ => by simp at hx; simp [hx])
  rw [wh_drop] at q1
  refine ⟨by rw [hb], N1, ⟨?_, hT4.nd, q1, ?_, hT4.tr, fun n hn h0 => hPr.has n hn (List.nil_prefix) h0, h.ids.filter _, fun x hx => h.ok x (mem_dropS5.1 hx).1, Nat.le_trans (List.length_filter_le _ _) h.small⟩, ⟨(g.mod (wb :: blksN N)).then mAll, fun k hk => .inl (hsub k hk)⟩⟩
  · obtain ⟨r, hr, hr0, hb⟩ := h.blk
    exact ⟨r, hPr.keep r hr (fun x => x.2 hr0), hr0, mAll.at_ hb (by simp; exact ⟨a1, a2⟩)⟩
  · exact List.nodup_cons.2 ⟨by simp; exact ⟨a1, fun x => a2 (hsub _ x)⟩, List.nodup_cons.2 ⟨fun x => a3 (hsub _ x), hT.apart⟩⟩
set_option maxHeartbeats 1000000 in
set_option maxRecDepth 100000 in
theorem sdrop_any {w : World} {sb wb : Nat} {N : List Nd} {l : List Ent} (h : SetM w sb wb N l) (id : Int) (hi : (Lit.int .i64 id).wf = true) :
    Calls Tryz.prog 16 #[.pointer (some ⟨sb, 0, none⟩), .int .i64 id] w fun en w' => DropTo w sb wb N l id en w' := by
  obtain ⟨r, hr, hr0, hsb⟩ := h.blk
  have CS := blk_cell hsb
  have hwh := h.wh
  have hget := wh_get h.ids id
  have HX := hide (And.intro h (And.intro hr hr0))
  cases hg : getS5 l id with
  | none =>
    obtain ⟨e1, e2⟩ := drop_none hg
    rw [hg] at hget
    have HE := hide (And.intro e1 e2)
    clear h hr hr0 hsb hg e1 e2
    go_enter Tryz.func16, Tryz.ntmps16
    go_wp2_with (
      at_lookup
      refine wpList_look_L (T := iK) _ rfl _ _ true rfl Tryz.underlying49 (zero_str _) rfl hwh hi rfl ?_
      rw [hget]
      simp only [Option.map_none, lookV, if_true])
    go_ret
    refine ⟨by rw [HE.out.1]; rfl, N, by rw [HE.out.2]; exact HX.out.1, Mod.refl _ _, fun _ hk => .inl hk⟩
  | some e =>
    obtain ⟨he, rfl⟩ := get_mem hg
    rw [hg] at hget
    have hok := (h.ok e he).1
    have hps : e.path.size ≤ 9223372036854775807 := by
      have := pathOk_len hok
      rw [Lib.size_eq]
      exact Nat.le_trans this (by decide)
    have HE := hide he
    clear h hr hr0 hsb hg he
    go_enter Tryz.func16, Tryz.ntmps16
    go_wp2_with (first
      | (at_lookup
         refine wpList_look_L (T := iK) _ rfl _ _ true rfl Tryz.underlying49 (zero_str _) rfl hwh hi rfl ?_
         rw [hget]
         simp only [Option.map_some, lookV, if_true])
      | (go_at_call 30
         refine (psplit_gen e.path hps _).mono ?_
         rintro en w2 ⟨q, D, er, rfl, g2, hs2⟩
         rcases hs2 with ⟨-, h1, -⟩ | ⟨rfl, -, hD, hDl, hDz, hDc⟩
         · exact absurd (h1.symm.trans hok) (by simp)
         obtain ⟨h, hr, hr0⟩ := HX.out
         have h2 := h.same (g2.mod [])
         have hpr := prune_any D.length h2.tree h2.pr h2.ids hr HE.out rfl (by rw [hr0]; exact hD.symm) q (fun i hi2 => by
           obtain ⟨b, x1, x2, x3⟩ := hDc i hi2
           exact ⟨b, 0, x1, fun x => by have := h.lt b (by simp [x]); omega, hDz i hi2, by rw [Nat.zero_add]; exact x3⟩) D.length (Nat.le_refl _) hDl hi
         have HPR := hide hpr
         have HX2 := hide (And.intro h2 (And.intro g2 hr0))
         obtain ⟨a1, a2, a3⟩ := h2.apart2
         obtain ⟨r', hr', hr0', hsb2⟩ := h2.blk
         obtain rfl : r' = r := pre_one h2.tr.one hr' hr (by rw [hr0, hr0'])
         have CS2 := blk_cell hsb2
         have HA := hide (And.intro a2 (And.intro a3 hsb2))
         clear hpr h hr hr0 h2 hD hDz hDc hwh a1 a2 a3 hr' hr0' hsb2)
      | (go_at_call 36
         refine HPR.out.mono ?_
         rintro en w3 ⟨rfl, N1, hT, hP1, hm1⟩
         obtain ⟨a2, a3, hsb2⟩ := HA.out
         obtain ⟨h2, g2, hr0⟩ := HX2.out
         have CS3 := blk_cell (hm1.at_ hsb2 a2)
         have hwh3 := h2.wh.mod hm1 a3
         have HT := hide (And.intro hT (And.intro hP1 hm1))
         clear h2 g2 hT hP1 hm1 CS2 a2 a3 hsb2 HA HPR hr0)
      | (at_delete
         refine wpList_delete_L (T := iK) _ rfl _ _ rfl Tryz.underlying49 rfl hwh3 (key := e.id) hi rfl ?_
         intro w4 q1 q2
         clear hwh3 CS3)
      | fail)
    go_ret
    obtain ⟨hT, hP1, hm1⟩ := HT.out
    obtain ⟨h2, g2, hr0⟩ := HX2.out
    rw [hr0] at hP1
    exact drop_end g2 h2 hT hP1 hm1 HE.out q1 q2
set_option maxRecDepth 100000 in
theorem sdrop_nil (id : Int) (w : World) : Calls Tryz.prog 16 #[.pointer none, .int .i64 id] w fun e w' => e = .returned (.bool false) ∧ w' = w := by
  go_enter Tryz.func16, Tryz.ntmps16
  go_wp2_with fail
  go_ret
  exact ⟨rfl, rfl⟩
set_option maxRecDepth 100000 in
theorem sput_nil (id : Int) (p : ByteArray) (m who : Int) (w : World) : Calls Tryz.prog 10 #[.pointer none, .agg #[.int .i64 id, .string p, .int .i64 m, .int .i64 who]] w fun e w' => e = .returned (.int .i64 1) ∧ Gr w w' := by
  have G := hide ((Gr.refl w).alloc (objE id p m who))
  go_enter Tryz.func10, Tryz.ntmps10
  go_wp2_with fail
  go_ret
  exact ⟨rfl, G.out⟩
end Go.Proofs.YthkcbennfochmaaGreatDoor
