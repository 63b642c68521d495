/-
  WALK: layer 5: filled.
-/
import Derived.Test.YthkcbennfochmaaDoorPsK
import Derived.Test.YthkcbennfochmaaDoorPsOpen
namespace Go.Proofs.YthkcbennfochmaaDoor
open Go.RowKit Go.Maps

/-- the entries put in, as far as they may be -/
def fillS (l : List Ent) : List Ent := l.foldl (fun a e => (putS5 a e).1) []
theorem fill_take (l : List Ent) {k : Nat} (h : k < l.length) : fillS (l.take (k + 1)) = (putS5 (fillS (l.take k)) (l.getD k default)).1 := by
  unfold fillS
  rw [take_succ_getD l h, List.foldl_append]
  rfl
def FillRel (w : World) (sb wb : Nat) (l : List Ent) (i : Value) (wr : World) : Prop := ∃ (k : Nat) (N : List Nd), k ≤ l.length ∧ i = .int .i64 k ∧ SS w wr sb wb N (fillS (l.take k))
set_option maxHeartbeats 1000000 in
set_option maxRecDepth 100000 in
theorem filled_any {w : World} {q : Option Addr} {c : Nat} {l : List Ent} (h : RdE w (.slice q l.length c) l) (hin : ∀ e, e ∈ l → inE e) :
    Calls Tryd.prog 14 #[.slice q l.length c] w fun e w' => ∃ sb wb N, e = .returned (.pointer (some ⟨sb, 0, none⟩)) ∧ SS w w' sb wb N (fillS l) := by
  have hll : l.length ≤ 9223372036854775807 := h.1
  have HX := hide (And.intro h hin)
  clear h hin
  go_enter Tryd.func14, Tryd.ntmps14
  go_wp2_with (
    go_at_call 9
    refine (new_eq (Mod.refl [] w)).mono ?_
    rintro e w1 ⟨sb, wb, N, rfl, s, -⟩
    have H0 := hide s
    clear s)
  go_loopw [9] (fun i wr => FillRel w sb wb l i wr) (fun i _ => l.length - (intOf i).toNat)
  case atStart => exact ⟨0, N, Nat.zero_le _, rfl, H0.out⟩
  case round =>
    clear H0
    obtain ⟨k, N1, hk, rfl, hs⟩ := hrel
    have HS := hide hs
    have hms := hs.mod
    clear hs
    by_cases hlt : k < l.length
    · obtain ⟨b, off, rfl, hb, c0, c1, c2, c3⟩ := (HX.out.1.same hms).at_ hlt
      have hmem : inE (l.getD k default) := HX.out.2 _ (by simp [hlt])
      have hst := fill_take l hlt
      obtain ⟨⟨xi, xp, xm, xw⟩, he⟩ : ∃ e, l.getD k default = e := ⟨_, rfl⟩
      rw [he] at c0 c1 c2 c3 hmem hst
      dsimp only at c0 c1 c2 c3
      have i1 : (0 : Int) ≤ (k : Int) := by omega
      have i2 : (k : Int) < (l.length : Int) := by omega
      have HM := hide (And.intro hmem hst)
      have hbx := blk_cell (heap_alloc_new wr (objE xi xp xm xw))
      have hgx := (Gr.refl wr).alloc (objE xi xp xm xw)
      have HS2 := hide (HS.out.gr hgx)
      clear hmem hst he hms hgx HS
      go_wp2_with (
        go_at_call 11
        refine (put_eq HS2.out xi xp xm xw HM.out.1.2 HM.out.1.1 rfl).mono ?_
        rintro e w3 ⟨rfl, N3, s, -⟩
        have H3 := hide s
        clear s HS2)
      go_roundw
      case rel => exact ⟨k + 1, N3, by omega, by go_num, by rw [HM.out.2]; exact H3.out⟩
      case measure => simp [intOf]; omega
    · obtain rfl : k = l.length := by omega
      go_wp2_with fail
      go_ret
      have := HS.out
      rw [List.take_length] at this
      exact ⟨sb, wb, N1, rfl, this⟩
end Go.Proofs.YthkcbennfochmaaDoor
