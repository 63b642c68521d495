/-
  THE LAW PathsetNames: its walk.
-/
import Derived.Test.YthkcbennfochmaaDoorPsK
namespace Go.Proofs.YthkcbennfochmaaDoor
open Go.RowKit Go.Maps

def nmE (i : Nat) : Ent := ⟨(i : Int), { data := #[97] }, 1, 0⟩
def nmL (k : Nat) : List Ent := (List.range k).map nmE
theorem insE_last {e : Ent} {l : List Ent} (h : ∀ x, x ∈ l → ltE x e) : insE e l = l ++ [e] := by
  induction l with
  | nil => rfl
  | cons x r ih =>
    unfold insE
    rw [if_pos (h x List.mem_cons_self), ih fun y hy => h y (List.mem_cons_of_mem _ hy)]
    rfl
theorem nm_put {k : Nat} (hk : k < 64) : putS5 (nmL k) ⟨(k : Int), { data := #[97] }, 1, 0⟩ = (nmL (k + 1), 0) := by
  have h1 : pathOk (nmE k).bs = true := by kernel_rfl
  have h2 : modE 1 = true := rfl
  have h3 : hasId (nmL k) k = false := by
    unfold hasId nmL
    rw [List.any_eq_false]
    intro x hx hd
    obtain ⟨i, hi, rfl⟩ := List.mem_map.1 hx
    have e : ((i : Int)) = k := of_decide_eq_true hd
    have := List.mem_range.1 hi
    omega
  have h4 : ¬ (nmL k).length = 64 := by simp [nmL]; omega
  have h5 : insE (nmE k) (nmL k) = nmL (k + 1) := by
    rw [insE_last (fun x hx => ?_)]
    · unfold nmL
      rw [List.range_succ, List.map_append]
      rfl
    · obtain ⟨i, hi, rfl⟩ := List.mem_map.1 hx
      have := List.mem_range.1 hi
      exact .inr ⟨rfl, by show (i : Int) < k; omega⟩
  show putS5 (nmL k) (nmE k) = _
  unfold putS5
  rw [if_neg (by rw [h1]; decide), if_neg (by show ¬ modE 1 = false; rw [h2]; decide), if_neg (by show ¬ hasId (nmL k) k = true; rw [h3]; decide), if_neg h4, h5]
def nmL7 : List Ent := dropS5 (nmL 64) 7
theorem nm_64 : putS5 (nmL 64) ⟨64, { data := #[97] }, 1, 0⟩ = (nmL 64, 51) := by kernel_rfl
theorem nm_63 : putS5 (nmL 64) ⟨63, { data := #[97] }, 1, 0⟩ = (nmL 64, 50) := by kernel_rfl
theorem nm_7 : hasId (nmL 64) 7 = true := by kernel_rfl
theorem nm_0 : putS5 nmL7 ⟨64, { data := #[] }, 1, 0⟩ = ((putS5 nmL7 ⟨64, { data := #[] }, 1, 0⟩).1, 0) ∧ ((putS5 nmL7 ⟨64, { data := #[] }, 1, 0⟩).1.length : Int) = 64 := ⟨by kernel_rfl, by kernel_rfl⟩
def NamesRel (w : World) (sb wb : Nat) (i : Value) (wr : World) : Prop := ∃ (k : Nat) (N : List Nd), k ≤ 64 ∧ i = .int .i64 k ∧ SS w wr sb wb N (nmL k)
theorem nat_wf {k : Nat} (h : k ≤ 64) : (Lit.int .i64 (k : Int)).wf = true := by
  have e1 : IntKind.i64.min = -9223372036854775808 := rfl
  have e2 : IntKind.i64.max = 9223372036854775807 := rfl
  simp [Lit.wf]
  omega
set_option maxHeartbeats 1000000 in
set_option maxRecDepth 100000 in
theorem names_any (w : World) : Calls Tryd.prog 3 #[] w fun e w' => e = .returned (.bool true) ∧ Mod [] w w' := by
  go_enter Tryd.func3, Tryd.ntmps3
  go_wp2_with (first
    | (go_at_call 9
       refine (new_eq (Mod.refl [] w)).mono ?_
       rintro e w1 ⟨sb, wb, N, rfl, s, -⟩
       have H0 := hide s
       clear s)
    | (go_at_call 10
       refine (awake_any _).mono ?_
       rintro e w2 ⟨rfl, hm2⟩
       have H1 := hide (H0.out.same hm2)
       clear hm2 H0)
    | fail)
  go_loopw [2] (fun i wr => NamesRel w sb wb i wr) (fun i _ => 64 - (intOf i).toNat)
  case atStart => exact ⟨0, N, by omega, rfl, H1.out⟩
  case round =>
    clear H1
    obtain ⟨k, N1, hk, rfl, hs⟩ := hrel
    have HS := hide hs
    clear hs
    by_cases hlt : k < 64
    · have i1 : (k : Int) < 64 := by omega
      have HP := hide (nm_put hlt)
      have HW := hide (nat_wf hk)
      go_wp2_with (
        go_at_call 11
        refine (put_eq HS.out _ _ _ _ (by decide) HW.out HP.out).mono ?_
        rintro e w3 ⟨rfl, N3, s, -⟩
        have H3 := hide s
        clear s HS)
      go_roundw
      case rel => exact ⟨k + 1, N3, by omega, by go_num, H3.out⟩
      case measure => simp [intOf]; omega
    · obtain rfl : k = 64 := by omega
      go_wp2_with (first
        | (go_at_call 11
           refine (put_eq HS.out 64 _ _ _ (by decide) (by decide) nm_64).mono ?_
           rintro e w3 ⟨rfl, N3, s, -⟩
           have H3 := hide s
           clear s HS)
        | (go_at_call 11
           refine (put_eq H3.out 63 _ _ _ (by decide) (by decide) nm_63).mono ?_
           rintro e w4 ⟨rfl, N4, s, -⟩
           have H4 := hide s
           clear s H3)
        | (go_at_call 12
           refine (drop_eq H4.out 7 (by decide) (l' := nmL7) rfl nm_7).mono ?_
           rintro e w5 ⟨rfl, N5, s, -⟩
           have H5 := hide s
           clear s H4)
        | (go_at_call 11
           refine (put_eq H5.out 64 _ _ _ (by decide) (by decide) nm_0.1).mono ?_
           rintro e w6 ⟨rfl, N6, s, -⟩
           have H6 := hide s
           clear s H5)
        | (go_at_call 13
           refine (len_eq H6.out.q nm_0.2).mono ?_
           rintro e w7 ⟨rfl, hw⟩
           subst hw)
        | fail)
      go_ret
      exact ⟨rfl, H6.out.mod⟩
end Go.Proofs.YthkcbennfochmaaDoor
