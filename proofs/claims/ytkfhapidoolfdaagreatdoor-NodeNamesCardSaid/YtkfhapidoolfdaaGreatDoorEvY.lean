/-
  E's SUMMARIES hold: what they need, and the plain ones.
-/
import Derived.Test.YtkfhapidoolfdaaGreatDoorEG5
import Derived.Test.YtkfhapidoolfdaaGreatDoorEvX
import Derived.Test.YtkfhapidoolfdaaGreatDoorOctS
import Derived.Test.YtkfhapidoolfdaaGreatDoorScan
import Derived.Lib.Bytealg
namespace Go.Proofs.YtkfhapidoolfdaaGreatDoor
open Go
namespace Ev

theorem stp_mod {P : Program} {ρ : Rn} {σ : St} {w w' : World} (R : Rep P ρ σ w) (m : Mod [] w w') : Stp P ρ σ w ρ σ w' := by
  have hb : ∀ a, a < w.heap.size → w'.heap[a]? = w.heap[a]? := fun a ha => m.block a ha (by simp)
  refine ⟨⟨?_, R.inj, R.lim, fun k a c h => Nat.lt_of_lt_of_le (R.inb k a c h) m.size⟩, Le.refl ρ, Nat.le_refl _, fun _ h => h, fun _ _ _ h => .inl h, m.size, fun a ha _ => hb a ha, m.os, m.output, m.tape, fun _ h => .inl h, fun _ h => .inl h, fun _ _ _ => rfl, fun _ _ => rfl⟩
  intro k e h
  obtain ⟨a, c, o, h1, h2, h3⟩ := R.blk k e h
  exact ⟨a, c, o, h1, by rw [hb a (R.inb k a c h1)]; exact h2, h3⟩
/-- a block of the new memory, told -/
theorem stp_at {P : Program} {ρ : Rn} {σ : St} {w w' : World} (R : Rep P ρ σ w) (m : Mod [] w w') {g c : Nat} {e : EO} {o : Obj} (hg : w.heap.size ≤ g) (ho : w'.heap[g]? = some o) (hd : ObjD P (Rn.add ρ σ.nx g c) c e o) : Stp P ρ σ w (Rn.add ρ σ.nx g c) (σ.new e) w' := by
  have S := stp_mod R m
  have R' := S.rep
  have gp : ∀ j, (σ.new e).h.get j = if j = σ.nx then some e else σ.h.get j := fun j => TrO.get_put σ.h σ.nx (some e) j
  have le := R.le_add g c
  have hlt : g < w'.heap.size := (Array.getElem?_eq_some_iff.1 ho).1
  refine ⟨⟨?_, ?_, ?_, ?_⟩, le, Nat.le_succ _, fun j h => h, ?_, m.size, S.keep, m.os, m.output, m.tape, ?_, fun j h => .inl h, ?_, fun k hk => by rw [Rn.add, if_neg (by omega)]⟩
  · intro j x hj
    rw [gp j] at hj
    by_cases h : j = σ.nx
    · subst h
      rw [if_pos rfl] at hj
      cases hj
      exact ⟨g, c, o, Rn.add_self .., ho, hd⟩
    · rw [if_neg h] at hj
      obtain ⟨b, d, x', h1, h2, h3⟩ := R'.blk j x hj
      exact ⟨b, d, x', le _ _ h1, h2, ObjD.mono le h3⟩
  · intro i j b x y hi hj h1 h2
    rw [gp i] at hi
    rw [gp j] at hj
    rw [Rn.add] at h1 h2
    by_cases e1 : i = σ.nx
    · by_cases e2 : j = σ.nx
      · rw [e1, e2]
      · rw [if_pos e1] at h1
        rw [if_neg e2] at h2
        cases h1
        have := R.inb j _ _ h2
        omega
    · by_cases e2 : j = σ.nx
      · rw [if_neg e1] at h1
        rw [if_pos e2] at h2
        cases h2
        have := R.inb i _ _ h1
        omega
      · rw [if_neg e1] at h1 hi
        rw [if_neg e2] at h2 hj
        exact R.inj i j b x y hi hj h1 h2
  · intro k hk
    have hk' : σ.nx + 1 ≤ k := hk
    rw [Rn.add, if_neg (by omega)]
    exact R.lim k (by omega)
  · intro k b d h
    rw [Rn.add] at h
    by_cases e1 : k = σ.nx
    · rw [if_pos e1] at h; cases h; exact hlt
    · rw [if_neg e1] at h; exact R'.inb k b d h
  · intro k a d h
    rw [Rn.add] at h
    by_cases e1 : k = σ.nx
    · rw [if_pos e1] at h; cases h; exact .inr (.inl hg)
    · rw [if_neg e1] at h; exact .inl h
  · intro j h
    rw [gp j] at h
    by_cases q : j = σ.nx
    · right; omega
    · rw [if_neg q] at h; exact .inl h
  · intro j hj _
    rw [gp j, if_neg (by omega)]
theorem runs_of {P : Program} {f : FuncId} {args : Array Value} {w : World} {R : Value → World → Prop} (h1 : (callFunc f args).run P w = .ok (.enter f args) w) (h2 : Calls P f args w fun e w' => ∃ u, e = .returned u ∧ R u w') : Runs P f args w R := by
  refine .inl ⟨h1, h2.mono ?_⟩
  rintro e w' ⟨u, rfl, h⟩
  exact h
/-! ### bytes -/
theorem unL_len (bs : Nat) : ∀ n i, (unL bs i n).length = n
  | 0, _ => rfl
  | n + 1, i => by rw [unL, List.length_cons, unL_len bs n (i + 1)]
theorem unL_at (bs : Nat) : ∀ n i j, j < n → (unL bs i n).getD j 0 = UInt8.ofNat (segB bs (i + j) 1)
  | 0, _, _, h => absurd h (Nat.not_lt_zero _)
  | n + 1, i, 0, _ => rfl
  | n + 1, i, j + 1, h => by
    rw [unL, List.getD_cons_succ, unL_at bs n (i + 1) j (by omega), show i + 1 + j = i + (j + 1) by omega]
theorem y8_un (bs n j : Nat) (h : j < n) : y8 ((unL bs 0 n).getD j 0) = byV bs j := by
  have hs : segB bs j 1 < 256 := by
    rw [segB_eq]
    exact Nat.mod_lt _ (by decide)
  rw [unL_at bs n 0 j h, Nat.zero_add, y8, byV, UInt8.toNat_ofNat', Nat.mod_eq_of_lt hs]
  rfl
/-- a slice of told capacity that E reads as bytes -/
theorem bytesS_D {P : Program} {ρ : Rn} {σ : St} {w : World} (R : Rep P ρ σ w) {x : EV} {u : Value} {l : List UInt8} (d : Den ρ x u) (e : bytesS σ x = some l) :
    RdY w u l ∧ ∃ b a c bs m el op, ρ b = some (a, c) ∧ σ.h.get b = some (.y bs m el op) ∧ ob u = [a] := by
  unfold bytesS at e
  split at e
  · next b o n q k =>
    split at e
    · next hs =>
      unfold small at hs
      obtain ⟨s1, s2⟩ := Bool.and_eq_true_iff.1 hs
      have s1 := Nat.le_of_ble_eq_true s1
      have s2 := Nat.le_of_ble_eq_true s2
      obtain ⟨a, c, hr, rfl⟩ := d.sl
      cases hl : loadN σ b o n with
      | none => rw [hl] at e; cases e
      | some r =>
        rw [hl] at e
        cases r with
        | l cs => cases e
        | y bs m =>
          have e : unL bs 0 m = l := by cases e; rfl
          subst e
          obtain ⟨vs, g1, g2, g3⟩ := R.load hr hl
          have hm : m = n := by
            have := RowD.len g2
            rw [g1] at this
            exact this.symm
          subst hm
          have g2 : vs = unV bs 0 m := g2
          constructor
          · refine ⟨?_, .inr ⟨a, o, q, ?_, ⟨?_, ?_⟩, R.inb b a c hr, ?_⟩⟩
            · rw [unL_len]; exact Nat.le_trans (Nat.le_trans s1 s2) (by decide)
            · rw [unL_len]; rfl
            · rw [unL_len]; exact s1
            · exact Nat.le_trans s2 (by decide)
            · intro i hi
              rw [unL_len] at hi
              rw [y8_un bs m i hi]
              refine g3 i (byV bs i) ?_
              rw [g2, unV_at bs m 0 i hi, Nat.zero_add]
          · rw [loadN] at hl
            cases hk : σ.h.get b with
            | none => rw [hk] at hl; cases hl
            | some eo =>
              rw [hk] at hl
              cases eo with
              | y bs' m' el op => exact ⟨b, a, c, bs', m', el, op, hr, hk, rfl⟩
              | c tr m' z el op =>
                rw [loadB] at hl
                split at hl
                · cases hl
                · cases hl
              | m es cl => cases hl
              | it mm s se st => cases hl
              | si s p => cases hl
    · cases e
  · cases e
theorem sum_ok {ρ : Rn} {σ σ' : St} {w : World} {args : List EV} {vs : List Value} {v : EV} (R : Rep Tryz.prog ρ σ w) (da : Dens ρ args vs) (e : extSum σ args = some (.ok v σ')) : Runs Tryz.prog 278 vs.toArray w fun u w' => ∃ ρ', Den ρ' v u ∧ Stp Tryz.prog ρ σ w ρ' σ' w' := by
  unfold extSum at e
  split at e
  · next x =>
    obtain ⟨u, r, d1, d2, rfl⟩ := da.cons
    rw [d2.nil]
    cases hb : bytesS σ x with
    | none => rw [hb] at e; cases e
    | some l =>
      rw [hb] at e
      cases e
      have hy := (bytesS_D R d1 hb).1
      refine runs_of (enters_of Tryz.func278 (by kernel_rfl) rfl _ w) ((sum_any hy).mono ?_)
      rintro e w' ⟨rfl, rfl⟩
      exact ⟨_, rfl, ρ, Den.sv _, Stp.refl R⟩
  · cases e
theorem cntB_eq (c : UInt8) : ∀ l : List UInt8, cntB c l = Lib.countByte l c
  | [] => rfl
  | x :: r => by
    have ih := cntB_eq c r
    unfold Lib.countByte at ih ⊢
    rw [cntB, List.count_cons]
    cases h : Nat.beq x.toNat c.toNat with
    | true =>
      have hx : x = c := UInt8.toNat_inj.1 (Nat.eq_of_beq_eq_true h)
      rw [if_pos (by rw [hx]; exact beq_self_eq_true c)]
      show cntB c r + 1 = _
      rw [ih]
    | false =>
      have hx : ¬ (x == c) = true := by
        intro q
        have : x = c := by simpa using q
        rw [this, Nat.beq_refl] at h
        cases h
      rw [if_neg hx]
      show cntB c r = _
      rw [ih, Nat.add_zero]
theorem idxB_eq (c : UInt8) : ∀ (l : List UInt8) (i : Nat), idxB c i l = if Lib.indexByte l c = -1 then -1 else Lib.indexByte l c + i
  | [], i => rfl
  | x :: r, i => by
    have ih := idxB_eq c r (i + 1)
    have hge := Lib.indexByte_ge r c
    rw [idxB, Lib.indexByte]
    cases h : Nat.beq x.toNat c.toNat with
    | true =>
      have hx : x = c := UInt8.toNat_inj.1 (Nat.eq_of_beq_eq_true h)
      rw [if_pos (show (x == c) = true by rw [hx]; exact beq_self_eq_true c), if_neg (by decide)]
      show Int.ofNat i = 0 + (i : Int)
      rw [Int.zero_add]; rfl
    | false =>
      have hx : ¬ (x == c) = true := by
        intro q
        have : x = c := by simpa using q
        rw [this, Nat.beq_refl] at h
        cases h
      rw [if_neg hx]
      show idxB c (i + 1) r = _
      rw [ih]
      by_cases q : Lib.indexByte r c = -1
      · rw [if_pos q, q]; rfl
      · have q1 : ¬ (Lib.indexByte r c == -1) = true := fun z => q (by simpa using z)
        have q2 : ¬ Lib.indexByte r c + 1 = -1 := by omega
        rw [if_neg q, if_neg q1, if_neg q2]
        push_cast
        omega
theorem cnt_ok {ρ : Rn} {σ σ' : St} {w : World} {args : List EV} {vs : List Value} {v : EV} (R : Rep Tryz.prog ρ σ w) (da : Dens ρ args vs) (e : extCnt σ args = some (.ok v σ')) : Runs Tryz.prog 114 vs.toArray w fun u w' => ∃ ρ', Den ρ' v u ∧ Stp Tryz.prog ρ σ w ρ' σ' w' := by
  unfold extCnt at e
  split at e
  · next t k =>
    obtain ⟨u1, r1, d1, d2, rfl⟩ := da.cons
    obtain ⟨u2, r2, d3, d4, rfl⟩ := d2.cons
    rw [d4.nil, d1.s, d3.s]
    cases e
    refine .inr ⟨.int .i64 (Lib.countByte t.data.toList (UInt8.ofNat k)), w, ?_, ρ, ?_, Stp.refl R⟩
    · rw [run_callFunc_extern (e := Extern.BytealgCount.count) Tryz.func114 (by kernel_rfl) rfl (by kernel_rfl) (by kernel_rfl)]
      show Result.andThen ((Extern.BytealgCount.count #[.string t, .int .u8 (Int.ofNat k)]).run Tryz.prog w) _ = _
      rw [Lib.run_countString]
      rfl
    · rw [← cntB_eq]; exact Den.sv _
  · cases e
theorem idx_ok {ρ : Rn} {σ σ' : St} {w : World} {args : List EV} {vs : List Value} {v : EV} (R : Rep Tryz.prog ρ σ w) (da : Dens ρ args vs) (e : extIdx σ args = some (.ok v σ')) : Runs Tryz.prog 367 vs.toArray w fun u w' => ∃ ρ', Den ρ' v u ∧ Stp Tryz.prog ρ σ w ρ' σ' w' := by
  unfold extIdx at e
  split at e
  · next t k =>
    obtain ⟨u1, r1, d1, d2, rfl⟩ := da.cons
    obtain ⟨u2, r2, d3, d4, rfl⟩ := d2.cons
    rw [d4.nil, d1.s, d3.s]
    cases e
    refine .inr ⟨.int .i64 (Lib.indexByte t.data.toList (UInt8.ofNat k)), w, ?_, ρ, ?_, Stp.refl R⟩
    · rw [run_callFunc_extern (e := Extern.BytealgIndexByte.indexByte) Tryz.func367 (by kernel_rfl) rfl (by kernel_rfl) (by kernel_rfl)]
      show Result.andThen ((Extern.BytealgIndexByte.indexByte #[.string t, .int .u8 (Int.ofNat k)]).run Tryz.prog w) _ = _
      rw [Lib.run_indexByteString]
      rfl
    · have h : idxB (UInt8.ofNat k) 0 t.data.toList = Lib.indexByte t.data.toList (UInt8.ofNat k) := by
        rw [idxB_eq]
        by_cases q : Lib.indexByte t.data.toList (UInt8.ofNat k) = -1
        · rw [if_pos q, q]
        · rw [if_neg q]; simp
      rw [h]; exact Den.sv _
  · cases e
end Ev
end Go.Proofs.YtkfhapidoolfdaaGreatDoor
