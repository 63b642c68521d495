/-
  PLAIN LAWS, NO PROGRAM: layer 10: records as sectors.
-/
import Derived.Test.YtkfhapidoolfdaaGreatDoorOct
namespace Go.Proofs.YtkfhapidoolfdaaGreatDoor

structure Prt where
  gen : Nat
  seq : Nat
  index : Nat
  parts : Nat
  data : B8
/-- the first sixty bytes -/
def bodyS (gen seq i n : Nat) (piece : B8) : B8 := fourB gen ++ (fourB seq ++ (UInt8.ofNat i :: UInt8.ofNat n :: UInt8.ofNat piece.length :: (piece ++ List.replicate (49 - piece.length) 0)))
def packOne (gen seq i n : Nat) (piece : B8) : B8 := bodyS gen seq i n piece ++ fourB (sumB (bodyS gen seq i n piece))
/-- how many sectors so many bytes take -/
def widthN (n : Nat) : Nat := max 1 ((n + 46) / 47)
def pieceS (data : B8) (i : Nat) : B8 := (data.drop (47 * i)).take 47
def packL (gen seq : Nat) (data : B8) : List B8 := (List.range (widthN data.length)).map fun i => packOne gen seq i (widthN data.length) (pieceS data i)

def lenS (b : B8) : Nat := (b.getD 10 0).toNat
def fullB (n i parts : Nat) : Bool := if i + 1 = parts then decide (n ≤ 47 ∧ (0 < n ∨ parts = 1)) else decide (n = 47)
def fitsB (gen seq i parts : Nat) : Bool := decide (1 ≤ gen ∧ gen ≤ 1073741824 ∧ seq ≤ 1073741824 ∧ parts ≤ 4 ∧ i < parts)
def zeroB (l : B8) : Bool := l.all fun c => c == 0
def crcOk (b : B8) : Bool := decide (ofFour (b.drop 60) = sumB (b.take 60))
def okLook (b : B8) : Bool := decide (b.length = 64) && (crcOk b && (fitsB (ofFour b) (ofFour (b.drop 4)) (b.getD 8 0).toNat (b.getD 9 0).toNat && (fullB (lenS b) (b.getD 8 0).toNat (b.getD 9 0).toNat && zeroB ((b.drop (11 + lenS b)).take (49 - lenS b)))))
def prtOf (b : B8) : Prt := ⟨ofFour b, ofFour (b.drop 4), (b.getD 8 0).toNat, (b.getD 9 0).toNat, (b.drop 11).take (lenS b)⟩
/-- what a sector has -/
def lookS (b : B8) : Option Prt := if okLook b = true then some (prtOf b) else none

theorem bodyS_len {gen seq i n : Nat} {piece : B8} (h : piece.length ≤ 47) : (bodyS gen seq i n piece).length = 60 := by
  simp only [bodyS, List.length_append, List.length_cons, fourB_len, List.length_replicate]; omega
theorem packOne_len {gen seq i n : Nat} {piece : B8} (h : piece.length ≤ 47) : (packOne gen seq i n piece).length = 64 := by
  unfold packOne
  rw [List.length_append, bodyS_len h, fourB_len]
theorem pieceS_len (data : B8) (i : Nat) : (pieceS data i).length = min 47 (data.length - 47 * i) := by simp [pieceS]
theorem packL_len (gen seq : Nat) (data : B8) : (packL gen seq data).length = widthN data.length := by simp [packL]
theorem packL_at {gen seq : Nat} {data : B8} {i : Nat} (h : i < widthN data.length) : (packL gen seq data)[i]? = some (packOne gen seq i (widthN data.length) (pieceS data i)) := by simp [packL, h]

theorem full_iff {n i parts : Nat} : fullB n i parts = true ↔ n ≤ 47 ∧ (if i + 1 = parts then 0 < n ∨ parts = 1 else n = 47) := by
  unfold fullB
  by_cases h : i + 1 = parts
  · rw [if_pos h, if_pos h]; simp
  · rw [if_neg h, if_neg h]; simp; omega
theorem zero_iff {l : B8} : zeroB l = true ↔ l = List.replicate l.length 0 := by
  unfold zeroB
  rw [List.all_eq_true, List.eq_replicate_iff]
  simp
theorem fits_iff {gen seq i parts : Nat} : fitsB gen seq i parts = true ↔ 1 ≤ gen ∧ gen ≤ 1073741824 ∧ seq ≤ 1073741824 ∧ parts ≤ 4 ∧ i < parts := by simp [fitsB]
theorem okLook_iff {b : B8} : okLook b = true ↔ b.length = 64 ∧ crcOk b = true ∧ fitsB (ofFour b) (ofFour (b.drop 4)) (b.getD 8 0).toNat (b.getD 9 0).toNat = true ∧ fullB (lenS b) (b.getD 8 0).toNat (b.getD 9 0).toNat = true ∧ zeroB ((b.drop (11 + lenS b)).take (49 - lenS b)) = true := by
  simp [okLook]

theorem sec_cut {b : B8} (h : b.length = 64) {n : Nat} (hn : n ≤ 47) : b = b.take 4 ++ ((b.drop 4).take 4 ++ (b.getD 8 0 :: b.getD 9 0 :: b.getD 10 0 :: ((b.drop 11).take n ++ (b.drop (11 + n)).take (49 - n)))) ++ b.drop 60 := by
  have e3 : b.drop 8 = b.getD 8 0 :: b.getD 9 0 :: b.getD 10 0 :: b.drop 11 := by
    rw [List.drop_eq_getElem_cons (show 8 < b.length by omega), List.drop_eq_getElem_cons (show 8 + 1 < b.length by omega), List.drop_eq_getElem_cons (show 8 + 1 + 1 < b.length by omega)]
    simp [h]
  have e4 : (b.drop 11).take n ++ (b.drop (11 + n)).take (49 - n) = (b.drop 11).take 49 := by
    have := List.take_add (l := b.drop 11) (i := n) (j := 49 - n)
    rw [List.drop_drop, show n + (49 - n) = 49 by omega] at this
    exact this.symm
  rw [e4]
  have e5 : b.drop 8 = b.getD 8 0 :: b.getD 9 0 :: b.getD 10 0 :: ((b.drop 11).take 49 ++ b.drop 60) := by
    rw [e3]
    congr 3
    have := List.take_append_drop 49 (b.drop 11)
    rw [List.drop_drop] at this
    exact this.symm
  have e6 : b = b.take 4 ++ ((b.drop 4).take 4 ++ b.drop 8) := by
    have h1 := List.take_append_drop 4 (b.drop 4)
    rw [List.drop_drop] at h1
    rw [h1, List.take_append_drop]
  rw [e5] at e6
  simpa using e6
theorem take60 {b : B8} (h : b.length = 64) {n : Nat} (hn : n ≤ 47) : b.take 60 = b.take 4 ++ ((b.drop 4).take 4 ++ (b.getD 8 0 :: b.getD 9 0 :: b.getD 10 0 :: ((b.drop 11).take n ++ (b.drop (11 + n)).take (49 - n)))) := by
  have e := sec_cut h hn
  conv => lhs; rw [e]
  rw [List.take_append_of_le_length (by simp [h]; omega), List.take_of_length_le (by simp [h]; omega)]
/-- a sector that is taken is laid so -/
theorem body_of_look {b : B8} (h : okLook b = true) : b.take 60 = bodyS (prtOf b).gen (prtOf b).seq (prtOf b).index (prtOf b).parts (prtOf b).data := by
  obtain ⟨hl, _, _, hf, hz⟩ := okLook_iff.1 h
  have hn := (full_iff.1 hf).1
  rw [zero_iff] at hz
  have ez : ((b.drop (11 + lenS b)).take (49 - lenS b)).length = 49 - lenS b := by simp [hl]; omega
  rw [ez] at hz
  have ed : ((b.drop 11).take (lenS b)).length = lenS b := by simp [hl]; omega
  rw [take60 hl hn, hz]
  unfold bodyS prtOf
  simp only
  rw [four_ofFour (by omega), four_ofFour (by simp [hl]), ed, ofNat_of_toNat, ofNat_of_toNat]
  unfold lenS
  rw [ofNat_of_toNat]
theorem look_laid {b : B8} {p : Prt} (h : lookS b = some p) : b = packOne p.gen p.seq p.index p.parts p.data := by
  unfold lookS at h
  by_cases hk : okLook b = true
  · rw [if_pos hk] at h
    obtain rfl := Option.some.inj h
    obtain ⟨hl, hc, _⟩ := okLook_iff.1 hk
    have hc : ofFour (b.drop 60) = sumB (b.take 60) := by simpa [crcOk] using hc
    unfold packOne
    have e4 : (b.drop 60).take 4 = b.drop 60 := List.take_of_length_le (by simp [hl])
    rw [← body_of_look hk, ← hc, four_ofFour (by simp [hl]), e4, List.take_append_drop]
  · rw [if_neg hk] at h; cases h
theorem look_fits {b : B8} {p : Prt} (h : lookS b = some p) : b.length = 64 ∧ (1 ≤ p.gen ∧ p.gen ≤ 1073741824 ∧ p.seq ≤ 1073741824 ∧ p.parts ≤ 4 ∧ p.index < p.parts) ∧ p.data.length ≤ 47 ∧ (if p.index + 1 = p.parts then 0 < p.data.length ∨ p.parts = 1 else p.data.length = 47) := by
  unfold lookS at h
  by_cases hk : okLook b = true
  · rw [if_pos hk] at h
    obtain rfl := Option.some.inj h
    obtain ⟨hl, _, hf, hu, _⟩ := okLook_iff.1 hk
    have hu := full_iff.1 hu
    have ed : ((b.drop 11).take (lenS b)).length = lenS b := by simp [hl]; omega
    refine ⟨hl, fits_iff.1 hf, ?_⟩
    show ((b.drop 11).take (lenS b)).length ≤ 47 ∧ _
    simp only [prtOf]
    rw [ed]
    exact hu
  · rw [if_neg hk] at h; cases h

theorem getD_append_right' {l r : B8} {n k : Nat} (h : l.length = n) : (l ++ r).getD (n + k) 0 = r.getD k 0 := by
  subst h
  rw [List.getD_eq_getElem?_getD, List.getD_eq_getElem?_getD, List.getElem?_append_right (by omega), Nat.add_sub_cancel_left]
theorem body_parts (gen seq i n : Nat) (piece r : B8) : (bodyS gen seq i n piece ++ r).getD 8 0 = UInt8.ofNat i ∧ (bodyS gen seq i n piece ++ r).getD 9 0 = UInt8.ofNat n ∧ (bodyS gen seq i n piece ++ r).getD 10 0 = UInt8.ofNat piece.length ∧
    (bodyS gen seq i n piece ++ r).drop 4 = fourB seq ++ (UInt8.ofNat i :: UInt8.ofNat n :: UInt8.ofNat piece.length :: (piece ++ List.replicate (49 - piece.length) 0) ++ r) ∧
    (bodyS gen seq i n piece ++ r).drop 11 = piece ++ List.replicate (49 - piece.length) 0 ++ r := by
  refine ⟨rfl, rfl, rfl, ?_, ?_⟩ <;> simp [bodyS, fourB]
/-- what is laid is taken -/
theorem look_pack {gen seq i n : Nat} {piece : B8} (h1 : 1 ≤ gen ∧ gen ≤ 1073741824) (h2 : seq ≤ 1073741824) (h3 : n ≤ 4) (h4 : i < n) (h5 : piece.length ≤ 47) (h6 : if i + 1 = n then 0 < piece.length ∨ n = 1 else piece.length = 47) :
    lookS (packOne gen seq i n piece) = some ⟨gen, seq, i, n, piece⟩ := by
  have hb := bodyS_len (gen := gen) (seq := seq) (i := i) (n := n) h5
  obtain ⟨e8, e9, e10, e4, e11⟩ := body_parts gen seq i n piece (fourB (sumB (bodyS gen seq i n piece)))
  have hl := packOne_len (gen := gen) (seq := seq) (i := i) (n := n) h5
  have g0 : ofFour (packOne gen seq i n piece) = gen := by
    unfold packOne bodyS
    rw [List.append_assoc]
    exact ofFour_four (by omega) _
  have g4 : ofFour ((packOne gen seq i n piece).drop 4) = seq := by
    unfold packOne
    rw [e4]
    exact ofFour_four (by omega) _
  have g8 : ((packOne gen seq i n piece).getD 8 0).toNat = i := by
    unfold packOne
    rw [e8, ofNat_toNat (by omega)]
  have g9 : ((packOne gen seq i n piece).getD 9 0).toNat = n := by
    unfold packOne
    rw [e9, ofNat_toNat (by omega)]
  have gl : lenS (packOne gen seq i n piece) = piece.length := by
    unfold lenS packOne
    rw [e10, ofNat_toNat (by omega)]
  have gd : ((packOne gen seq i n piece).drop 11).take piece.length = piece := by
    unfold packOne
    rw [e11, List.append_assoc, List.take_left']
    rfl
  have gz : ((packOne gen seq i n piece).drop (11 + piece.length)).take (49 - piece.length) = List.replicate (49 - piece.length) 0 := by
    rw [← List.drop_drop]
    unfold packOne
    rw [e11, List.append_assoc, List.drop_left' rfl, List.take_left' (by simp)]
  have gc : crcOk (packOne gen seq i n piece) = true := by
    unfold crcOk packOne
    rw [List.drop_left' hb, List.take_left' hb]
    have := ofFour_four (sumB_lt (bodyS gen seq i n piece)) []
    rw [List.append_nil] at this
    rw [this]
    simp
  have hk : okLook (packOne gen seq i n piece) = true := by
    rw [okLook_iff]
    refine ⟨hl, gc, ?_, ?_, ?_⟩
    · rw [g0, g4, g8, g9, fits_iff]; exact ⟨h1.1, h1.2, h2, h3, h4⟩
    · rw [gl, g8, g9, full_iff]; exact ⟨h5, h6⟩
    · rw [gl, gz, zero_iff, List.length_replicate]
  unfold lookS
  rw [if_pos hk]
  unfold prtOf
  rw [g0, g4, g8, g9, gl, gd]
/-- the document's road: read loosely, taken if laid so -/
theorem look_doc {b : B8} (hl : b.length = 64) : lookS b = if fitsB (ofFour b) (ofFour (b.drop 4)) (b.getD 8 0).toNat (b.getD 9 0).toNat = true ∧ fullB (lenS b) (b.getD 8 0).toNat (b.getD 9 0).toNat = true ∧ packOne (prtOf b).gen (prtOf b).seq (prtOf b).index (prtOf b).parts (prtOf b).data = b then some (prtOf b) else none := by
  by_cases h : fitsB (ofFour b) (ofFour (b.drop 4)) (b.getD 8 0).toNat (b.getD 9 0).toNat = true ∧ fullB (lenS b) (b.getD 8 0).toNat (b.getD 9 0).toNat = true ∧ packOne (prtOf b).gen (prtOf b).seq (prtOf b).index (prtOf b).parts (prtOf b).data = b
  · rw [if_pos h]
    obtain ⟨h1, h2, h3⟩ := h
    have f := fits_iff.1 h1
    have u := full_iff.1 h2
    have ed : ((b.drop 11).take (lenS b)).length = lenS b := by simp [hl]; omega
    have := look_pack (gen := (prtOf b).gen) (seq := (prtOf b).seq) (i := (prtOf b).index) (n := (prtOf b).parts) (piece := (prtOf b).data) ⟨f.1, f.2.1⟩ f.2.2.1 f.2.2.2.1 f.2.2.2.2 (by show ((b.drop 11).take (lenS b)).length ≤ 47; rw [ed]; exact u.1) (by
      show if (b.getD 8 0).toNat + 1 = (b.getD 9 0).toNat then 0 < ((b.drop 11).take (lenS b)).length ∨ (b.getD 9 0).toNat = 1 else ((b.drop 11).take (lenS b)).length = 47
      rw [ed]; exact u.2)
    rw [h3] at this
    exact this
  · rw [if_neg h]
    cases hk : lookS b with
    | none => rfl
    | some p =>
      exfalso
      have hx := look_laid hk
      unfold lookS at hk
      by_cases ho : okLook b = true
      · rw [if_pos ho] at hk
        obtain rfl := Option.some.inj hk
        obtain ⟨_, _, hf, hu, _⟩ := okLook_iff.1 ho
        exact h ⟨hf, hu, hx.symm⟩
      · rw [if_neg ho] at hk; cases hk

/-! ### records in sectors -/
def partS (l : List B8) (gen at_ seq index parts : Nat) : Option Prt := (l[at_]?).bind fun b => (lookS b).bind fun p => if p.gen = gen ∧ p.seq = seq ∧ p.index = index ∧ (parts = 0 ∨ p.parts = parts) then some p else none
/-- so many parts more, from this one on -/
def restS (l : List B8) (gen at_ seq parts : Nat) : Nat → Nat → Option B8
  | 0, _ => some []
  | k + 1, i => (partS l gen (at_ + i) seq i parts).bind fun p => (restS l gen at_ seq parts k (i + 1)).bind fun d => some (p.data ++ d)
def recS (l : List B8) (gen at_ seq : Nat) : Option (B8 × Nat) := (partS l gen at_ seq 0 0).bind fun p => (restS l gen at_ seq p.parts (p.parts - 1) 1).bind fun d => some (p.data ++ d, p.parts)
def scanF (l : List B8) (gen : Nat) : Nat → Nat → Nat → List B8 × Nat
  | 0, at_, _ => ([], at_)
  | f + 1, at_, seq => match recS l gen at_ seq with
    | none => ([], at_)
    | some (d, n) => (d :: (scanF l gen f (at_ + n) (seq + 1)).1, (scanF l gen f (at_ + n) (seq + 1)).2)
def scanS (l : List B8) (gen : Nat) : List B8 × Nat := scanF l gen (l.length + 1) 0 0
theorem part_some {l : List B8} {gen at_ seq index parts : Nat} {p : Prt} (h : partS l gen at_ seq index parts = some p) : ∃ b, l[at_]? = some b ∧ lookS b = some p ∧ p.gen = gen ∧ p.seq = seq ∧ p.index = index ∧ (parts = 0 ∨ p.parts = parts) := by
  unfold partS at h
  cases hb : l[at_]? with
  | none => rw [hb] at h; cases h
  | some b =>
    rw [hb] at h
    simp only [Option.bind_some] at h
    cases hp : lookS b with
    | none => rw [hp] at h; cases h
    | some q =>
      rw [hp] at h
      simp only [Option.bind_some] at h
      by_cases hc : q.gen = gen ∧ q.seq = seq ∧ q.index = index ∧ (parts = 0 ∨ q.parts = parts)
      · rw [if_pos hc] at h
        obtain rfl := Option.some.inj h
        exact ⟨b, rfl, hp, hc⟩
      · rw [if_neg hc] at h; cases h
theorem part_lt {l : List B8} {gen at_ seq index parts : Nat} {p : Prt} (h : partS l gen at_ seq index parts = some p) : at_ < l.length := by
  obtain ⟨b, hb, _⟩ := part_some h
  exact (List.getElem?_eq_some_iff.1 hb).1
theorem rec_some {l : List B8} {gen at_ seq : Nat} {d : B8} {n : Nat} (h : recS l gen at_ seq = some (d, n)) : ∃ p d', partS l gen at_ seq 0 0 = some p ∧ restS l gen at_ seq p.parts (p.parts - 1) 1 = some d' ∧ d = p.data ++ d' ∧ n = p.parts := by
  unfold recS at h
  cases hp : partS l gen at_ seq 0 0 with
  | none => rw [hp] at h; cases h
  | some p =>
    rw [hp] at h
    simp only [Option.bind_some] at h
    cases hr : restS l gen at_ seq p.parts (p.parts - 1) 1 with
    | none => rw [hr] at h; cases h
    | some d' =>
      rw [hr] at h
      simp only [Option.bind_some, Option.some.injEq, Prod.mk.injEq] at h
      exact ⟨p, d', rfl, hr, h.1.symm, h.2.symm⟩
theorem rec_pos {l : List B8} {gen at_ seq : Nat} {d : B8} {n : Nat} (h : recS l gen at_ seq = some (d, n)) : 1 ≤ n ∧ n ≤ 4 ∧ at_ < l.length := by
  obtain ⟨p, _, hp, _, _, rfl⟩ := rec_some h
  obtain ⟨b, _, hl, _⟩ := part_some hp
  have := (look_fits hl).2.1
  exact ⟨by omega, by omega, part_lt hp⟩
/-- enough fuel is enough -/
theorem scanF_fuel (l : List B8) (gen : Nat) : ∀ (f g at_ seq : Nat), l.length < f + at_ → l.length < g + at_ → scanF l gen f at_ seq = scanF l gen g at_ seq
  | 0, 0, _, _, _, _ => rfl
  | 0, g + 1, at_, seq, h, _ => by
    unfold scanF
    cases hr : recS l gen at_ seq with
    | none => rfl
    | some r => have := (rec_pos (d := r.1) (n := r.2) hr).2.2; omega
  | f + 1, 0, at_, seq, _, h => by
    unfold scanF
    cases hr : recS l gen at_ seq with
    | none => rfl
    | some r => have := (rec_pos (d := r.1) (n := r.2) hr).2.2; omega
  | f + 1, g + 1, at_, seq, h, k => by
    unfold scanF
    cases hr : recS l gen at_ seq with
    | none => rfl
    | some r =>
      obtain ⟨d, n⟩ := r
      have := rec_pos hr
      simp only
      rw [scanF_fuel l gen f g (at_ + n) (seq + 1) (by omega) (by omega)]
/-! ### how Pack fills a sector -/
def spl (L : B8) (off : Nat) (cs : B8) : B8 := L.take off ++ (cs ++ L.drop (off + cs.length))
def pk3 (gen seq i n len : Nat) : B8 := ((((spl (spl (List.replicate 64 0) 0 (fourB gen)) 4 (fourB seq)).set 8 (UInt8.ofNat i)).set 9 (UInt8.ofNat n)).set 10 (UInt8.ofNat len))
theorem pk3_eq (gen seq i n len : Nat) : pk3 gen seq i n len = fourB gen ++ (fourB seq ++ (UInt8.ofNat i :: UInt8.ofNat n :: UInt8.ofNat len :: List.replicate 53 0)) := rfl
theorem pk4_eq (gen seq i n : Nat) {piece : B8} (h : piece.length ≤ 47) : spl (pk3 gen seq i n piece.length) 11 piece = bodyS gen seq i n piece ++ [0, 0, 0, 0] := by
  rw [pk3_eq]
  have e1 : (fourB gen ++ (fourB seq ++ (UInt8.ofNat i :: UInt8.ofNat n :: UInt8.ofNat piece.length :: List.replicate 53 0))) = (fourB gen ++ (fourB seq ++ [UInt8.ofNat i, UInt8.ofNat n, UInt8.ofNat piece.length])) ++ List.replicate 53 0 := by simp
  rw [e1]
  unfold spl
  rw [List.take_left' (by simp [fourB_len]), ← List.drop_drop, List.drop_left' (by simp [fourB_len]), List.drop_replicate]
  have e2 : List.replicate (53 - piece.length) (0 : UInt8) = List.replicate (49 - piece.length) 0 ++ [0, 0, 0, 0] := by
    rw [show 53 - piece.length = (49 - piece.length) + 4 by omega, ← List.replicate_append_replicate]; rfl
  rw [e2]
  simp [bodyS]
theorem pack_steps (gen seq i n : Nat) {piece : B8} (h : piece.length ≤ 47) : (spl (pk3 gen seq i n piece.length) 11 piece).take 60 = bodyS gen seq i n piece ∧ (spl (pk3 gen seq i n piece.length) 11 piece).length = 64 ∧
    spl (spl (pk3 gen seq i n piece.length) 11 piece) 60 (fourB (sumB (bodyS gen seq i n piece))) = packOne gen seq i n piece := by
  have hl := bodyS_len (gen := gen) (seq := seq) (i := i) (n := n) h
  rw [pk4_eq gen seq i n h]
  refine ⟨List.take_left' hl, by simp [hl], ?_⟩
  unfold spl
  rw [List.take_left' hl, List.drop_of_length_le (by simp [hl, fourB_len])]
  simp [packOne]
end Go.Proofs.YtkfhapidoolfdaaGreatDoor
