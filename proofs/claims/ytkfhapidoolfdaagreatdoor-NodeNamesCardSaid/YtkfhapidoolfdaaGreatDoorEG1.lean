/-
  PLAIN, OVER ANY PROGRAM: a tree that maps numbers to things, for the kernel to reckon with. Written by gen_evtr.py: eight ways at each node; a number's path is a closed term, which the kernel reckons once. PLAIN, OVER ANY PROGRAM: a run of a program over a memory that is written out, in which blocks have numbers of its own: for the kernel to reckon with. PLAIN, OVER ANY PROGRAM: one operation. PLAIN, OVER ANY PROGRAM: statements, calls; a run.
-/
import Derived.WalkKit
import Derived.CheckFast
namespace Go.Proofs.YtkfhapidoolfdaaGreatDoor
open Go
namespace Ev

inductive Dg where
  | d0 | d1 | d2 | d3 | d4 | d5 | d6 | d7
  deriving DecidableEq
/-- digits -/
noncomputable def dig (k : Nat) : Dg :=
  Bool.rec (Bool.rec (Bool.rec .d6 .d7 (Nat.beq k 7)) (Bool.rec .d4 .d5 (Nat.beq k 5)) (Nat.ble k 5))
    (Bool.rec (Bool.rec .d2 .d3 (Nat.beq k 3)) (Bool.rec .d0 .d1 (Nat.beq k 1)) (Nat.ble k 1)) (Nat.ble k 3)
noncomputable def pathF (n : Nat) : Nat → List Dg :=
  Nat.rec (motive := fun _ => Nat → List Dg) (fun _ => []) (fun _ ih k => Bool.rec (dig (Nat.mod (Nat.sub k 1) 8) :: ih (Nat.div (Nat.sub k 1) 8)) [] (Nat.beq k 0)) n
noncomputable def path (k : Nat) : List Dg := pathF (k + 1) k
theorem pathF_zero (n : Nat) : pathF n 0 = [] := by cases n <;> rfl
theorem pathF_succ (n k : Nat) : pathF (n + 1) (k + 1) = dig (k % 8) :: pathF n (k / 8) := rfl
theorem dig_inj {a b : Nat} (ha : a < 8) (hb : b < 8) (h : dig a = dig b) : a = b := by
  have key : ∀ a < 8, ∀ b < 8, dig a = dig b → a = b := by
    intro a ha b hb
    have h1 : a = 0 ∨ a = 1 ∨ a = 2 ∨ a = 3 ∨ a = 4 ∨ a = 5 ∨ a = 6 ∨ a = 7 := by omega
    have h2 : b = 0 ∨ b = 1 ∨ b = 2 ∨ b = 3 ∨ b = 4 ∨ b = 5 ∨ b = 6 ∨ b = 7 := by omega
    obtain rfl | rfl | rfl | rfl | rfl | rfl | rfl | rfl := h1 <;> obtain rfl | rfl | rfl | rfl | rfl | rfl | rfl | rfl := h2 <;> first | exact fun _ => rfl | exact fun h => Dg.noConfusion h
  exact key a ha b hb h
theorem pathF_inj : ∀ (n m a b : Nat), a < n → b < m → pathF n a = pathF m b → a = b
  | 0, _, _, _, h, _, _ => by omega
  | _ + 1, 0, _, _, _, h, _ => by omega
  | n + 1, m + 1, 0, 0, _, _, _ => rfl
  | n + 1, m + 1, 0, b + 1, _, _, h => by rw [pathF_zero, pathF_succ] at h; cases h
  | n + 1, m + 1, a + 1, 0, _, _, h => by rw [pathF_zero, pathF_succ] at h; cases h
  | n + 1, m + 1, a + 1, b + 1, ha, hb, h => by
    rw [pathF_succ, pathF_succ] at h
    injection h with h1 h2
    have e1 := dig_inj (Nat.mod_lt a (by decide)) (Nat.mod_lt b (by decide)) h1
    have e2 := pathF_inj n m (a / 8) (b / 8) (by omega) (by omega) h2
    omega
theorem path_inj {a b : Nat} (h : path a = path b) : a = b := pathF_inj _ _ a b (Nat.lt_succ_self a) (Nat.lt_succ_self b) h
/-- a value; its blocks by their own numbers; 'sl b o n (some c) _': capacity c; 'sl b o n none k': what the block holds, less k; 'z': an empty slice that is not nil, wherever it lies; 'by_ bs n': an array of n bytes, the number bs in digits of 256 -/
inductive EV where
  | s (v : Value)
  | p (b o : Nat)
  | sl (b o len : Nat) (cap : Option Nat) (k : Nat)
  | zl
  | m (b : Nat)
  | f (fn : Fn) (fs cs : List EV)
  | i (t : TypeId) (v : EV)
  | a (cs : List EV)
  | by_ (bs n : Nat)
  | t (cs : List EV)
  deriving Inhabited
structure ME where
  key : EV
  val : EV
  born : Nat
/-- cells that stand in a row: told one by one, or n bytes as a number -/
inductive Row where
  | l (cs : List EV)
  | y (bs n : Nat)
inductive TrV where
  | lf
  | nd (v : Option EV) (c0 c1 c2 c3 c4 c5 c6 c7 : TrV) : TrV
namespace TrV
noncomputable def ch0 (t : TrV) : TrV := TrV.rec (motive := fun _ => TrV) .lf (fun _ c0 _ _ _ _ _ _ _ _ _ _ _ _ _ _ _ => c0) t
noncomputable def ch1 (t : TrV) : TrV := TrV.rec (motive := fun _ => TrV) .lf (fun _ _ c1 _ _ _ _ _ _ _ _ _ _ _ _ _ _ => c1) t
noncomputable def ch2 (t : TrV) : TrV := TrV.rec (motive := fun _ => TrV) .lf (fun _ _ _ c2 _ _ _ _ _ _ _ _ _ _ _ _ _ => c2) t
noncomputable def ch3 (t : TrV) : TrV := TrV.rec (motive := fun _ => TrV) .lf (fun _ _ _ _ c3 _ _ _ _ _ _ _ _ _ _ _ _ => c3) t
noncomputable def ch4 (t : TrV) : TrV := TrV.rec (motive := fun _ => TrV) .lf (fun _ _ _ _ _ c4 _ _ _ _ _ _ _ _ _ _ _ => c4) t
noncomputable def ch5 (t : TrV) : TrV := TrV.rec (motive := fun _ => TrV) .lf (fun _ _ _ _ _ _ c5 _ _ _ _ _ _ _ _ _ _ => c5) t
noncomputable def ch6 (t : TrV) : TrV := TrV.rec (motive := fun _ => TrV) .lf (fun _ _ _ _ _ _ _ c6 _ _ _ _ _ _ _ _ _ => c6) t
noncomputable def ch7 (t : TrV) : TrV := TrV.rec (motive := fun _ => TrV) .lf (fun _ _ _ _ _ _ _ _ c7 _ _ _ _ _ _ _ _ => c7) t
noncomputable def child (d : Dg) : TrV → TrV := Dg.rec (motive := fun _ => TrV → TrV) ch0 ch1 ch2 ch3 ch4 ch5 ch6 ch7 d
noncomputable def top (t : TrV) : Option EV := TrV.rec (motive := fun _ => Option EV) none (fun v _ _ _ _ _ _ _ _ _ _ _ _ _ _ _ _ => v) t
noncomputable def getP (p : List Dg) : TrV → Option EV := List.rec (motive := fun _ => TrV → Option EV) (fun t => TrV.rec (motive := fun _ => Option EV) none (fun v _ _ _ _ _ _ _ _ _ _ _ _ _ _ _ _ => v) t) (fun d _ ih t => ih (Dg.rec (motive := fun _ => TrV → TrV) (fun t => TrV.rec (motive := fun _ => TrV) .lf (fun _ c0 _ _ _ _ _ _ _ _ _ _ _ _ _ _ _ => c0) t) (fun t => TrV.rec (motive := fun _ => TrV) .lf (fun _ _ c1 _ _ _ _ _ _ _ _ _ _ _ _ _ _ => c1) t) (fun t => TrV.rec (motive := fun _ => TrV) .lf (fun _ _ _ c2 _ _ _ _ _ _ _ _ _ _ _ _ _ => c2) t) (fun t => TrV.rec (motive := fun _ => TrV) .lf (fun _ _ _ _ c3 _ _ _ _ _ _ _ _ _ _ _ _ => c3) t) (fun t => TrV.rec (motive := fun _ => TrV) .lf (fun _ _ _ _ _ c4 _ _ _ _ _ _ _ _ _ _ _ => c4) t) (fun t => TrV.rec (motive := fun _ => TrV) .lf (fun _ _ _ _ _ _ c5 _ _ _ _ _ _ _ _ _ _ => c5) t) (fun t => TrV.rec (motive := fun _ => TrV) .lf (fun _ _ _ _ _ _ _ c6 _ _ _ _ _ _ _ _ _ => c6) t) (fun t => TrV.rec (motive := fun _ => TrV) .lf (fun _ _ _ _ _ _ _ _ c7 _ _ _ _ _ _ _ _ => c7) t) d t)) p
noncomputable def get (t : TrV) (k : Nat) : Option EV := getP (path k) t
noncomputable def up0 (f : TrV → TrV) (t : TrV) : TrV := TrV.rec (motive := fun _ => (TrV → TrV) → TrV) (fun f => .nd none (f .lf) .lf .lf .lf .lf .lf .lf .lf) (fun v c0 c1 c2 c3 c4 c5 c6 c7 _ _ _ _ _ _ _ _ f => .nd v (f c0) c1 c2 c3 c4 c5 c6 c7) t f
noncomputable def up1 (f : TrV → TrV) (t : TrV) : TrV := TrV.rec (motive := fun _ => (TrV → TrV) → TrV) (fun f => .nd none .lf (f .lf) .lf .lf .lf .lf .lf .lf) (fun v c0 c1 c2 c3 c4 c5 c6 c7 _ _ _ _ _ _ _ _ f => .nd v c0 (f c1) c2 c3 c4 c5 c6 c7) t f
noncomputable def up2 (f : TrV → TrV) (t : TrV) : TrV := TrV.rec (motive := fun _ => (TrV → TrV) → TrV) (fun f => .nd none .lf .lf (f .lf) .lf .lf .lf .lf .lf) (fun v c0 c1 c2 c3 c4 c5 c6 c7 _ _ _ _ _ _ _ _ f => .nd v c0 c1 (f c2) c3 c4 c5 c6 c7) t f
noncomputable def up3 (f : TrV → TrV) (t : TrV) : TrV := TrV.rec (motive := fun _ => (TrV → TrV) → TrV) (fun f => .nd none .lf .lf .lf (f .lf) .lf .lf .lf .lf) (fun v c0 c1 c2 c3 c4 c5 c6 c7 _ _ _ _ _ _ _ _ f => .nd v c0 c1 c2 (f c3) c4 c5 c6 c7) t f
noncomputable def up4 (f : TrV → TrV) (t : TrV) : TrV := TrV.rec (motive := fun _ => (TrV → TrV) → TrV) (fun f => .nd none .lf .lf .lf .lf (f .lf) .lf .lf .lf) (fun v c0 c1 c2 c3 c4 c5 c6 c7 _ _ _ _ _ _ _ _ f => .nd v c0 c1 c2 c3 (f c4) c5 c6 c7) t f
noncomputable def up5 (f : TrV → TrV) (t : TrV) : TrV := TrV.rec (motive := fun _ => (TrV → TrV) → TrV) (fun f => .nd none .lf .lf .lf .lf .lf (f .lf) .lf .lf) (fun v c0 c1 c2 c3 c4 c5 c6 c7 _ _ _ _ _ _ _ _ f => .nd v c0 c1 c2 c3 c4 (f c5) c6 c7) t f
noncomputable def up6 (f : TrV → TrV) (t : TrV) : TrV := TrV.rec (motive := fun _ => (TrV → TrV) → TrV) (fun f => .nd none .lf .lf .lf .lf .lf .lf (f .lf) .lf) (fun v c0 c1 c2 c3 c4 c5 c6 c7 _ _ _ _ _ _ _ _ f => .nd v c0 c1 c2 c3 c4 c5 (f c6) c7) t f
noncomputable def up7 (f : TrV → TrV) (t : TrV) : TrV := TrV.rec (motive := fun _ => (TrV → TrV) → TrV) (fun f => .nd none .lf .lf .lf .lf .lf .lf .lf (f .lf)) (fun v c0 c1 c2 c3 c4 c5 c6 c7 _ _ _ _ _ _ _ _ f => .nd v c0 c1 c2 c3 c4 c5 c6 (f c7)) t f
noncomputable def upd (d : Dg) : (TrV → TrV) → TrV → TrV := Dg.rec (motive := fun _ => (TrV → TrV) → TrV → TrV) up0 up1 up2 up3 up4 up5 up6 up7 d
noncomputable def topP (t : TrV) (x : Option EV) : TrV := TrV.rec (motive := fun _ => Option EV → TrV) (fun x => .nd x .lf .lf .lf .lf .lf .lf .lf .lf) (fun _ c0 c1 c2 c3 c4 c5 c6 c7 _ _ _ _ _ _ _ _ x => .nd x c0 c1 c2 c3 c4 c5 c6 c7) t x
noncomputable def putP (p : List Dg) : Option EV → TrV → TrV := List.rec (motive := fun _ => Option EV → TrV → TrV) (fun x t => TrV.rec (motive := fun _ => Option EV → TrV) (fun x => .nd x .lf .lf .lf .lf .lf .lf .lf .lf) (fun _ c0 c1 c2 c3 c4 c5 c6 c7 _ _ _ _ _ _ _ _ x => .nd x c0 c1 c2 c3 c4 c5 c6 c7) t x) (fun d _ ih x t => Dg.rec (motive := fun _ => (TrV → TrV) → TrV → TrV) (fun f t => TrV.rec (motive := fun _ => (TrV → TrV) → TrV) (fun f => .nd none (f .lf) .lf .lf .lf .lf .lf .lf .lf) (fun v c0 c1 c2 c3 c4 c5 c6 c7 _ _ _ _ _ _ _ _ f => .nd v (f c0) c1 c2 c3 c4 c5 c6 c7) t f) (fun f t => TrV.rec (motive := fun _ => (TrV → TrV) → TrV) (fun f => .nd none .lf (f .lf) .lf .lf .lf .lf .lf .lf) (fun v c0 c1 c2 c3 c4 c5 c6 c7 _ _ _ _ _ _ _ _ f => .nd v c0 (f c1) c2 c3 c4 c5 c6 c7) t f) (fun f t => TrV.rec (motive := fun _ => (TrV → TrV) → TrV) (fun f => .nd none .lf .lf (f .lf) .lf .lf .lf .lf .lf) (fun v c0 c1 c2 c3 c4 c5 c6 c7 _ _ _ _ _ _ _ _ f => .nd v c0 c1 (f c2) c3 c4 c5 c6 c7) t f) (fun f t => TrV.rec (motive := fun _ => (TrV → TrV) → TrV) (fun f => .nd none .lf .lf .lf (f .lf) .lf .lf .lf .lf) (fun v c0 c1 c2 c3 c4 c5 c6 c7 _ _ _ _ _ _ _ _ f => .nd v c0 c1 c2 (f c3) c4 c5 c6 c7) t f) (fun f t => TrV.rec (motive := fun _ => (TrV → TrV) → TrV) (fun f => .nd none .lf .lf .lf .lf (f .lf) .lf .lf .lf) (fun v c0 c1 c2 c3 c4 c5 c6 c7 _ _ _ _ _ _ _ _ f => .nd v c0 c1 c2 c3 (f c4) c5 c6 c7) t f) (fun f t => TrV.rec (motive := fun _ => (TrV → TrV) → TrV) (fun f => .nd none .lf .lf .lf .lf .lf (f .lf) .lf .lf) (fun v c0 c1 c2 c3 c4 c5 c6 c7 _ _ _ _ _ _ _ _ f => .nd v c0 c1 c2 c3 c4 (f c5) c6 c7) t f) (fun f t => TrV.rec (motive := fun _ => (TrV → TrV) → TrV) (fun f => .nd none .lf .lf .lf .lf .lf .lf (f .lf) .lf) (fun v c0 c1 c2 c3 c4 c5 c6 c7 _ _ _ _ _ _ _ _ f => .nd v c0 c1 c2 c3 c4 c5 (f c6) c7) t f) (fun f t => TrV.rec (motive := fun _ => (TrV → TrV) → TrV) (fun f => .nd none .lf .lf .lf .lf .lf .lf .lf (f .lf)) (fun v c0 c1 c2 c3 c4 c5 c6 c7 _ _ _ _ _ _ _ _ f => .nd v c0 c1 c2 c3 c4 c5 c6 (f c7)) t f) d (ih x) t) p
noncomputable def put (t : TrV) (k : Nat) (x : Option EV) : TrV := putP (path k) x t

theorem child_upd (d e : Dg) (f : TrV → TrV) (t : TrV) : child e (upd d f t) = if e = d then f (child e t) else child e t := by
  cases t <;> cases d <;> cases e <;> rfl
theorem top_upd (d : Dg) (f : TrV → TrV) (t : TrV) : top (upd d f t) = top t := by
  cases t <;> cases d <;> rfl
theorem child_topP (t : TrV) (x : Option EV) (d : Dg) : child d (topP t x) = child d t := by
  cases t <;> cases d <;> rfl
theorem top_topP (t : TrV) (x : Option EV) : top (topP t x) = x := by
  cases t <;> rfl
theorem getP_nil (t : TrV) : getP [] t = top t := rfl
theorem getP_cons (d : Dg) (p : List Dg) (t : TrV) : getP (d :: p) t = getP p (child d t) := rfl
theorem putP_nil (x : Option EV) (t : TrV) : putP [] x t = topP t x := rfl
theorem putP_cons (d : Dg) (p : List Dg) (x : Option EV) (t : TrV) : putP (d :: p) x t = upd d (putP p x) t := rfl
theorem getP_putP (x : Option EV) : ∀ (p q : List Dg) (t : TrV), getP q (putP p x t) = if q = p then x else getP q t
  | [], [], t => by rw [putP_nil, getP_nil, top_topP, if_pos rfl]
  | [], e :: q, t => by rw [putP_nil, getP_cons, getP_cons, child_topP, if_neg (by simp)]
  | d :: p, [], t => by rw [putP_cons, getP_nil, top_upd, if_neg (by simp), getP_nil]
  | d :: p, e :: q, t => by
    rw [putP_cons, getP_cons, child_upd, getP_cons]
    by_cases h : e = d
    · subst h
      rw [if_pos rfl, getP_putP x p q]
      by_cases h2 : q = p
      · rw [if_pos h2, if_pos (by rw [h2])]
      · rw [if_neg h2, if_neg (by simp [h2])]
    · rw [if_neg h, if_neg (by simp [h])]
theorem getP_lf : ∀ (p : List Dg), getP p (.lf : TrV) = none
  | [] => rfl
  | d :: p => by rw [getP_cons, show child d (.lf : TrV) = .lf by cases d <;> rfl]; exact getP_lf p
theorem get_put (t : TrV) (k : Nat) (x : Option EV) (j : Nat) : (t.put k x).get j = if j = k then x else t.get j := by
  show getP (path j) (putP (path k) x t) = _
  rw [getP_putP]
  by_cases h : j = k
  · rw [if_pos h, if_pos (by rw [h])]
  · rw [if_neg h, if_neg (fun e => h (path_inj e))]; rfl
theorem get_lf (k : Nat) : (.lf : TrV).get k = none := getP_lf _
end TrV
/-- a block: n cells, each as the tree says, else as the row z in the round (open: there may be more behind), n bytes, a map, a walk over a map, over a string -/
inductive EO where
  | c (tr : TrV) (n : Nat) (z : List EV) (elem : TypeId) (isOpen : Bool)
  | y (bs n : Nat) (elem : TypeId) (isOpen : Bool)
  | m (es : List ME) (clock : Nat)
  | it (map : Option Nat) (since : Nat) (seen : List Nat) (stepped : Nat)
  | si (s : ByteArray) (pos : Nat)
inductive TrO where
  | lf
  | nd (v : Option EO) (c0 c1 c2 c3 c4 c5 c6 c7 : TrO) : TrO
namespace TrO
noncomputable def ch0 (t : TrO) : TrO := TrO.rec (motive := fun _ => TrO) .lf (fun _ c0 _ _ _ _ _ _ _ _ _ _ _ _ _ _ _ => c0) t
noncomputable def ch1 (t : TrO) : TrO := TrO.rec (motive := fun _ => TrO) .lf (fun _ _ c1 _ _ _ _ _ _ _ _ _ _ _ _ _ _ => c1) t
noncomputable def ch2 (t : TrO) : TrO := TrO.rec (motive := fun _ => TrO) .lf (fun _ _ _ c2 _ _ _ _ _ _ _ _ _ _ _ _ _ => c2) t
noncomputable def ch3 (t : TrO) : TrO := TrO.rec (motive := fun _ => TrO) .lf (fun _ _ _ _ c3 _ _ _ _ _ _ _ _ _ _ _ _ => c3) t
noncomputable def ch4 (t : TrO) : TrO := TrO.rec (motive := fun _ => TrO) .lf (fun _ _ _ _ _ c4 _ _ _ _ _ _ _ _ _ _ _ => c4) t
noncomputable def ch5 (t : TrO) : TrO := TrO.rec (motive := fun _ => TrO) .lf (fun _ _ _ _ _ _ c5 _ _ _ _ _ _ _ _ _ _ => c5) t
noncomputable def ch6 (t : TrO) : TrO := TrO.rec (motive := fun _ => TrO) .lf (fun _ _ _ _ _ _ _ c6 _ _ _ _ _ _ _ _ _ => c6) t
noncomputable def ch7 (t : TrO) : TrO := TrO.rec (motive := fun _ => TrO) .lf (fun _ _ _ _ _ _ _ _ c7 _ _ _ _ _ _ _ _ => c7) t
noncomputable def child (d : Dg) : TrO → TrO := Dg.rec (motive := fun _ => TrO → TrO) ch0 ch1 ch2 ch3 ch4 ch5 ch6 ch7 d
noncomputable def top (t : TrO) : Option EO := TrO.rec (motive := fun _ => Option EO) none (fun v _ _ _ _ _ _ _ _ _ _ _ _ _ _ _ _ => v) t
noncomputable def getP (p : List Dg) : TrO → Option EO := List.rec (motive := fun _ => TrO → Option EO) (fun t => TrO.rec (motive := fun _ => Option EO) none (fun v _ _ _ _ _ _ _ _ _ _ _ _ _ _ _ _ => v) t) (fun d _ ih t => ih (Dg.rec (motive := fun _ => TrO → TrO) (fun t => TrO.rec (motive := fun _ => TrO) .lf (fun _ c0 _ _ _ _ _ _ _ _ _ _ _ _ _ _ _ => c0) t) (fun t => TrO.rec (motive := fun _ => TrO) .lf (fun _ _ c1 _ _ _ _ _ _ _ _ _ _ _ _ _ _ => c1) t) (fun t => TrO.rec (motive := fun _ => TrO) .lf (fun _ _ _ c2 _ _ _ _ _ _ _ _ _ _ _ _ _ => c2) t) (fun t => TrO.rec (motive := fun _ => TrO) .lf (fun _ _ _ _ c3 _ _ _ _ _ _ _ _ _ _ _ _ => c3) t) (fun t => TrO.rec (motive := fun _ => TrO) .lf (fun _ _ _ _ _ c4 _ _ _ _ _ _ _ _ _ _ _ => c4) t) (fun t => TrO.rec (motive := fun _ => TrO) .lf (fun _ _ _ _ _ _ c5 _ _ _ _ _ _ _ _ _ _ => c5) t) (fun t => TrO.rec (motive := fun _ => TrO) .lf (fun _ _ _ _ _ _ _ c6 _ _ _ _ _ _ _ _ _ => c6) t) (fun t => TrO.rec (motive := fun _ => TrO) .lf (fun _ _ _ _ _ _ _ _ c7 _ _ _ _ _ _ _ _ => c7) t) d t)) p
noncomputable def get (t : TrO) (k : Nat) : Option EO := getP (path k) t
noncomputable def up0 (f : TrO → TrO) (t : TrO) : TrO := TrO.rec (motive := fun _ => (TrO → TrO) → TrO) (fun f => .nd none (f .lf) .lf .lf .lf .lf .lf .lf .lf) (fun v c0 c1 c2 c3 c4 c5 c6 c7 _ _ _ _ _ _ _ _ f => .nd v (f c0) c1 c2 c3 c4 c5 c6 c7) t f
noncomputable def up1 (f : TrO → TrO) (t : TrO) : TrO := TrO.rec (motive := fun _ => (TrO → TrO) → TrO) (fun f => .nd none .lf (f .lf) .lf .lf .lf .lf .lf .lf) (fun v c0 c1 c2 c3 c4 c5 c6 c7 _ _ _ _ _ _ _ _ f => .nd v c0 (f c1) c2 c3 c4 c5 c6 c7) t f
noncomputable def up2 (f : TrO → TrO) (t : TrO) : TrO := TrO.rec (motive := fun _ => (TrO → TrO) → TrO) (fun f => .nd none .lf .lf (f .lf) .lf .lf .lf .lf .lf) (fun v c0 c1 c2 c3 c4 c5 c6 c7 _ _ _ _ _ _ _ _ f => .nd v c0 c1 (f c2) c3 c4 c5 c6 c7) t f
noncomputable def up3 (f : TrO → TrO) (t : TrO) : TrO := TrO.rec (motive := fun _ => (TrO → TrO) → TrO) (fun f => .nd none .lf .lf .lf (f .lf) .lf .lf .lf .lf) (fun v c0 c1 c2 c3 c4 c5 c6 c7 _ _ _ _ _ _ _ _ f => .nd v c0 c1 c2 (f c3) c4 c5 c6 c7) t f
noncomputable def up4 (f : TrO → TrO) (t : TrO) : TrO := TrO.rec (motive := fun _ => (TrO → TrO) → TrO) (fun f => .nd none .lf .lf .lf .lf (f .lf) .lf .lf .lf) (fun v c0 c1 c2 c3 c4 c5 c6 c7 _ _ _ _ _ _ _ _ f => .nd v c0 c1 c2 c3 (f c4) c5 c6 c7) t f
noncomputable def up5 (f : TrO → TrO) (t : TrO) : TrO := TrO.rec (motive := fun _ => (TrO → TrO) → TrO) (fun f => .nd none .lf .lf .lf .lf .lf (f .lf) .lf .lf) (fun v c0 c1 c2 c3 c4 c5 c6 c7 _ _ _ _ _ _ _ _ f => .nd v c0 c1 c2 c3 c4 (f c5) c6 c7) t f
noncomputable def up6 (f : TrO → TrO) (t : TrO) : TrO := TrO.rec (motive := fun _ => (TrO → TrO) → TrO) (fun f => .nd none .lf .lf .lf .lf .lf .lf (f .lf) .lf) (fun v c0 c1 c2 c3 c4 c5 c6 c7 _ _ _ _ _ _ _ _ f => .nd v c0 c1 c2 c3 c4 c5 (f c6) c7) t f
noncomputable def up7 (f : TrO → TrO) (t : TrO) : TrO := TrO.rec (motive := fun _ => (TrO → TrO) → TrO) (fun f => .nd none .lf .lf .lf .lf .lf .lf .lf (f .lf)) (fun v c0 c1 c2 c3 c4 c5 c6 c7 _ _ _ _ _ _ _ _ f => .nd v c0 c1 c2 c3 c4 c5 c6 (f c7)) t f
noncomputable def upd (d : Dg) : (TrO → TrO) → TrO → TrO := Dg.rec (motive := fun _ => (TrO → TrO) → TrO → TrO) up0 up1 up2 up3 up4 up5 up6 up7 d
noncomputable def topP (t : TrO) (x : Option EO) : TrO := TrO.rec (motive := fun _ => Option EO → TrO) (fun x => .nd x .lf .lf .lf .lf .lf .lf .lf .lf) (fun _ c0 c1 c2 c3 c4 c5 c6 c7 _ _ _ _ _ _ _ _ x => .nd x c0 c1 c2 c3 c4 c5 c6 c7) t x
noncomputable def putP (p : List Dg) : Option EO → TrO → TrO := List.rec (motive := fun _ => Option EO → TrO → TrO) (fun x t => TrO.rec (motive := fun _ => Option EO → TrO) (fun x => .nd x .lf .lf .lf .lf .lf .lf .lf .lf) (fun _ c0 c1 c2 c3 c4 c5 c6 c7 _ _ _ _ _ _ _ _ x => .nd x c0 c1 c2 c3 c4 c5 c6 c7) t x) (fun d _ ih x t => Dg.rec (motive := fun _ => (TrO → TrO) → TrO → TrO) (fun f t => TrO.rec (motive := fun _ => (TrO → TrO) → TrO) (fun f => .nd none (f .lf) .lf .lf .lf .lf .lf .lf .lf) (fun v c0 c1 c2 c3 c4 c5 c6 c7 _ _ _ _ _ _ _ _ f => .nd v (f c0) c1 c2 c3 c4 c5 c6 c7) t f) (fun f t => TrO.rec (motive := fun _ => (TrO → TrO) → TrO) (fun f => .nd none .lf (f .lf) .lf .lf .lf .lf .lf .lf) (fun v c0 c1 c2 c3 c4 c5 c6 c7 _ _ _ _ _ _ _ _ f => .nd v c0 (f c1) c2 c3 c4 c5 c6 c7) t f) (fun f t => TrO.rec (motive := fun _ => (TrO → TrO) → TrO) (fun f => .nd none .lf .lf (f .lf) .lf .lf .lf .lf .lf) (fun v c0 c1 c2 c3 c4 c5 c6 c7 _ _ _ _ _ _ _ _ f => .nd v c0 c1 (f c2) c3 c4 c5 c6 c7) t f) (fun f t => TrO.rec (motive := fun _ => (TrO → TrO) → TrO) (fun f => .nd none .lf .lf .lf (f .lf) .lf .lf .lf .lf) (fun v c0 c1 c2 c3 c4 c5 c6 c7 _ _ _ _ _ _ _ _ f => .nd v c0 c1 c2 (f c3) c4 c5 c6 c7) t f) (fun f t => TrO.rec (motive := fun _ => (TrO → TrO) → TrO) (fun f => .nd none .lf .lf .lf .lf (f .lf) .lf .lf .lf) (fun v c0 c1 c2 c3 c4 c5 c6 c7 _ _ _ _ _ _ _ _ f => .nd v c0 c1 c2 c3 (f c4) c5 c6 c7) t f) (fun f t => TrO.rec (motive := fun _ => (TrO → TrO) → TrO) (fun f => .nd none .lf .lf .lf .lf .lf (f .lf) .lf .lf) (fun v c0 c1 c2 c3 c4 c5 c6 c7 _ _ _ _ _ _ _ _ f => .nd v c0 c1 c2 c3 c4 (f c5) c6 c7) t f) (fun f t => TrO.rec (motive := fun _ => (TrO → TrO) → TrO) (fun f => .nd none .lf .lf .lf .lf .lf .lf (f .lf) .lf) (fun v c0 c1 c2 c3 c4 c5 c6 c7 _ _ _ _ _ _ _ _ f => .nd v c0 c1 c2 c3 c4 c5 (f c6) c7) t f) (fun f t => TrO.rec (motive := fun _ => (TrO → TrO) → TrO) (fun f => .nd none .lf .lf .lf .lf .lf .lf .lf (f .lf)) (fun v c0 c1 c2 c3 c4 c5 c6 c7 _ _ _ _ _ _ _ _ f => .nd v c0 c1 c2 c3 c4 c5 c6 (f c7)) t f) d (ih x) t) p
noncomputable def put (t : TrO) (k : Nat) (x : Option EO) : TrO := putP (path k) x t

theorem child_upd (d e : Dg) (f : TrO → TrO) (t : TrO) : child e (upd d f t) = if e = d then f (child e t) else child e t := by
  cases t <;> cases d <;> cases e <;> rfl
theorem top_upd (d : Dg) (f : TrO → TrO) (t : TrO) : top (upd d f t) = top t := by
  cases t <;> cases d <;> rfl
theorem child_topP (t : TrO) (x : Option EO) (d : Dg) : child d (topP t x) = child d t := by
  cases t <;> cases d <;> rfl
theorem top_topP (t : TrO) (x : Option EO) : top (topP t x) = x := by
  cases t <;> rfl
theorem getP_nil (t : TrO) : getP [] t = top t := rfl
theorem getP_cons (d : Dg) (p : List Dg) (t : TrO) : getP (d :: p) t = getP p (child d t) := rfl
theorem putP_nil (x : Option EO) (t : TrO) : putP [] x t = topP t x := rfl
theorem putP_cons (d : Dg) (p : List Dg) (x : Option EO) (t : TrO) : putP (d :: p) x t = upd d (putP p x) t := rfl
theorem getP_putP (x : Option EO) : ∀ (p q : List Dg) (t : TrO), getP q (putP p x t) = if q = p then x else getP q t
  | [], [], t => by rw [putP_nil, getP_nil, top_topP, if_pos rfl]
  | [], e :: q, t => by rw [putP_nil, getP_cons, getP_cons, child_topP, if_neg (by simp)]
  | d :: p, [], t => by rw [putP_cons, getP_nil, top_upd, if_neg (by simp), getP_nil]
  | d :: p, e :: q, t => by
    rw [putP_cons, getP_cons, child_upd, getP_cons]
    by_cases h : e = d
    · subst h
      rw [if_pos rfl, getP_putP x p q]
      by_cases h2 : q = p
      · rw [if_pos h2, if_pos (by rw [h2])]
      · rw [if_neg h2, if_neg (by simp [h2])]
    · rw [if_neg h, if_neg (by simp [h])]
theorem getP_lf : ∀ (p : List Dg), getP p (.lf : TrO) = none
  | [] => rfl
  | d :: p => by rw [getP_cons, show child d (.lf : TrO) = .lf by cases d <;> rfl]; exact getP_lf p
theorem get_put (t : TrO) (k : Nat) (x : Option EO) (j : Nat) : (t.put k x).get j = if j = k then x else t.get j := by
  show getP (path j) (putP (path k) x t) = _
  rw [getP_putP]
  by_cases h : j = k
  · rw [if_pos h, if_pos (by rw [h])]
  · rw [if_neg h, if_neg (fun e => h (path_inj e))]; rfl
theorem get_lf (k : Nat) : (.lf : TrO).get k = none := getP_lf _
end TrO
end Ev
end Go.Proofs.YtkfhapidoolfdaaGreatDoor

namespace Go.Proofs.YtkfhapidoolfdaaGreatDoor
open Go
namespace Ev
noncomputable section

structure St where
  h : TrO
  nx : Nat
  W : List Nat
structure Fr where
  tm : TrV
  ds : List (FuncId × List EV)
inductive R (α : Type) where
  | ok (x : α) (σ : St)
  | err (l : List Nat)
inductive OpR where
  | v (x : EV)
  | call (f : FuncId) (args : List EV)
  | dfr (f : FuncId) (args : List EV)
inductive X where
  | nrm | ex (id : Nat) | gt (l : Nat) | rt
def ofConst : Value → EV
  | .agg cs => .a (cs.toList.map EV.s)
  | v => .s v
/-! ### lists, by their recursor: for the kernel -/
section
variable {α : Type}
def appL (a b : List α) : List α := List.rec (motive := fun _ => List α → List α) (fun b => b) (fun c _ ih b => c :: ih b) a b
def lenL (l : List α) : Nat := List.rec (motive := fun _ => Nat) 0 (fun _ _ n => Nat.succ n) l
def tl (l : List α) : List α := List.rec (motive := fun _ => List α) [] (fun _ r _ => r) l
def hdO (l : List α) : Option α := List.rec (motive := fun _ => Option α) none (fun c _ _ => some c) l
def nthL (l : List α) (n : Nat) : Option α := Nat.rec (motive := fun _ => List α → Option α) hdO (fun _ ih l => ih (tl l)) n l
def consO (c : α) (o : Option (List α)) : Option (List α) := Option.rec (motive := fun _ => α → Option (List α)) (fun _ => none) (fun r c => some (c :: r)) o c
theorem appL_eq (a b : List α) : appL a b = a ++ b := by
  induction a with
  | nil => rfl
  | cons c a ih => show c :: appL a b = _; rw [ih]; rfl
theorem lenL_eq (l : List α) : lenL l = l.length := by
  induction l with
  | nil => rfl
  | cons c a ih => show Nat.succ (lenL a) = _; rw [ih]; rfl
theorem tl_eq (l : List α) : tl l = l.drop 1 := by cases l <;> rfl
theorem nthL_eq : ∀ (l : List α) (n : Nat), nthL l n = l[n]?
  | [], 0 => rfl
  | _ :: _, 0 => rfl
  | l, n + 1 => by
    show nthL (tl l) n = _
    rw [nthL_eq (tl l) n, tl_eq, List.getElem?_drop, Nat.add_comm]
end
/-! ### bytes as a number -/
def segB (bs o n : Nat) : Nat := Nat.mod (Nat.shiftRight bs (Nat.mul 8 o)) (Nat.pow 2 (Nat.mul 8 n))
def splB (bs o n v : Nat) : Nat := Nat.add (Nat.mul (Nat.pow 2 (Nat.mul 8 o)) (Nat.add (Nat.mul (Nat.pow 2 (Nat.mul 8 n)) (Nat.shiftRight bs (Nat.mul 8 (Nat.add o n)))) (Nat.mod v (Nat.pow 2 (Nat.mul 8 n))))) (Nat.mod bs (Nat.pow 2 (Nat.mul 8 o)))
def byteEV (bs i : Nat) : EV := .s (.int .u8 (.ofNat (segB bs i 1)))
def unB (bs i n : Nat) : List EV := Nat.rec (motive := fun _ => Nat → Nat → List EV) (fun _ _ => []) (fun _ ih bs i => byteEV bs i :: ih bs (Nat.succ i)) n bs i
def byteN : EV → Option Nat
  | .s (.int .u8 (.ofNat k)) => match Nat.ble k 255 with
    | true => some k
    | false => none
  | _ => none
def packC (ih : Nat → Nat → Option Nat) (i acc : Nat) (o : Option Nat) : Option Nat := Option.rec (motive := fun _ => (Nat → Nat → Option Nat) → Nat → Nat → Option Nat) (fun _ _ _ => none) (fun k ih i acc => ih (Nat.succ i) (Nat.add acc (Nat.shiftLeft k (Nat.mul 8 i)))) o ih i acc
def packB (i acc : Nat) (l : List EV) : Option Nat := List.rec (motive := fun _ => Nat → Nat → Option Nat) (fun _ acc => some acc) (fun c _ ih i acc => packC ih i acc (byteN c)) l i acc
def Row.len : Row → Nat
  | .l cs => lenL cs
  | .y _ n => n
def Row.list : Row → List EV
  | .l cs => cs
  | .y bs n => unB bs 0 n
def rowV : Value → Row
  | .agg cs => .l (cs.toList.map EV.s)
  | v => .l [.s v]
def rowOf : EV → Row
  | .a cs => .l cs
  | .by_ bs n => .y bs n
  | .s v => rowV v
  | v => .l [v]
/-- a value of one cell -/
def oneV : Value → Bool
  | .agg _ => false
  | .tuple _ => false
  | _ => true
def oneE : EV → Bool
  | .s v => oneV v
  | .a _ => false
  | .by_ _ _ => false
  | .t _ => false
  | _ => true
def oneL (l : List EV) : Bool := List.rec (motive := fun _ => Bool) true (fun c _ ih => Bool.rec (motive := fun _ => Bool) false ih (oneE c)) l
def oneR : Row → Bool
  | .l cs => oneL cs
  | .y _ _ => true
def aggR : Row → EV
  | .l cs => .a cs
  | .y bs n => .by_ bs n
def cellsE (v : EV) : List EV := (rowOf v).list
/-- vs laid over cs from n on -/
def overN (n : Nat) (vs : List EV) : Option (List EV) := match n, vs with
  | 0, [] => some []
  | _, _ => none
def over0 (c : EV) (cs : List EV) (ih : Nat → List EV → Option (List EV)) (vs : List EV) : Option (List EV) := List.rec (motive := fun _ => EV → List EV → (Nat → List EV → Option (List EV)) → Option (List EV)) (fun c cs _ => some (c :: cs)) (fun v vs _ _ _ ih => consO v (ih 0 vs)) vs c cs ih
def overS (c : EV) (cs : List EV) (ih : Nat → List EV → Option (List EV)) (n : Nat) (vs : List EV) : Option (List EV) := Nat.rec (motive := fun _ => EV → List EV → (Nat → List EV → Option (List EV)) → List EV → Option (List EV)) over0 (fun n _ c _ ih vs => consO c (ih n vs)) n c cs ih vs
def over (cs : List EV) (n : Nat) (vs : List EV) : Option (List EV) := List.rec (motive := fun _ => Nat → List EV → Option (List EV)) overN (fun c cs ih n vs => overS c cs ih n vs) cs n vs
def takeE (l : List EV) (n : Nat) : Option (List EV) := Nat.rec (motive := fun _ => List EV → Option (List EV)) (fun _ => some []) (fun _ ih l => List.rec (motive := fun _ => (List EV → Option (List EV)) → Option (List EV)) (fun _ => none) (fun c cs _ ih => consO c (ih cs)) l ih) n l
def dropE (l : List EV) (n : Nat) : List EV := Nat.rec (motive := fun _ => List EV → List EV) (fun l => l) (fun _ ih l => ih (tl l)) n l
def repl (z : List EV) (n : Nat) : List EV := Nat.rec (motive := fun _ => List EV) [] (fun _ ih => appL z ih) n
def isS : EV → Option Value
  | .s v => some v
  | _ => none
def natE : EV → Option Nat
  | .s (.int _ (.ofNat n)) => some n
  | _ => none
def nilish : Value → Bool
  | .pointer none => true
  | .nilFunc => true
  | .nilIface => true
  | .map none => true
  | .slice none _ _ => true
  | _ => false

/-! ### tables, in steps of sixteen: what is reckoned once stays -/
section
variable {α : Type}
def drop16 (l : List α) : List α := tl (tl (tl (tl (tl (tl (tl (tl (tl (tl (tl (tl (tl (tl (tl (tl l)))))))))))))))
noncomputable def dropC (l : List α) (n : Nat) : List α := Nat.rec l (fun _ ih => drop16 ih) n
noncomputable def atE (a : Array α) (i : Nat) : Option α := nthL (dropC a.toList (Nat.div i 16)) (Nat.mod i 16)
theorem dropC_eq (l : List α) : ∀ n, dropC l n = l.drop (16 * n)
  | 0 => rfl
  | n + 1 => by
    show drop16 (dropC l n) = _
    rw [dropC_eq l n, drop16]
    simp only [tl_eq, List.drop_drop]
    rfl
theorem atE_eq (a : Array α) (i : Nat) : atE a i = a[i]? := by
  rw [atE, nthL_eq, dropC_eq, List.getElem?_drop, ← Array.getElem?_toList]
  congr 1
  exact Nat.div_add_mod i 16
end
noncomputable def infoE (P : Program) (t : TypeId) : Option TypeInfo := atE P.types t
noncomputable def underE (P : Program) (t : TypeId) : Option TypeDesc := match infoE P t with
  | some i => match i.desc with
    | .named _ u => match infoE P u with | some j => some j.desc | none => none
    | d => some d
  | none => none
section
variable (P : Program)
def ev (tm : TrV) (x : Operand) : EV := Operand.rec (motive := fun _ => TrV → EV)
  (fun t tm => Option.rec (motive := fun _ => EV) (.s undef) (fun v => v) (tm.get t))
  (fun v _ => ofConst v)
  (fun g _ => .s (.pointer (some ⟨g, 0, none⟩)))
  (fun f _ => .f (.func f) [] []) x tm
def aggB (t : TypeId) : Option Bool := match underE P t with
  | some (.struct _) => some true
  | some (.array _ _) => some true
  | some _ => some false
  | none => none
def szE (t : TypeId) : Option Nat := match infoE P t with | some i => some i.size | none => none
def zeroE (t : TypeId) : Option EV := match infoE P t with
  | some i => match i.zero with | some v => some (ofConst v) | none => none
  | none => none

/-! ### memory -/
def nth (l : List EV) (n : Nat) : EV := Option.rec (motive := fun _ => EV) (.s undef) (fun v => v) (nthL l n)
noncomputable def cellAt (tr : TrV) (z : List EV) (i : Nat) : EV := match tr.get i with
  | some v => v
  | none => nth z (Nat.mod i (lenL z))
def cellsAt (tr : TrV) (z : List EV) (i n : Nat) : List EV := Nat.rec (motive := fun _ => TrV → List EV → Nat → List EV) (fun _ _ _ => []) (fun _ ih tr z i => cellAt tr z i :: ih tr z (Nat.succ i)) n tr z i
def putAt (t : TrV) (i : Nat) (l : List EV) : TrV := List.rec (motive := fun _ => TrV → Nat → TrV) (fun t _ => t) (fun v _ ih t i => ih (t.put i (some v)) (Nat.succ i)) l t i
/-- cells o .. o + n of a block -/
noncomputable def loadB (o n : Nat) : Option EO → Option Row
  | some (.c tr m z _ _) => match Nat.ble (Nat.add o n) m with
    | true => some (.l (cellsAt tr z o n))
    | false => none
  | some (.y bs m _ _) => match Nat.ble (Nat.add o n) m with
    | true => some (.y (segB bs o n) n)
    | false => none
  | _ => none
noncomputable def loadN (σ : St) (b o n : Nat) : Option Row := loadB o n (σ.h.get b)
noncomputable def St.set (σ : St) (b : Nat) (o : EO) : St := { h := σ.h.put b (some o), nx := σ.nx, W := b :: σ.W }
noncomputable def St.new (σ : St) (o : EO) : St := { h := σ.h.put σ.nx (some o), nx := Nat.succ σ.nx, W := σ.W }
/-- a row as a block -/
def rowE (elem : TypeId) (op : Bool) : Row → EO
  | .l cs => .c .lf (lenL cs) cs elem op
  | .y bs n => .y bs n elem op
/-- vs stored at o into a block of m cells -/
noncomputable def laidC (tr : TrV) (m : Nat) (z : List EV) (el : TypeId) (op : Bool) (o : Nat) (vs : List EV) : EO :=
  match Nat.beq o 0 && Nat.beq (lenL vs) m with
  | true => .c .lf m vs el op
  | false => .c (putAt tr o vs) m z el op
def laidY (bs m : Nat) (el : TypeId) (op : Bool) (o : Nat) : Row → Option EO
  | .y v n => some (.y (splB bs o n v) m el op)
  | .l cs => match packB 0 0 cs with
    | some v => some (.y (splB bs o (lenL cs) v) m el op)
    | none => none
noncomputable def storeB (o : Nat) (r : Row) : Option EO → Option EO
  | some (.c tr m z el op) => match Nat.ble (Nat.add o r.len) m with
    | true => some (laidC tr m z el op o r.list)
    | false => none
  | some (.y bs m el op) => match Nat.ble (Nat.add o r.len) m with
    | true => laidY bs m el op o r
    | false => none
  | _ => none
noncomputable def setO (σ : St) (b : Nat) : Option EO → Option St
  | some x => some (σ.set b x)
  | none => none
noncomputable def storeN (σ : St) (b o : Nat) (r : Row) : Option St :=
  match r.len with
  | 0 => some σ
  | _ => setO σ b (storeB o r (σ.h.get b))
/-- the same, where each cell is to be looked at -/
noncomputable def storeO (σ : St) (b o : Nat) (r : Row) : Option St := match oneR r with
  | true => storeN σ b o r
  | false => none
/-- what a type's variable holds at an address -/
def aggO : Option Row → Option EV
  | some r => some (aggR r)
  | none => none
def oneO : Option Row → Option EV
  | some (.l [c]) => some c
  | some (.y bs 1) => some (byteEV bs 0)
  | _ => none
noncomputable def loadT (σ : St) (t : TypeId) (b o : Nat) : Option EV :=
  match aggB P t, szE P t with
  | some true, some n => aggO (loadN σ b o n)
  | some false, _ => oneO (loadN σ b o 1)
  | _, _ => none

/-! ### operations on plain values: the model's own -/
def semN {α : Type} (n : Nat) (s : Sem α) : Option α := match n, s with
  | _, .pure a => some a
  | n + 1, .program k => semN n (k P)
  | n + 1, .mark _ k => semN n k
  | _, _ => none
/-- a value in which no block is named, as the model has it -/
def keyV : EV → Option Value
  | .s v => some v
  | .a cs => match cs.mapM isS with | some l => some (.agg l.toArray) | none => none
  | .by_ bs n => match (unB bs 0 n).mapM isS with | some l => some (.agg l.toArray) | none => none
  | _ => none
noncomputable def sval (tm : TrV) : Operand → Option Value
  | .tmp t => match tm.get t with | some v => keyV v | none => none
  | .const v => some v
  | _ => none
noncomputable def sval1 (tm : TrV) (x : Operand) : Value := match sval tm x with | some v => v | none => undef
noncomputable def scalarE (tm : TrV) (o : Oper) : Option EV :=
  match o.op.operands.toList.all (fun x => (sval tm x).isSome) with
  | true => match semN P 99999 (execOp (sval1 tm) o) with
    | some (.value v) => some (ofConst v)
    | _ => none
  | false => none
def beqV : Value → Value → Bool
  | .bool a, .bool b => a == b
  | .int j a, .int k b => j == k && a == b
  | .string a, .string b => a.toList == b.toList
  | _, _ => false
def valsE : List ME → Option (List Go.MapEntry)
  | [] => some []
  | e :: r => match keyV e.key, valsE r with | some k, some l => some (⟨k, undef, e.born⟩ :: l) | _, _ => none
def findE (kt : TypeId) (k : EV) (es : List ME) : Option (Option Nat) :=
  match keyV k, valsE es with
  | some kv, some l => match semN P 99999 (Instr.findKey kt kv l) with
    | some r => some (r.map (·.1))
    | none => none
  | _, _ => none
/-- a key that may be looked for -/
def keyOk (kt : TypeId) (k : EV) (empty : Bool) : Bool :=
  match keyV k with
  | some kv => (semN P 99999 (Instr.checkKey empty 10000 kt kv)).isSome
  | none => false

/-! ### parts -/
def partE (t : TypeId) (cs : List EV) (off : Nat) : Option EV :=
  match aggB P t, szE P t with
  | some true, some n => match takeE (dropE cs off) n with | some l => some (.a l) | none => none
  | some false, _ => match dropE cs off with | c :: _ => some c | [] => none
  | _, _ => none
def fillE (place : Nat → Option (Nat × Nat)) (cells : List EV) : List (Nat × EV) → Option (List EV)
  | [] => some cells
  | (i, v) :: rest => match place i with
    | none => none
    | some (off, size) => match Nat.beq (lenL (cellsE v)) size with
      | false => none
      | true => match over cells off (cellsE v) with
        | some cs => fillE place cs rest
        | none => none

/-! ### slices -/
/-- the cells of what is appended or copied: how many elements, which cells -/
def srcO (n : Nat) : Option Row → Option (Nat × Row)
  | some r => some (n, r)
  | none => none
def strB8 (_ : ByteArray) (i : Nat) (l : List UInt8) : Nat := List.rec (motive := fun _ => Nat → Nat) (fun _ => 0) (fun b _ ih i => Nat.add (Nat.shiftLeft b.toNat (Nat.mul 8 i)) (ih (Nat.succ i))) l i
noncomputable def srcE (σ : St) (size : Nat) : EV → Option (Nat × Row)
  | .sl b o n _ _ => srcO n (loadN σ b o (n * size))
  | .s (.slice none n _) => match n with | 0 => some (0, .l []) | _ => none
  | .zl => some (0, .l [])
  | .s (.string t) => match size with
    | 1 => some (t.size, .y (strB8 t 0 t.data.toList) t.size)
    | _ => none
  | _ => none
end
end
end Ev
end Go.Proofs.YtkfhapidoolfdaaGreatDoor

namespace Go.Proofs.YtkfhapidoolfdaaGreatDoor
open Go
namespace Ev
noncomputable section
section
variable (P : Program)

/-! ### whole numbers, fast -/
def inI64 : Int → Bool
  | .ofNat n => Nat.ble n 9223372036854775807
  | .negSucc n => Nat.ble n 9223372036854775807
def ltI : Int → Int → Bool
  | .ofNat m, .ofNat n => Nat.ble (m + 1) n
  | .ofNat _, .negSucc _ => false
  | .negSucc _, .ofNat _ => true
  | .negSucc m, .negSucc n => Nat.ble (n + 1) m
def eqI : Int → Int → Bool
  | .ofNat m, .ofNat n => Nat.beq m n
  | .negSucc m, .negSucc n => Nat.beq m n
  | _, _ => false
def sumI (x : Int) : Option Value := match inI64 x with | true => some (.int .i64 x) | false => none
def fastBin (op : BinOp) : Value → Value → Option Value
  | .int .i64 a, .int .i64 b => match op with
    | .add => sumI (Int.add a b)
    | .sub => sumI (Int.sub a b)
    | .eql => some (.bool (eqI a b))
    | .neq => some (.bool (!eqI a b))
    | .lss => some (.bool (ltI a b))
    | .leq => some (.bool (!ltI b a))
    | .gtr => some (.bool (ltI b a))
    | .geq => some (.bool (!ltI a b))
    | _ => none
  | _, _ => none

/-! ### slices -/
/-- the first m cells of a block, r behind them -/
noncomputable def onto (elem : TypeId) (m : Nat) (r : Row) : Option EO → Option EO
  | some (.c tr k z el _) => match Nat.ble m k && Nat.beq el elem with
    | true => some (.c (putAt tr m r.list) (m + r.len) z elem true)
    | false => none
  | some (.y bs k el _) => match Nat.ble m k && Nat.beq el elem with
    | true => laidY (segB bs 0 m) (m + r.len) elem true m r
    | false => none
  | _ => none
def cat : Row → Row → Row
  | .l a, r => .l (appL a r.list)
  | .y bs n, .y v k => .y (splB bs n k v) (n + k)
  | .y bs n, .l cs => .l (appL (unB bs 0 n) cs)
noncomputable def newSl (σ : St) (n : Nat) : Option EO → Option (EV × St)
  | some x => some (.sl σ.nx 0 n none 0, σ.new x)
  | none => none
noncomputable def movedSl (σ : St) (b n : Nat) : Option EO → Option (EV × St)
  | some x => some (.sl σ.nx 0 n none 0, { h := (σ.h.put b none).put σ.nx (some x), nx := Nat.succ σ.nx, W := b :: σ.W })
  | none => none
def catO (elem : TypeId) (r : Row) : Option Row → Option EO
  | some old => some (rowE elem true (cat old r))
  | none => none
/-- an element's size, its bytes, its zero: all that a growing row wants -/
def growable (elem : TypeId) (size need : Nat) : Bool :=
  match infoE P elem with
  | some i => match i.zero with
    | some v => Nat.beq v.cells.size size && Nat.ble i.bytes 1000000 && Nat.ble need 1000000
    | none => false
  | none => false
def sameSl (b o len : Nat) (cap : Option Nat) (k : Nat) : Option St → Option (EV × St)
  | some σ => some (.sl b o len cap k, σ)
  | none => none
noncomputable def appendNil (elem size n : Nat) (r : Row) (σ : St) : Option (EV × St) :=
  match n with
  | 0 => some (.s (.slice none 0 0), σ)
  | _ => match growable P elem size n with
    | true => newSl σ n (some (rowE elem true r))
    | false => none
noncomputable def appendCap (elem size b o len c k n : Nat) (r : Row) (σ : St) : Option (EV × St) :=
  match Nat.ble (len + n) c with
  | true => sameSl b o (len + n) (some c) k (storeO σ b (o + len * size) r)
  | false => match growable P elem size (len + n) with
    | true => match Nat.beq o 0 with
      | true => newSl σ (len + n) (onto elem (len * size) r (σ.h.get b))
      | false => newSl σ (len + n) (catO elem r (loadN σ b o (len * size)))
    | false => none
/-- an open block's elements' type, how many cells are told -/
noncomputable def openN (σ : St) (b : Nat) : Option (TypeId × Nat) := match σ.h.get b with
  | some (.c _ m _ el true) => some (el, m)
  | some (.y _ m el true) => some (el, m)
  | _ => none
noncomputable def appendOpen (elem size b o len k n : Nat) (r : Row) (σ : St) : Option (TypeId × Nat) → Option (EV × St)
  | some (el, m) => match Nat.beq el elem && Nat.beq o (k * size) && Nat.ble 1 size with
    | true => match Nat.ble (o + (len + n) * size) m with
      | true => sameSl b o (len + n) none k (storeO σ b (o + len * size) r)
      | false => match Nat.beq k 0 && growable P elem size (len + n) && oneR r with
        | true => movedSl σ b (len + n) (onto elem (len * size) r (σ.h.get b))
        | false => none
    | false => none
  | none => none
noncomputable def appendTo (elem size : Nat) (s : EV) (σ : St) : Option (Nat × Row) → Option (EV × St)
  | some (n, r) => match s with
    | .s (.slice none 0 0) => appendNil P elem size n r σ
    | .sl b o len (some c) k => appendCap P elem size b o len c k n r σ
    | .sl b o len none k => appendOpen P elem size b o len k n r σ (openN σ b)
    | _ => none
  | none => none
/-- of a slice's type: its elements', and their size -/
def elemSz (t : TypeId) : Option (TypeId × Nat) := match underE P t with
  | some (.slice el) => match szE P el with | some n => some (el, n) | none => none
  | _ => none
noncomputable def appendE (es : Option (TypeId × Nat)) (s x : EV) (σ : St) : Option (EV × St) :=
  match es with
  | some (elem, size) => appendTo P elem size s σ (srcE σ size x)
  | none => none
/-- a bound of a slice -/
def bound (x : Option EV) (d : Nat) : Option Nat := match x with
  | none => some d
  | some v => natE v
/-- so many elements, at least, may be had -/
noncomputable def told (σ : St) (b elem size k : Nat) : Nat := match openN σ b with
  | some (el, m) => match Nat.beq el elem with
    | true => Nat.sub (Nat.div m size) k
    | false => 0
  | none => 0
noncomputable def sliceE (σ : St) (t : TypeId) (x : EV) (lo hi mx : Option EV) : Option EV :=
  match underE P t with
  | some (.slice elem) => match x, szE P elem with
    | .s (.slice none 0 0), some _ => match bound lo 0, bound hi 0, mx with
      | some 0, some 0, none => some x
      | _, _, _ => none
    | .zl, some _ => match bound lo 0, bound hi 0, mx with
      | some 0, some 0, none => some .zl
      | _, _, _ => none
    | .sl b o len cap k, some size => match bound lo 0, bound hi len with
      | some l, some h => match mx with
        | none => match cap with
          | some c => match Nat.ble l h && Nat.ble h c with
            | true => some (.sl b (match Nat.beq c l with | true => o | false => o + l * size) (h - l) (some (c - l)) 0)
            | false => none
          | none => match Nat.ble l h && Nat.ble h (told σ b elem size k), Nat.ble (l + 1) (told σ b elem size k) || Nat.beq l 0 with
            | true, true => some (.sl b (o + l * size) (h - l) none (k + l))
            | true, false => some .zl
            | false, _ => none
        | some mv => match hi, natE mv with
          | some _, some m => match Nat.ble l h && Nat.ble h m && (match cap with | some c => Nat.ble m c | none => Nat.ble m (told σ b elem size k)) with
            | true => some (.sl b (match Nat.beq m l with | true => o | false => o + l * size) (h - l) (some (m - l)) 0)
            | false => none
          | _, _ => none
      | _, _ => none
    | _, _ => none
  | some (.array n elem) => match x, szE P elem, bound lo 0, bound hi n, mx with
    | .p b o, some size, some l, some h, none => match Nat.ble l h && Nat.ble h n with
      | true => some (.sl b (match Nat.beq n l with | true => o | false => o + l * size) (h - l) (some (n - l)) 0)
      | false => none
    | _, _, _, _, _ => none
  | _ => none

/-! ### comparisons with nil -/
def nilEq (x y : EV) : Option Bool :=
  match x, y with
  | .s v, .p _ _ => match v with | .pointer none => some false | _ => none
  | .p _ _, .s v => match v with | .pointer none => some false | _ => none
  | .s v, .sl _ _ _ _ _ => match v with | .slice none _ _ => some false | _ => none
  | .sl _ _ _ _ _, .s v => match v with | .slice none _ _ => some false | _ => none
  | .s v, .m _ => match v with | .map none => some false | _ => none
  | .m _, .s v => match v with | .map none => some false | _ => none
  | .s v, .f _ _ _ => match v with | .nilFunc => some false | _ => none
  | .f _ _ _, .s v => match v with | .nilFunc => some false | _ => none
  | _, _ => none
def eqKind (t : TypeId) (x y : EV) : Bool := match underE P t, x, y with
  | some (.pointer _), .s _, .p _ _ => true
  | some (.pointer _), .p _ _, .s _ => true
  | some (.slice _), .s _, .sl _ _ _ _ _ => true
  | some (.slice _), .sl _ _ _ _ _, .s _ => true
  | some (.map _ _), .s _, .m _ => true
  | some (.map _ _), .m _, .s _ => true
  | some (.func _ _ _), .s _, .f _ _ _ => true
  | some (.func _ _ _), .f _ _ _, .s _ => true
  | _, _, _ => false
def eqE (op : BinOp) (t : TypeId) (x y : EV) : Option EV :=
  match eqKind P t x y, nilEq x y with
  | true, some b => match op with
    | .eql => some (.s (.bool b))
    | .neq => some (.s (.bool !b))
    | _ => none
  | _, _ => none

/-! ### builtins -/
noncomputable def lenE (σ : St) (t : TypeId) (x : EV) : Option EV :=
  match underE P t, x with
  | some .string, .s (.string s) => some (.s (goInt s.size))
  | some (.array n _), _ => some (.s (goInt n))
  | some (.pointer e), _ => match underE P e with | some (.array n _) => some (.s (goInt n)) | _ => none
  | some (.slice _), .sl _ _ n _ _ => some (.s (goInt n))
  | some (.slice _), .s (.slice _ n _) => some (.s (goInt n))
  | some (.slice _), .zl => some (.s (goInt 0))
  | some (.map _ _), .s (.map none) => some (.s (goInt 0))
  | some (.map _ _), .m b => match σ.h.get b with | some (.m es _) => some (.s (goInt es.length)) | _ => none
  | _, _ => none
def capE (t : TypeId) (x : EV) : Option EV :=
  match underE P t, x with
  | some (.slice _), .sl _ _ _ (some c) _ => some (.s (goInt c))
  | some (.slice _), .s (.slice _ _ c) => some (.s (goInt c))
  | _, _ => none
def dstLen : EV → Option Nat
  | .sl _ _ n _ _ => some n
  | .zl => some 0
  | .s (.slice none n _) => some n
  | _ => none
def srcLen : EV → Option Nat
  | .s (.string t) => some t.size
  | v => dstLen v
noncomputable def srcN (σ : St) (size c : Nat) : EV → Option Row
  | .sl b o _ _ _ => loadN σ b o (c * size)
  | .s (.slice none _ _) => some (.l [])
  | .zl => some (.l [])
  | .s (.string t) => some (.y (segB (strB8 t 0 t.data.toList) 0 c) c)
  | _ => none
def copied (c : Nat) : Option St → Option (EV × St)
  | some σ => some (.s (goInt c), σ)
  | none => none
noncomputable def copyTo (c : Nat) (σ : St) (d : EV) : Option Row → Option (EV × St)
  | some r => match d with
    | .sl b o _ _ _ => copied c (storeO σ b o r)
    | .s _ => copied c (some σ)
    | .zl => copied c (some σ)
    | _ => none
  | none => none
noncomputable def copyE (es : Option (TypeId × Nat)) (d s : EV) (σ : St) : Option (EV × St) :=
  match es, dstLen d, srcLen s with
  | some (_, size), some dn, some sn => copyTo (Nat.min sn dn) σ d (srcN σ size (Nat.min sn dn) s)
  | _, _, _ => none
noncomputable def clearE (t : TypeId) (x : EV) (σ : St) : Option (EV × St) :=
  match underE P t, x with
  | some (.slice elem), .sl b o n _ _ => match n with
    | 0 => some (.t [], σ)
    | _ => match zeroE P elem with
      | some z => match storeO σ b o (.l (repl (cellsE z) n)) with | some σ' => some (.t [], σ') | none => none
      | none => none
  | some (.slice _), .s (.slice none _ _) => some (.t [], σ)
  | some (.map _ _), .m b => match σ.h.get b with
    | some (.m _ cl) => some (.t [], σ.set b (.m [] cl))
    | _ => none
  | _, _ => none

/-! ### maps -/
noncomputable def mapE (σ : St) : EV → Option (List ME × Nat)
  | .m b => match σ.h.get b with | some (.m es cl) => some (es, cl) | _ => none
  | .s (.map none) => some ([], 0)
  | _ => none
noncomputable def lookupE (t : TypeId) (m k : EV) (ok : Bool) (σ : St) : Option EV :=
  match underE P t, mapE σ m with
  | some (.map kt elem), some (es, _) => match keyOk P kt k es.isEmpty, findE P kt k es with
    | true, some (some i) => match es[i]? with
      | some e => some (match ok with | true => .t [e.val, .s (.bool true)] | false => e.val)
      | none => none
    | true, some none => match zeroE P elem with
      | some z => some (match ok with | true => .t [z, .s (.bool false)] | false => z)
      | none => none
    | _, _ => none
  | _, _ => none
def stays (old new : EV) : Bool := match keyV old, keyV new with
  | some a, some b => Instr.sameBits 10000 a b
  | _, _ => false
noncomputable def updateE (t : TypeId) (m k x : EV) (σ : St) : Option (EV × St) :=
  match m, underE P t, mapE σ m with
  | .m b, some (.map kt _), some (es, cl) => match keyOk P kt k false, findE P kt k es with
    | true, some (some i) => match es[i]? with
      | some e => match stays e.key k with
        | true => some (.s undef, σ.set b (.m (es.set i ⟨k, x, e.born⟩) cl))
        | false => none
      | none => none
    | true, some none => some (.s undef, σ.set b (.m (es ++ [⟨k, x, cl⟩]) (cl + 1)))
    | _, _ => none
  | _, _, _ => none
noncomputable def entryE (t : TypeId) (m k : EV) (σ : St) : Option (EV × St) :=
  match m, underE P t, mapE σ m with
  | .m b, some (.map kt elem), some (es, cl) => match keyOk P kt k false, findE P kt k es with
    | true, some (some i) => match es[i]? with
      | some e => match stays e.key k with
        | true => some (.t [e.val, .s (goInt e.born)], σ.set b (.m (es.set i ⟨k, e.val, e.born⟩) cl))
        | false => none
      | none => none
    | true, some none => match zeroE P elem with
      | some z => some (.t [z, .s (goInt cl)], σ.set b (.m (es ++ [⟨k, z, cl⟩]) (cl + 1)))
      | none => none
    | _, _ => none
  | _, _, _ => none
noncomputable def entryStoreE (m s x : EV) (σ : St) : Option (EV × St) :=
  match m, s, mapE σ m with
  | .m b, .s (.int _ born), some (es, cl) => match es.findIdx? (fun e => (e.born : Int) == born) with
    | some i => match es[i]? with
      | some e => some (.s undef, σ.set b (.m (es.set i ⟨e.key, x, e.born⟩) cl))
      | none => none
    | none => none
  | _, _, _ => none
noncomputable def deleteE (t : TypeId) (m k : EV) (σ : St) : Option (EV × St) :=
  match underE P t, mapE σ m with
  | some (.map kt _), some (es, cl) => match m, keyOk P kt k es.isEmpty, findE P kt k es with
    | .m b, true, some (some i) => some (.t [], σ.set b (.m (es.eraseIdx i) cl))
    | .m b, true, some none => some (.t [], σ.set b (.m es cl))
    | _, _, _ => none
  | _, _ => none
noncomputable def rangeE (t : TypeId) (x : EV) (σ : St) : Option (EV × St) :=
  match underE P t, x with
  | some .string, .s (.string s) => some (.p σ.nx 0, σ.new (.si s 0))
  | some (.map _ _), .s (.map none) => some (.p σ.nx 0, σ.new (.it none 0 [] 0))
  | some (.map _ _), .m b => match σ.h.get b with
    | some (.m _ cl) => some (.p σ.nx 0, σ.new (.it (some b) cl [] cl))
    | _ => none
  | _, _ => none
noncomputable def nextE (it : EV) (str : Bool) (σ : St) : Option (EV × St) :=
  match it with
  | .p r 0 => match σ.h.get r, str with
    | some (.si s pos), true => match Nat.ble (pos + 1) s.size with
      | true => some (.t [.s (.bool true), .s (goInt pos), .s (.int .i32 (Utf8.decode s pos).1)], σ.set r (.si s (pos + (Utf8.decode s pos).2)))
      | false => some (.t [.s (.bool false)], σ)
    | some (.it none _ _ _), false => some (.t [.s (.bool false)], σ)
    | some (.it (some mb) since seen last), false => match σ.h.get mb with
      | some (.m es cl) => match !seen.isEmpty && !es.isEmpty && es.all (fun e => Nat.ble last e.born) with
        | true => none
        | false => match es.filter fun e => !seen.contains e.born with
          | [] => some (.t [.s (.bool false)], σ)
          | [e] => match Nat.ble (e.born + 1) since with
            | true => some (.t [.s (.bool true), e.key, e.val], σ.set r (.it (some mb) since (seen ++ [e.born]) cl))
            | false => none
          | _ => none
      | _ => none
    | _, _ => none
  | _ => none

noncomputable def entryAtE (it : EV) (σ : St) : Option EV :=
  match it with
  | .p r 0 => match σ.h.get r with
    | some (.it (some mb) _ seen last) => match seen.getLast?, σ.h.get mb with
      | some st, some (.m es cl) => match Nat.beq cl last, es.find? (fun e => Nat.beq e.born st) with
        | true, some e => some (.t [e.key, e.val])
        | _, _ => none
      | _, _ => none
    | _ => none
  | _ => none

/-! ### calls -/
def evs (tm : TrV) (l : List Operand) : List EV := List.rec (motive := fun _ => List EV) [] (fun x _ ih => ev tm x :: ih) l
noncomputable def methodE (σ : St) (t : TypeId) (v : EV) (name : String) : Option (FuncId × EV) :=
  match infoE P t with
  | some i => match i.methods.toList.find? (·.name == name) with
    | some m => match m.path.isEmpty, m.func, underE P t with
      | true, some (f, true), some (.pointer _) => some (f, v)
      | true, some (_, true), _ => none
      | true, some (f, false), some (.pointer el) => match v with
        | .p b o => match loadT P σ el b o with | some x => some (f, x) | none => none
        | _ => none
      | true, some (f, false), some _ => some (f, v)
      | _, _, _ => none
    | none => none
  | none => none
/-- what a function value does with arguments -/
noncomputable def targetE (σ : St) (f : EV) (args : List EV) : Option (FuncId × List EV) :=
  match f with
  | .f (.func g) fs cs => some (g, appL fs (appL args cs))
  | .f (.method name) fs _ => match fs ++ args with
    | .i t v :: rest => match methodE P σ t v name with | some (g, r) => some (g, r :: rest) | none => none
    | _ => none
  | .f (.methodOf t name) fs _ => match fs ++ args with
    | v :: rest => match underE P t with
      | some (.interface _) => match v with
        | .i t v => match methodE P σ t v name with | some (g, r) => some (g, r :: rest) | none => none
        | _ => none
      | some _ => match methodE P σ t v name with | some (g, r) => some (g, r :: rest) | none => none
      | none => none
    | _ => none
  | _ => none
noncomputable def calleeE (σ : St) (tm : TrV) (c : Go.Call) : Option (FuncId × List EV) :=
  match c.callee with
  | .builtin _ => none
  | .value f => targetE P σ (ev tm f) (evs tm c.args.toList)
  | .invoke r name => targetE P σ (.f (.method name) [] []) (ev tm r :: evs tm c.args.toList)

/-! ### operations, one by one -/
abbrev Out := Option (EV × St)
def keep (σ : St) : Option EV → Out
  | some v => some (v, σ)
  | none => none
def pickE (a b : EV) (σ : St) : EV → Out
  | .s (.bool true) => some (a, σ)
  | .s (.bool false) => some (b, σ)
  | _ => none
noncomputable def moveF (x : Operand) (tm : TrV) (σ : St) : Out := some (ev tm x, σ)
noncomputable def pickF (c a b : Operand) (tm : TrV) (σ : St) : Out := pickE (ev tm a) (ev tm b) σ (ev tm c)
/-- are all cells of a type bytes? -/
def byteTy (t : TypeId) : Bool := match infoE P t with
  | some i => match i.zero with
    | some (.int .u8 _) => true
    | some (.agg cs) => !cs.isEmpty && cs.toList.all (fun v => match v with | .int .u8 _ => true | _ => false)
    | _ => false
  | none => false
def packR (r : Row) : Option Nat → Row
  | some v => .y v r.len
  | none => r
/-- a row of a type's variables -/
def rowT (t : TypeId) (r : Row) : Row := match r with
  | .y _ _ => r
  | .l cs => match byteTy P t with
    | true => packR r (packB 0 0 cs)
    | false => r
noncomputable def boxE (t : TypeId) (σ : St) (r : Row) : Out := some (.p σ.nx 0, σ.new (rowE t false r))
/-- a type's zero, reckoned once -/
def zeroR (t : TypeId) : Option Row := match zeroE P t with
  | some z => some (rowT P t (rowOf z))
  | none => none
noncomputable def allocE (t : TypeId) (σ : St) : Option Row → Out
  | some z => boxE t σ z
  | none => none
noncomputable def allocF (t : TypeId) (_ : TrV) (σ : St) : Out := allocE t σ (zeroR P t)
noncomputable def boxF (t : TypeId) (x : Operand) (tm : TrV) (σ : St) : Out := boxE t σ (rowT P t (rowOf (ev tm x)))
def evParts (tm : TrV) (l : List (Nat × Operand)) : List (Nat × EV) := List.rec (motive := fun _ => List (Nat × EV)) [] (fun x _ ih => (x.1, ev tm x.2) :: ih) l
def placeF (fs : Array Field) (i : Nat) : Option (Nat × Nat) := match fs[i]? with
  | some f => match szE P f.type with
    | some n => some (f.offset, n)
    | none => none
  | none => none
def rowPlace (n i : Nat) : Option (Nat × Nat) := some (i * n, n)
def aggOf (σ : St) : Option (List EV) → Out
  | some cs => some (.a cs, σ)
  | none => none
def buildA (z : EV) (parts : List (Nat × EV)) (σ : St) : Option Nat → Out
  | some n => aggOf σ (fillE (rowPlace n) (cellsE z) parts)
  | none => none
def buildE (z : EV) (parts : List (Nat × EV)) (σ : St) : Option TypeDesc → Out
  | some (.struct fs) => aggOf σ (fillE (placeF P fs) (cellsE z) parts)
  | some (.array _ el) => buildA z parts σ (szE P el)
  | _ => none
noncomputable def buildF (t : TypeId) (parts : List (Nat × Operand)) (tm : TrV) (σ : St) : Out := match zeroE P t with
  | some z => buildE P z (evParts tm parts) σ (underE P t)
  | none => none
noncomputable def sliceOf (el : TypeId) (len : Nat) (σ : St) : Option (List EV) → Out
  | some cs => some (.sl σ.nx 0 len (some len) 0, σ.new (rowE el false (rowT P el (.l cs))))
  | none => none
/-- an element's zero cells, where rows of it may be made -/
def zeroRow (el : TypeId) (len : Nat) : Option (List EV × Nat) := match zeroE P el, szE P el with
  | some z, some n => match Nat.beq (lenL (cellsE z)) n && Nat.ble (len * n) 60000 with
    | true => some (cellsE z, n)
    | false => none
  | _, _ => none
noncomputable def buildSliceE (el : TypeId) (len : Nat) (parts : List (Nat × EV)) (σ : St) : Option (List EV × Nat) → Out
  | some (z, n) => sliceOf P el len σ (fillE (rowPlace n) (repl z len) parts)
  | none => none
def elemE : Option TypeDesc → Option TypeId
  | some (.slice el) => some el
  | _ => none
noncomputable def buildSliceF (t : TypeId) (len : Nat) (parts : List (Nat × Operand)) (tm : TrV) (σ : St) : Out := match elemE (underE P t) with
  | some el => buildSliceE P el len (evParts tm parts) σ (zeroRow P el len)
  | none => none
noncomputable def loadE (t : TypeId) (σ : St) : EV → Out
  | .p b o => keep σ (loadT P σ t b o)
  | _ => none
noncomputable def loadF (t : TypeId) (a : Operand) (tm : TrV) (σ : St) : Out := loadE P t σ (ev tm a)
def unit : Option St → Out
  | some σ => some (.s undef, σ)
  | none => none
noncomputable def storeE (r : Row) (n : Option Nat) (σ : St) : EV → Out
  | .p b o => match n with
    | some n => match Nat.beq r.len n, oneR r with
      | true, true => unit (storeN σ b o r)
      | _, _ => none
    | none => none
  | _ => none
noncomputable def storeF (t : TypeId) (a x : Operand) (tm : TrV) (σ : St) : Out := storeE (rowOf (ev tm x)) (szE P t) σ (ev tm a)
def nilE (σ : St) : EV → Out
  | .p b o => some (.p b o, σ)
  | .m b => some (.m b, σ)
  | .f (.func g) fs cs => some (.f (.func g) fs cs, σ)
  | .i t v => some (.i t v, σ)
  | _ => none
noncomputable def nilF (x : Operand) (tm : TrV) (σ : St) : Out := nilE σ (ev tm x)
noncomputable def scalarF (o : Oper) (tm : TrV) (σ : St) : Out := keep σ (scalarE P tm o)
noncomputable def binS (o : Oper) (tm : TrV) (σ : St) : Option Value → Out
  | some r => some (.s r, σ)
  | none => scalarF P o tm σ
noncomputable def binN (o : Oper) (tm : TrV) (σ : St) : Option EV → Out
  | some r => some (r, σ)
  | none => scalarF P o tm σ
noncomputable def binE (op : BinOp) (t : TypeId) (o : Oper) (tm : TrV) (σ : St) (x y : EV) : Out := match isS x, isS y with
  | some u, some v => binS P o tm σ (fastBin op u v)
  | _, _ => binN P o tm σ (eqE P op t x y)
noncomputable def binF (op : BinOp) (t : TypeId) (x y : Operand) (o : Oper) (tm : TrV) (σ : St) : Out := binE P op t o tm σ (ev tm x) (ev tm y)
def byteOf? : EV → Option UInt8
  | .s (.int .u8 (.ofNat k)) => some (UInt8.ofNat k)
  | _ => none
def strOf (σ : St) : Option Row → Out
  | some r => match r.list.mapM byteOf? with
    | some bs => some (.s (.string ⟨bs.toArray⟩), σ)
    | none => none
  | none => none
def bytesToStr (src dst : TypeId) : Bool := match underE P src, underE P dst with
  | some (.slice el), some .string => match underE P el with
    | some (.int .u8) => true
    | _ => false
  | _, _ => false
noncomputable def convE (src dst : TypeId) (o : Oper) (tm : TrV) (σ : St) : EV → Out
  | .s _ => scalarF P o tm σ
  | .sl b off n _ _ => match bytesToStr P src dst with
    | true => strOf σ (loadN σ b off n)
    | false => none
  | _ => none
noncomputable def convF (src dst : TypeId) (x : Operand) (o : Oper) (tm : TrV) (σ : St) : Out := convE P src dst o tm σ (ev tm x)
def arrE (n : Option Nat) (σ : St) : EV → Out
  | .sl b o len _ _ => match n with
    | some n => match Nat.ble n len with
      | true => some (.p b o, σ)
      | false => none
    | none => none
  | _ => none
def arrLen : Option TypeDesc → Option Nat
  | some (.array n _) => some n
  | _ => none
noncomputable def arrF (t : TypeId) (x : Operand) (tm : TrV) (σ : St) : Out := arrE (arrLen (underE P t)) σ (ev tm x)
def ifaceB : Option TypeDesc → Bool
  | some (.interface _) => true
  | some _ => false
  | none => true
noncomputable def mkIfF (t : TypeId) (x : Operand) (tm : TrV) (σ : St) : Out := match ifaceB (underE P t) with
  | true => none
  | false => some (.i t (ev tm x), σ)
noncomputable def mkFnF (fn : Fn) (fs cs : List Operand) (tm : TrV) (σ : St) : Out := some (.f fn (evs tm fs) (evs tm cs), σ)
noncomputable def mkMapF (r : Option Operand) (_ : TrV) (σ : St) : Out := match r with
  | none => some (.m σ.nx, σ.new (.m [] 0))
  | some _ => none
/-- c of an element's zeros in a row, as a block -/
def zeros (el : TypeId) (c n : Nat) : Row → Option EO
  | .l z => some (.c .lf (c * n) z el false)
  | .y bs _ => match Nat.beq bs 0 with
    | true => some (.y 0 (c * n) el false)
    | false => none
def mayMake (el : TypeId) (c : Nat) : Option EO := match zeroR P el, infoE P el with
  | some z, some i => match Nat.beq z.len i.size && Nat.ble c 60000 && Nat.ble i.bytes 1000000 && Nat.ble 1 i.size with
    | true => zeros el c i.size z
    | false => none
  | _, _ => none
noncomputable def mkSlE (l c : Nat) (σ : St) : Option EO → Out
  | some x => match Nat.ble l c with
    | true => some (.sl σ.nx 0 l (some c) 0, σ.new x)
    | false => none
  | none => none
noncomputable def mkSlF (t : TypeId) (l c : Operand) (tm : TrV) (σ : St) : Out := match elemE (underE P t), natE (ev tm l), natE (ev tm c) with
  | some el, some l, some c => mkSlE l c σ (mayMake P el c)
  | _, _, _ => none
def strB : EV → Bool
  | .s (.string _) => true
  | _ => false
noncomputable def evO (tm : TrV) : Option Operand → Option EV
  | some x => some (ev tm x)
  | none => none
noncomputable def sliceF (t : TypeId) (x : Operand) (lo hi mx : Option Operand) (o : Oper) (tm : TrV) (σ : St) : Out := match strB (ev tm x) with
  | true => scalarF P o tm σ
  | false => keep σ (sliceE P σ t (ev tm x) (evO tm lo) (evO tm hi) (evO tm mx))
/-- a field's place, if it has cells -/
def fieldOff (t : TypeId) (k : Nat) : Option Nat := match underE P t with
  | some (.struct fs) => match fs[k]? with
    | some f => match szE P f.type with
      | some (_ + 1) => some f.offset
      | _ => none
    | none => none
  | _ => none
def addE (n : Option Nat) (σ : St) : EV → Out
  | .p b o => match n with
    | some n => some (.p b (Nat.add o n), σ)
    | none => none
  | _ => none
noncomputable def fieldAddrF (t : TypeId) (x : Operand) (k : Nat) (tm : TrV) (σ : St) : Out := addE (fieldOff P t k) σ (ev tm x)
def fieldTy (t : TypeId) (k : Nat) : Option (TypeId × Nat) := match underE P t with
  | some (.struct fs) => match fs[k]? with
    | some f => some (f.type, f.offset)
    | none => none
  | _ => none
def fieldE (f : Option (TypeId × Nat)) (σ : St) : EV → Out
  | .a cs => match f with
    | some (t, o) => keep σ (partE P t cs o)
    | none => none
  | _ => none
noncomputable def fieldF (t : TypeId) (x : Operand) (k : Nat) (tm : TrV) (σ : St) : Out := fieldE P (fieldTy P t k) σ (ev tm x)
/-- of a slice's type: none and its elements' size; of an array's: its length, too -/
def rowTy (t : TypeId) : Option (Option Nat × Nat) := match underE P t with
  | some (.slice el) => match szE P el with | some s => some (none, s) | none => none
  | some (.array n el) => match szE P el with | some s => some (some n, s) | none => none
  | _ => none
def idxAt (b o i n s : Nat) (σ : St) : Out := match Nat.ble (Nat.succ i) n with
  | true => some (.p b (Nat.add o (Nat.mul i s)), σ)
  | false => none
def idxE (r : Option (Option Nat × Nat)) (i : Nat) (σ : St) : EV → Out
  | .sl b o n _ _ => match r with
    | some (none, s) => idxAt b o i n s σ
    | _ => none
  | .p b o => match r with
    | some (some n, s) => idxAt b o i n s σ
    | _ => none
  | _ => none
noncomputable def indexAddrF (t : TypeId) (x ix : Operand) (tm : TrV) (σ : St) : Out := match natE (ev tm ix) with
  | some i => idxE (rowTy P t) i σ (ev tm x)
  | none => none
/-- an array's elements' type, its length, their size -/
def arrTy (t : TypeId) : Option (TypeId × Nat × Nat) := match underE P t with
  | some (.array n el) => match szE P el with | some s => some (el, n, s) | none => none
  | _ => none
def indexE (cs : List EV) (σ : St) : Option (TypeId × Nat × Nat) → Option Nat → Out
  | some (el, n, s), some i => match Nat.ble (Nat.succ i) n with
    | true => keep σ (partE P el cs (i * s))
    | false => none
  | _, _ => none
noncomputable def indexX (t : TypeId) (ix : Operand) (o : Oper) (tm : TrV) (σ : St) : EV → Out
  | .s _ => scalarF P o tm σ
  | .a cs => indexE P cs σ (arrTy P t) (natE (ev tm ix))
  | .by_ bs n => indexE P (unB bs 0 n) σ (arrTy P t) (natE (ev tm ix))
  | _ => none
noncomputable def indexF (t : TypeId) (x ix : Operand) (o : Oper) (tm : TrV) (σ : St) : Out := indexX P t ix o tm σ (ev tm x)
noncomputable def lookupF (t : TypeId) (x ix : Operand) (ok : Bool) (tm : TrV) (σ : St) : Out := keep σ (lookupE P t (ev tm x) (ev tm ix) ok σ)
noncomputable def updateF (t : TypeId) (m k x : Operand) (tm : TrV) (σ : St) : Out := updateE P t (ev tm m) (ev tm k) (ev tm x) σ
noncomputable def entryF (t : TypeId) (m k : Operand) (tm : TrV) (σ : St) : Out := entryE P t (ev tm m) (ev tm k) σ
noncomputable def entryStoreF (m s x : Operand) (tm : TrV) (σ : St) : Out := entryStoreE (ev tm m) (ev tm s) (ev tm x) σ
noncomputable def rangeF (t : TypeId) (x : Operand) (tm : TrV) (σ : St) : Out := rangeE P t (ev tm x) σ
noncomputable def nextF (it : Operand) (str : Bool) (tm : TrV) (σ : St) : Out := nextE (ev tm it) str σ
noncomputable def entryAtF (it : Operand) (tm : TrV) (σ : St) : Out := keep σ (entryAtE (ev tm it) σ)
def assertE (t : TypeId) (ok : Bool) (σ : St) : EV → Out
  | .i u v => match Nat.beq u t with
    | true => some (match ok with | true => .t [v, .s (.bool true)] | false => v, σ)
    | false => none
  | _ => none
noncomputable def assertF (x : Operand) (t : TypeId) (ok : Bool) (tm : TrV) (σ : St) : Out := match ifaceB (underE P t) with
  | true => none
  | false => assertE t ok σ (ev tm x)
def nthO (l : List EV) (n : Nat) : Option EV := nthL l n
def extractE (k : Nat) (σ : St) : EV → Out
  | .t vs => keep σ (nthO vs k)
  | _ => none
noncomputable def extractF (x : Operand) (k : Nat) (tm : TrV) (σ : St) : Out := extractE k σ (ev tm x)
def intB (u : TypeId) : Bool := match underE P u with
  | some (.int _) => true
  | some _ => false
  | none => true
noncomputable def appendF (t : TypeId) (s x : Operand) (tm : TrV) (σ : St) : Out := appendE P (elemSz P t) (ev tm s) (ev tm x) σ
noncomputable def lenF (t : TypeId) (x : Operand) (tm : TrV) (σ : St) : Out := keep σ (lenE P σ t (ev tm x))
noncomputable def capF (t : TypeId) (x : Operand) (tm : TrV) (σ : St) : Out := keep σ (capE P t (ev tm x))
noncomputable def copyF (t : TypeId) (d s : Operand) (tm : TrV) (σ : St) : Out := copyE (elemSz P t) (ev tm d) (ev tm s) σ
noncomputable def clearF (t : TypeId) (x : Operand) (tm : TrV) (σ : St) : Out := clearE P t (ev tm x) σ
noncomputable def deleteF (t : TypeId) (m k : Operand) (tm : TrV) (σ : St) : Out := deleteE P t (ev tm m) (ev tm k) σ
def noneF (_ : TrV) (_ : St) : Out := none

/-- what is to be done for an operation: reckoned once for each -/
inductive Kd where
  | plain (f : TrV → St → Out)
  | mem (f : TrV → St → Out)
  | call (c : Go.Call)
  | dfr (c : Go.Call)
noncomputable def builtinK (b : Builtin) (o : Oper) (args : List Operand) (ts : List TypeId) : Kd :=
  match b, args, ts with
  | .append, [s, x], [t] => .mem (appendF P t s x)
  | .append, [s, x], [t, u] => match intB P u with
    | false => .mem (appendF P t s x)
    | true => .plain noneF
  | .len, [x], t :: _ => .mem (lenF P t x)
  | .cap, [x], t :: _ => .plain (capF P t x)
  | .copy, [d, s], t :: _ => .mem (copyF P t d s)
  | .clear, [x], t :: _ => .mem (clearF P t x)
  | .delete, [m, k], t :: _ => .mem (deleteF P t m k)
  | .min, _, _ => .plain (scalarF P o)
  | .max, _, _ => .plain (scalarF P o)
  | _, _, _ => .plain noneF
noncomputable def callK (o : Oper) (c : Go.Call) : Kd := match c.callee with
  | .builtin b => builtinK P b o c.args.toList c.argTypes.toList
  | .value _ => .call c
  | .invoke _ _ => .call c
noncomputable def kindOf (o : Oper) : Kd :=
  match o.op with
  | .move x => .plain (moveF x)
  | .assign x => .plain (moveF x)
  | .pick c a b => .plain (pickF c a b)
  | .alloc t => .mem (allocF P t)
  | .box t x => .mem (boxF P t x)
  | .build t parts => .plain (buildF P t parts.toList)
  | .buildSlice t len parts => .mem (buildSliceF P t len parts.toList)
  | .load t a => .mem (loadF P t a)
  | .store t a x => .mem (storeF P t a x)
  | .nilCheck x => .plain (nilF x)
  | .binOp op t x y _ => .plain (binF P op t x y o)
  | .unOp .. => .plain (scalarF P o)
  | .convert src dst x => .mem (convF P src dst x o)
  | .sliceToArrayPointer t x => .plain (arrF P t x)
  | .makeInterface t x => .plain (mkIfF P t x)
  | .makeFunc fn fs cs => .plain (mkFnF fn fs.toList cs.toList)
  | .makeMap _ r => .mem (mkMapF r)
  | .makeSlice t l c => .mem (mkSlF P t l c)
  | .slice t x lo hi mx => .mem (sliceF P t x lo hi mx o)
  | .fieldAddr t x k => .plain (fieldAddrF P t x k)
  | .field t x k => .plain (fieldF P t x k)
  | .indexAddr t x ix => .plain (indexAddrF P t x ix)
  | .index t x ix => .plain (indexF P t x ix o)
  | .lookup t x ix ok => .mem (lookupF P t x ix ok)
  | .mapUpdate t m k x => .mem (updateF P t m k x)
  | .insert t m k x => .mem (updateF P t m k x)
  | .mapEntry t m k => .mem (entryF P t m k)
  | .entryStore _ m s x => .mem (entryStoreF m s x)
  | .range t x => .mem (rangeF P t x)
  | .next it str => .mem (nextF it str)
  | .entry it => .mem (entryAtF it)
  | .typeAssert x _ t ok => .plain (assertF P x t ok)
  | .extract x k => .plain (extractF x k)
  | .call c => callK P o c
  | .defer c => .dfr c
  | _ => .plain noneF
end
end
end Ev
end Go.Proofs.YtkfhapidoolfdaaGreatDoor

namespace Go.Proofs.YtkfhapidoolfdaaGreatDoor
open Go
namespace Ev
noncomputable section
section
variable (P : Program)

def guardJ (all : Array Oper) (tm : TrV) : Nat × Bool → Bool
  | (j, want) => match all[j]? with
    | some oj => match oj.dst with
      | some t => match tm.get t with
        | some (.s (.bool b)) => b == want
        | _ => false
      | none => false
    | none => false
def guardE (all : Array Oper) (tm : TrV) (o : Oper) : Bool := Option.rec (motive := fun _ => Array Oper → TrV → Bool) (fun _ _ => true) (fun jw all tm => guardJ all tm jw) o.guard all tm
def putT (fr : Fr) (d : Option Nat) (v : EV) : Fr := Option.rec (motive := fun _ => Fr → EV → Fr) (fun fr _ => fr) (fun t fr v => { tm := fr.tm.put t (some v), ds := fr.ds }) d fr v
noncomputable def resultE (tm : TrV) (σ : St) : ResultVar → Option EV
  | .tmp t => match tm.get t with | some v => some v | none => some (.s undef)
  | .cell a t => match tm.get a with
    | some (.p b o) => loadT P σ t b o
    | _ => none
noncomputable def resultsE (fn : Func) (tm : TrV) (σ : St) : Option EV :=
  match fn.results.toList with
  | [r] => resultE P tm σ r
  | rs => match rs.mapM (resultE P tm σ) with | some l => some (.t l) | none => none
def argsT (t : TrV) (i : Nat) (l : List EV) : TrV := putAt t i l
/-! ### what an operation may touch -/
def idOf : EV → List Nat
  | .p b _ => [b]
  | .sl b _ _ _ _ => [b]
  | .m b => [b]
  | _ => []
noncomputable def idsOf (tm : TrV) (o : Oper) (σ : St) : List Nat :=
  let l := o.op.operands.toList.flatMap fun x => idOf (ev tm x)
  let two : List Nat := match l with
    | r :: _ => match σ.h.get r with | some (.it (some mb) _ _ _) => [r, mb] | _ => [r]
    | [] => []
  match o.op with
  | .next .. => two
  | .entry .. => two
  | _ => l
noncomputable def restrict (h : TrO) : List Nat → TrO
  | [] => .lf
  | k :: r => match h.get k with
    | some o => (restrict h r).put k (some o)
    | none => restrict h r
/-- the places k of l, n of them from k on, as in g -/
noncomputable def copyL (g : TrO) : TrO → List Nat → TrO
  | h, [] => h
  | h, k :: r => copyL g (h.put k (g.get k)) r
def span (k : Nat) : Nat → List Nat
  | 0 => []
  | n + 1 => k :: span (k + 1) n
noncomputable def eraseL : TrO → List Nat → TrO
  | h, [] => h
  | h, k :: r => eraseL (h.put k none) r
/-- operation i (what is ahead of it: m) beside those that were done: number, new blocks from, to, written, touched (none: a call) -/
abbrev Rec := Nat × Nat × Nat × List Nat × Option (List Nat)
def unordered (m : Nat) (rs : List Rec) : List Rec := rs.filter fun r => !m.testBit r.1
def hits (ids : List Nat) (r : Rec) : Bool := ids.any fun k => (Nat.ble r.2.1 k && Nat.ble (k + 1) r.2.2.1) || r.2.2.2.1.contains k
def hitBy (W : List Nat) (r : Rec) : Bool := match W with
  | [] => false
  | _ => match r.2.2.2.2 with
    | none => true
    | some ids => ids.any fun k => W.contains k
def newOf (us : List Rec) : List Nat := us.flatMap fun r => span r.2.1 (r.2.2.1 - r.2.1)

/-! ### calls: 'go f args σ' is a call, one level down -/
abbrev Go1 := FuncId → List EV → St → R EV
noncomputable def endCall (fn : Func) (f : FuncId) (fr : Fr) : R Unit → R EV
  | .ok _ σ => match resultsE P fn fr.tm σ with
    | some v => .ok v σ
    | none => .err [f, 190]
  | .err e => .err (f :: e)
/-- how a statement ends -/
inductive Cd where
  | ok (e : X) (fr : Fr) (σ : St)
  | err (l : List Nat)
noncomputable def libE (f : FuncId) (σ : St) : Option (List Value) → R EV
  | some vs => match semN P 99999 (callFunc f vs.toArray) with
    | some (.value v) => .ok (.s v) σ
    | _ => .err [f, 193]
  | none => .err [f, 195]
/-- what is deferred: a function's value, and its arguments -/
noncomputable def calleeD (tm : TrV) (c : Go.Call) : Option (FuncId × List EV) := match c.callee with
  | .value f => match ev tm f with
    | .f (.func g) fs cs => some (g, appL fs (appL (evs tm c.args.toList) cs))
    | _ => none
  | _ => none
/-! ### operations in the text's order -/
def opNext (o : Oper) (fr : Fr) (k : Fr → St → Cd) (r : Out) : Cd := Option.rec (motive := fun _ => Oper → Fr → (Fr → St → Cd) → Cd)
  (fun o _ _ => .err [200 + o.op.ctorIdx])
  (fun vs o fr k => Prod.rec (motive := fun _ => Oper → Fr → (Fr → St → Cd) → Cd) (fun v σ o fr k => k (putT fr o.dst v) σ) vs o fr k) r o fr k
noncomputable def callNext (o : Oper) (fr : Fr) (k : Fr → St → Cd) : R EV → Cd
  | .ok v σ => k (putT fr o.dst v) σ
  | .err e => .err e
noncomputable def callOp (go : Go1) (o : Oper) (fr : Fr) (k : Fr → St → Cd) (σ : St) : Option (FuncId × List EV) → Cd
  | some (f, args) => callNext o fr k (go f args σ)
  | none => .err [298]
noncomputable def dfrOp (o : Oper) (fr : Fr) (k : Fr → St → Cd) (σ : St) : Option (FuncId × List EV) → Cd
  | some (f, args) => k (putT { tm := fr.tm, ds := (f, args) :: fr.ds } o.dst (.s undef)) σ
  | none => .err [299]
def opK (go : Go1) (o : Oper) (fr : Fr) (k : Fr → St → Cd) (σ : St) (d : Kd) : Cd := Kd.rec (motive := fun _ => Go1 → Oper → Fr → (Fr → St → Cd) → St → Cd)
  (fun f _ o fr k σ => opNext o fr k (f fr.tm σ))
  (fun f _ o fr k σ => opNext o fr k (f fr.tm σ))
  (fun c go o fr k σ => callOp go o fr k σ (calleeE P σ fr.tm c))
  (fun c _ o fr k σ => dfrOp o fr k σ (calleeD fr.tm c)) d go o fr k σ
def opG (go : Go1) (o : Oper) (fr : Fr) (k : Fr → St → Cd) (σ : St) (b : Bool) : Cd := Bool.rec (motive := fun _ => Go1 → Oper → Fr → (Fr → St → Cd) → St → Cd)
  (fun _ o fr k σ => k (putT fr o.dst (.s undef)) σ)
  (fun go o fr k σ => opK P go o fr k σ (kindOf P o)) b go o fr k σ
noncomputable def opsE (go : Go1) (all : Array Oper) (l : List Oper) : Fr → St → Cd :=
  List.rec (motive := fun _ => Fr → St → Cd) (fun fr σ => .ok .nrm fr σ) (fun o _ ih fr σ => opG P go o fr ih σ (guardE all fr.tm o)) l
/-! ### operations whose order is drawn -/
abbrev DrK := List Nat → Nat → List Rec → Fr → St → Cd
noncomputable def drawNext (k : DrK) (bs : List Nat) (i : Nat) (rs : List Rec) (fr : Fr) (o : Oper) (σ σ1 : St) (h : TrO) (ids : Option (List Nat)) (us : List Rec) (v : EV) : Cd :=
  match us.any (hitBy σ1.W) with
  | true => .err [i, 172]
  | false => k bs (i + 1) ((i, σ.nx, σ1.nx, σ1.W, ids) :: rs) (putT fr o.dst v) { h := h, nx := σ1.nx, W := appL σ1.W σ.W }
noncomputable def drawMem (k : DrK) (bs : List Nat) (i : Nat) (rs : List Rec) (fr : Fr) (o : Oper) (σ : St) (ids : List Nat) (us : List Rec) : Out → Cd
  | some (v, σ1) => drawNext k bs i rs fr o σ σ1 (copyL σ1.h σ.h (σ1.W ++ span σ.nx (σ1.nx - σ.nx))) (some ids) us v
  | none => .err [i, 200 + o.op.ctorIdx]
noncomputable def drawPure (k : DrK) (bs : List Nat) (i : Nat) (rs : List Rec) (fr : Fr) (o : Oper) (σ : St) : Out → Cd
  | some (v, s) => match Nat.beq s.nx σ.nx, s.W with
    | true, [] => k bs (i + 1) rs (putT fr o.dst v) σ
    | _, _ => .err [i, 174]
  | none => .err [i, 200 + o.op.ctorIdx]
noncomputable def drawEnd (k : DrK) (bs : List Nat) (i : Nat) (rs : List Rec) (fr : Fr) (o : Oper) (σ : St) (gone : List Nat) (us : List Rec) : R EV → Cd
  | .ok v σ1 => drawNext k bs i rs fr o σ σ1 (copyL σ.h σ1.h gone) none us v
  | .err e => .err (i :: e)
noncomputable def drawCall (go : Go1) (k : DrK) (bs : List Nat) (i : Nat) (rs : List Rec) (fr : Fr) (o : Oper) (σ σ0 : St) (gone : List Nat) (us : List Rec) : Option (FuncId × List EV) → Cd
  | some (f, args) => drawEnd k bs i rs fr o σ gone us (go f args σ0)
  | none => .err [i, 175]
noncomputable def still (σ : St) (gone : List Nat) : St := { h := eraseL σ.h gone, nx := σ.nx, W := [] }
noncomputable def only (σ : St) (ids : List Nat) : St := { h := restrict σ.h ids, nx := σ.nx, W := [] }
noncomputable def drawM (k : DrK) (bs : List Nat) (i : Nat) (rs : List Rec) (fr : Fr) (o : Oper) (σ : St) (us : List Rec) (ids : List Nat) (f : TrV → St → Out) : Cd :=
  match us.any (hits ids) with
  | true => .err [i, 177]
  | false => drawMem k bs i rs fr o σ ids us (f fr.tm (only σ ids))
noncomputable def drawC (go : Go1) (k : DrK) (bs : List Nat) (i : Nat) (rs : List Rec) (fr : Fr) (o : Oper) (σ : St) (us : List Rec) (gone : List Nat) (c : Go.Call) : Cd :=
  match us.any (fun r => !r.2.2.2.1.isEmpty) with
  | true => .err [i, 178]
  | false => drawCall go k bs i rs fr o σ (still σ gone) gone us (calleeE P (still σ gone) fr.tm c)
noncomputable def drawK (go : Go1) (k : DrK) (m : Nat) (bs : List Nat) (i : Nat) (rs : List Rec) (fr : Fr) (o : Oper) (σ : St) : Kd → Cd
  | .plain f => drawPure k bs i rs fr o σ (f fr.tm { h := .lf, nx := σ.nx, W := [] })
  | .mem f => drawM k bs i rs fr o σ (unordered m rs) (idsOf fr.tm o σ) f
  | .call c => drawC P go k bs i rs fr o σ (unordered m rs) (newOf (unordered m rs)) c
  | .dfr _ => .err [i, 176]
noncomputable def drawG (go : Go1) (k : DrK) (m : Nat) (bs : List Nat) (i : Nat) (rs : List Rec) (fr : Fr) (o : Oper) (σ : St) : Bool → Cd
  | true => drawK P go k m bs i rs fr o σ (kindOf P o)
  | false => k bs (i + 1) rs (putT fr o.dst (.s undef)) σ
noncomputable def drawB (go : Go1) (all : Array Oper) (o : Oper) (k : DrK) (i : Nat) (rs : List Rec) (fr : Fr) (σ : St) : List Nat → Cd
  | m :: bs => drawG P go k m bs i rs fr o σ (guardE all fr.tm o)
  | [] => .err [i, 169]
noncomputable def drawE (go : Go1) (all : Array Oper) (l : List Oper) : DrK :=
  List.rec (motive := fun _ => DrK) (fun _ _ _ fr σ => .ok .nrm fr σ) (fun o _ ih bs i rs fr σ => drawB P go all o ih i rs fr σ bs) l
/-! ### statements -/
def masksOf (ops : Array Oper) : List Nat := CheckFast.beforeL ops.toList 0 []
noncomputable def regionE (go : Go1) (ops : Array Oper) (fr : Fr) (σ : St) : Bool → Cd
  | false => opsE P go ops ops.toList fr σ
  | true => drawE P go ops ops.toList (masksOf ops) 0 [] fr σ
abbrev CdK := Fr → St → Cd
def seqE (k : CdK) (c : Cd) : Cd := Cd.rec (motive := fun _ => CdK → Cd)
  (fun e fr σ k => X.rec (motive := fun _ => CdK → Fr → St → Cd) (fun k fr σ => k fr σ) (fun id _ fr σ => .ok (.ex id) fr σ) (fun l _ fr σ => .ok (.gt l) fr σ) (fun _ fr σ => .ok .rt fr σ) e k fr σ)
  (fun l _ => .err l) c k
noncomputable def condE (a b : CdK) (fr : Fr) (σ : St) : EV → Cd
  | .s (.bool true) => a fr σ
  | .s (.bool false) => b fr σ
  | _ => .err [150]
def exitE (id k : Nat) (fr : Fr) (σ : St) : Cd := match Nat.beq k id with
  | true => .ok .nrm fr σ
  | false => .ok (.ex k) fr σ
def blockE (id : Nat) : Cd → Cd
  | .ok (.ex k) fr σ => exitE id k fr σ
  | .ok e fr σ => .ok e fr σ
  | .err l => .err l
def scopeE : Cd → Cd
  | .ok (.gt _) _ _ => .err [151]
  | .ok e fr σ => .ok e fr σ
  | .err l => .err l
noncomputable def loopE (body : CdK) (n : Nat) : CdK :=
  Nat.rec (motive := fun _ => CdK) (fun _ _ => .err [152]) (fun _ again fr σ => seqE again (body fr σ)) n
noncomputable def codeE (go : Go1) (c : Code) : CdK :=
  Code.rec (motive := fun _ => CdK)
    (fun fr σ => .ok .nrm fr σ)
    (fun _ ops d fr σ => regionE P go ops fr σ d)
    (fun _ _ a b fr σ => seqE b (a fr σ))
    (fun x _ _ a b fr σ => condE a b fr σ (ev fr.tm x))
    (fun id _ b fr σ => blockE id (b fr σ))
    (fun _ b => loopE b 100000)
    (fun _ _ _ _ _ _ _ _ => .err [153])
    (fun id fr σ => .ok (.ex id) fr σ)
    (fun _ b fr σ => scopeE (b fr σ))
    (fun _ fr σ => .ok .nrm fr σ)
    (fun l fr σ => .ok (.gt l) fr σ)
    (fun fr σ => .ok .rt fr σ)
    (fun _ _ _ => .err [154]) c
/-! ### functions -/
noncomputable def dfrRet (fn : Func) (f : FuncId) (fr : Fr) (σ : St) : List (FuncId × List EV) → R EV
  | [] => endCall P fn f fr (.ok () σ)
  | _ => .err [f, 189]
noncomputable def dfrOut (fn : Func) (f : FuncId) : Cd → R EV
  | .ok .nrm fr σ => dfrRet P fn f fr σ fr.ds
  | .ok .rt fr σ => dfrRet P fn f fr σ fr.ds
  | .ok _ _ _ => .err [f, 188]
  | .err e => .err (f :: e)
noncomputable def dfrB (go : Go1) (f : FuncId) (args : List EV) (σ : St) (fn : Func) (body : Code) : Bool → R EV
  | true => dfrOut P fn f (codeE P go body { tm := argsT .lf 0 args, ds := [] } σ)
  | false => .err [f, 187]
noncomputable def dfrC (go : Go1) (f : FuncId) (args : List EV) (σ : St) (fn : Func) : Option Code → R EV
  | some body => dfrB P go f args σ fn body (Nat.ble (lenL args) fn.ntmps)
  | none => .err [f, 186]
noncomputable def dfrF (go : Go1) (f : FuncId) (args : List EV) (σ : St) : Option Func → R EV
  | some fn => dfrC P go f args σ fn fn.body
  | none => .err [f, 185]
/-- a deferred call: of a function that defers none itself -/
noncomputable def dfrGo (go : Go1) (f : FuncId) (args : List EV) (σ : St) : R EV := dfrF P go f args σ (atE P.funcs f)
noncomputable def dfrEnd (again : St → R Unit) : R EV → R Unit
  | .ok _ σ => again σ
  | .err e => .err e
noncomputable def defersE (go : Go1) (ds : List (FuncId × List EV)) : St → R Unit :=
  List.rec (motive := fun _ => St → R Unit) (fun σ => .ok () σ) (fun d _ ih σ => dfrEnd ih (dfrGo P go d.1 d.2 σ)) ds
noncomputable def bodyEnd (go : Go1) (fn : Func) (f : FuncId) : Cd → R EV
  | .ok .nrm fr σ => endCall P fn f fr (defersE P go fr.ds σ)
  | .ok .rt fr σ => endCall P fn f fr (defersE P go fr.ds σ)
  | .ok _ _ _ => .err [f, 192]
  | .err e => .err (f :: e)
noncomputable def enterB (go : Go1) (f : FuncId) (args : List EV) (σ : St) (fn : Func) (body : Code) : Bool → R EV
  | true => bodyEnd P go fn f (codeE P go body { tm := argsT .lf 0 args, ds := [] } σ)
  | false => .err [f, 196]
noncomputable def enterE (go : Go1) (f : FuncId) (args : List EV) (σ : St) (fn : Func) : Option Code → R EV
  | some body => enterB P go f args σ fn body (Nat.ble (lenL args) fn.ntmps)
  | none => libE P f σ (args.mapM isS)
noncomputable def goE (go : Go1) (f : FuncId) (args : List EV) (σ : St) : Option Func → R EV
  | some fn => enterE P go f args σ fn fn.body
  | none => .err [f, 194]
noncomputable def extE (go : Go1) (f : FuncId) (args : List EV) (σ : St) : Option (R EV) → R EV
  | some (.ok v σ') => .ok v σ'
  | some (.err e) => .err (f :: e)
  | none => goE P go f args σ (atE P.funcs f)
-- functions that are summed up
variable (ext : FuncId → List EV → St → Option (R EV))
/-- a call, so many levels deep -/
noncomputable def run (n : Nat) : Go1 :=
  Nat.rec (motive := fun _ => Go1) (fun _ _ _ => .err [199]) (fun _ go f args σ => extE P go f args σ (ext f args σ)) n
end
end
end Ev
end Go.Proofs.YtkfhapidoolfdaaGreatDoor
