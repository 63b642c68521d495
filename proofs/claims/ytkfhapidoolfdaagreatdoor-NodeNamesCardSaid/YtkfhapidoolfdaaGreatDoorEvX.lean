/-
  E's SUMMARIES: functions that E does not run itself: what they come to.
-/
import Derived.Test.YtkfhapidoolfdaaGreatDoorEG1
import Derived.Test.YtkfhapidoolfdaaGreatDoorSec
import Derived.Test.YtkfhapidoolfdaaGreatDoorProg
namespace Go.Proofs.YtkfhapidoolfdaaGreatDoor
open Go
namespace Ev
noncomputable section

def unL (bs : Nat) : Nat → Nat → List UInt8
  | _, 0 => []
  | i, n + 1 => UInt8.ofNat (segB bs i 1) :: unL bs (i + 1) n
def rowB : Option Row → Option (List UInt8)
  | some (.y bs n) => some (unL bs 0 n)
  | _ => none
/-- a slice's length and capacity, both small -/
def small (n q : Nat) : Bool := Nat.ble n q && Nat.ble q 1000000
/-- bytes of a slice of told capacity -/
def bytesS (σ : St) : EV → Option (List UInt8)
  | .sl b o n (some q) _ => match small n q with
    | true => rowB (loadN σ b o n)
    | false => none
  | _ => none
def bytesL (σ : St) : List EV → Option (List (List UInt8))
  | [] => some []
  | e :: r => match bytesS σ e, bytesL σ r with
    | some x, some l => some (x :: l)
    | _, _ => none
def ansE (r : Option (R EV)) (k : Nat) : Option (R EV) := match r with
  | some r => some r
  | none => some (.err [k])
/-- octets.Sum -/
def sumX (σ : St) : Option (List UInt8) → Option (R EV)
  | some l => some (.ok (.s (.int .u32 (.ofNat (sumB l)))) σ)
  | none => none
def extSum (σ : St) : List EV → Option (R EV)
  | [x] => sumX σ (bytesS σ x)
  | _ => none
/-- sectors.Scan, where it finds nothing -/
def scanX (σ : St) : List (List UInt8) × Nat → Option (R EV)
  | ([], used) => some (.ok (.t [.zl, .s (.int .i64 (.ofNat used))]) σ)
  | _ => none
def scanL (σ : St) (gen : Nat) : Option (List (List UInt8)) → Option (R EV)
  | some ls => scanX σ (scanS ls gen)
  | none => none
def scanR (σ : St) (gen : Nat) : Option Row → Option (R EV)
  | some (.l cs) => scanL σ gen (bytesL σ cs)
  | _ => none
def openAt (σ : St) (b el n : Nat) : Bool := match σ.h.get b with
  | some (.c _ m _ e true) => Nat.beq e el && Nat.ble n m
  | _ => false
def extScan (σ : St) : List EV → Option (R EV)
  | [.sl b 0 n none 0, .s (.int .i64 (.ofNat gen))] => match openAt σ b 152 n && Nat.ble n 1000000 with
    | true => scanR σ gen (loadN σ b 0 n)
    | false => none
  | _ => none
/-- slices.Collect(slices.Chunk(data, 47)) -/
def pieces (b o : Nat) : Nat → Nat → List EV
  | 0, _ => []
  | f + 1, len => match Nat.ble len 47 with
    | true => [.sl b o len (some len) 0]
    | false => .sl b o 47 (some 47) 0 :: pieces b (o + 47) f (len - 47)
/-- so many elements of an open row of bytes are told -/
def openY (σ : St) (b o k n : Nat) : Bool := match σ.h.get b with
  | some (.y _ m e true) => Nat.beq e 5 && Nat.beq o k && Nat.ble (o + n) m
  | _ => false
def chunkOk (σ : St) (c co len k : Nat) : Option Nat → Bool
  | some q => Nat.ble len q
  | none => openY σ c co k len
def chunkX (σ : St) : Option Row → Option Row → Option (R EV)
  | some (.l [.sl c co len cap k]), some (.l [.s (.int .i64 (.ofNat 47))]) => match chunkOk σ c co len k cap && (Nat.ble 1 len && Nat.ble len 1000000) with
    | true => some (.ok (.sl σ.nx 0 (lenL (pieces c co len len)) none 0) (σ.new (rowE 152 true (.l (pieces c co len len)))))
    | false => none
  | _, _ => none
def extChunk (σ : St) : List EV → Option (R EV)
  | [.f (.func g) [] [.p a 0, .p b 0]] => match Nat.beq g 359 with
    | true => chunkX σ (loadN σ a 0 1) (loadN σ b 0 1)
    | false => none
  | _ => none
/-- slices.Collect(maps.Values(m)) at entries: none, or one -/
def inInt (x : Int) : Bool := match x with
  | .ofNat n => Nat.ble n 9223372036854775807
  | .negSucc n => Nat.ble n 9223372036854775807
def collX (σ : St) : Option EO → Option (R EV)
  | some (.m [] _) => some (.ok .zl σ)
  | some (.m [⟨.s (.int .i64 k), .a [.s (.int .i64 id), .s (.string p), .s (.int .i64 mode), .s (.int .i64 who)], born⟩] cl) =>
    match intE k id && inInt k && Nat.ble (born + 1) cl with
    | true => some (.ok (.sl σ.nx 0 1 none 0) (σ.new (rowE 302 true (.l [.s (.int .i64 id), .s (.string p), .s (.int .i64 mode), .s (.int .i64 who)]))))
    | false => none
  | _ => none
where
  intE : Int → Int → Bool
    | .ofNat m, .ofNat n => Nat.beq m n
    | .negSucc m, .negSucc n => Nat.beq m n
    | _, _ => false
def mapAt (σ : St) : Option Row → Option EO
  | some (.l [.m b]) => σ.h.get b
  | _ => none
def extColl (σ : St) : List EV → Option (R EV)
  | [.f (.func g) [] [.p a 0]] => match Nat.beq g 400 with
    | true => collX σ (mapAt σ (loadN σ a 0 1))
    | false => none
  | _ => none
/-- slices.Sorted(maps.Keys(m)) at calls: none -/
def keysX (σ : St) : Option EO → Option (R EV)
  | some (.m [] _) => some (.ok .zl σ)
  | _ => none
def extKeys (σ : St) : List EV → Option (R EV)
  | [.f (.func g) [] [.p a 0]] => match Nat.beq g 275 with
    | true => keysX σ (mapAt σ (loadN σ a 0 1))
    | false => none
  | _ => none
/-- bytealg's -/
def cntB (c : UInt8) : List UInt8 → Nat
  | [] => 0
  | x :: r => match Nat.beq x.toNat c.toNat with
    | true => cntB c r + 1
    | false => cntB c r
def idxB (c : UInt8) : Nat → List UInt8 → Int
  | _, [] => .negSucc 0
  | i, x :: r => match Nat.beq x.toNat c.toNat with
    | true => .ofNat i
    | false => idxB c (i + 1) r
def extCnt (σ : St) : List EV → Option (R EV)
  | [.s (.string t), .s (.int .u8 (.ofNat k))] => some (.ok (.s (.int .i64 (.ofNat (cntB (UInt8.ofNat k) t.data.toList)))) σ)
  | _ => none
def extIdx (σ : St) : List EV → Option (R EV)
  | [.s (.string t), .s (.int .u8 (.ofNat k))] => some (.ok (.s (.int .i64 (idxB (UInt8.ofNat k) 0 t.data.toList))) σ)
  | _ => none
abbrev ExtF := St → List EV → Option (R EV)
def extAt (f : FuncId) (args : List EV) (σ : St) : List (Nat × ExtF) → Option (R EV)
  | [] => none
  | (g, k) :: r => match Nat.beq f g with
    | true => ansE (k σ args) g
    | false => extAt f args σ r
def extX : FuncId → List EV → St → Option (R EV) := fun f args σ => extAt f args σ
  [(278, extSum), (193, extScan), (280, extChunk), (343, extColl), (184, extKeys), (114, extCnt), (367, extIdx)]
/-- no memory of its own yet -/
def s0 : St := { h := .lf, nx := 0, W := [] }
/-- does a call without arguments come to true? -/
def sayT : R EV → Bool
  | .ok (.s (.bool true)) _ => true
  | _ => false
end
end Ev
end Go.Proofs.YtkfhapidoolfdaaGreatDoor
