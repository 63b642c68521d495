/-
  No cell of these rows narrows 'for every input' (looked for: loops, veiled, ifaces, maps, wideKeys, modest, calm, conditions, laid).
  DERIVED. THE GIVEN ROWS OF THIS SEAT. 5 by the template 'for every input the law returns true; each argument reads behind the call as it read before'; 0 by the template 'total and deterministic' (their statements: YtifllaeldcimgaaTotals.lean).
  GIVEN WITH THE SEED: the statements are not yours to turn. If you find one false, say at which input.
  Laid BY PROGRAM, IN A SANDBOX (cutbox-rows.mjs): the forced cells as the released guide's own fill.sh prints them over the translation 5382473ed18d7a67… (all of the seat's roots in one cut). By AI agents, Wed Nov 11 2026. No macro, syntax, notation, axiom, sorry.
-/
import Derived.Test.YtifllaeldcimgaaChecked
import GoSem.Claim
import GoSem.ClaimJoined
import GoSem.ClaimMapViews
import Derived.JoinedTies
import Derived.KernelRfl
namespace Go.Proofs.Ytifllaeldcimgaa
/- THE CELL 'sum', in the pinned program and in every row, IS THE sha256 OF THE DUMP (.gsa) THAT YtifllaeldcimgaaProg.lean LOADS. Nothing in Lean hashes anything: it is a label: what it is worth is what the hold of that sum in a sandbox is worth. -/
noncomputable def Try.pinned : Pinned := { name := "ytifllaeldcimgaa", sum := "5382473ed18d7a67d32ef24d4a388ef4c18736fee9c0171d0ba638f8763cad19", checked := Try.checked }
namespace Rows
def none {H : Type} : Left H := { results := [], args := [] }

/-- 'subletlaw17.HolderNames': WHATEVER THE INPUT: true; the input reads as it did. -/
def holderNamesSpec : ChangeSpec := { name := "holderNames", fn := fun _ => fun
  | [] => { results := [.lit (.bool true)], args := [] }
  | _ => none }
def holderNamesRow : OpenClaim := { program := "ytifllaeldcimgaa", sum := "5382473ed18d7a67d32ef24d4a388ef4c18736fee9c0171d0ba638f8763cad19", func := "sublet/subletlaw17.HolderNames", spec := "holderNames", inPlace := ["internal/bytealg.CountString", "internal/bytealg.IndexByteString", "internal/bytealg.IndexString"], unfollowed := true, recurses := true, named := ["internal/bytealg.MaxLen"], plainKeys := false, apart := false }
def HolderNamesSaid : Prop := holderNamesRow.holds Try.pinned (OpenSpec.ofChange holderNamesSpec)

/-- ITS FALSE NEIGHBOUR: 'it returns false'. Refute it at one input. -/
def holderNamesWrong : ChangeSpec := { name := "holderNames", fn := fun _ => fun
  | [] => { results := [.lit (.bool false)], args := [] }
  | _ => none }
def HolderNamesWrongFalsely : Prop := holderNamesRow.holds Try.pinned (OpenSpec.ofChange holderNamesWrong)

/-- 'subletlaw17.HolderUses': WHATEVER THE INPUT: true; the input reads as it did. -/
def holderUsesSpec : ChangeSpec := { name := "holderUses", fn := fun _ => fun
  | [d1, d2, d3] => { results := [.lit (.bool true)], args := [d1, d2, d3] }
  | _ => none }
def holderUsesRow : OpenClaim := { program := "ytifllaeldcimgaa", sum := "5382473ed18d7a67d32ef24d4a388ef4c18736fee9c0171d0ba638f8763cad19", func := "sublet/subletlaw17.HolderUses", spec := "holderUses", inPlace := ["internal/bytealg.CountString", "internal/bytealg.IndexByteString", "internal/bytealg.IndexString"], unfollowed := true, recurses := true, named := ["internal/bytealg.MaxLen"], plainKeys := false, apart := false }
def HolderUsesSaid : Prop := holderUsesRow.holds Try.pinned (OpenSpec.ofChange holderUsesSpec)

/-- ITS FALSE NEIGHBOUR: 'it returns false'. Refute it at one input. -/
def holderUsesWrong : ChangeSpec := { name := "holderUses", fn := fun _ => fun
  | [d1, d2, d3] => { results := [.lit (.bool false)], args := [d1, d2, d3] }
  | _ => none }
def HolderUsesWrongFalsely : Prop := holderUsesRow.holds Try.pinned (OpenSpec.ofChange holderUsesWrong)

/-- 'subletlaw17.HolderShort': WHATEVER THE INPUT: true; the input reads as it did. -/
def holderShortSpec : ChangeSpec := { name := "holderShort", fn := fun _ => fun
  | [d1, d2] => { results := [.lit (.bool true)], args := [d1, d2] }
  | _ => none }
def holderShortRow : OpenClaim := { program := "ytifllaeldcimgaa", sum := "5382473ed18d7a67d32ef24d4a388ef4c18736fee9c0171d0ba638f8763cad19", func := "sublet/subletlaw17.HolderShort", spec := "holderShort", inPlace := ["internal/bytealg.CountString", "internal/bytealg.IndexByteString", "internal/bytealg.IndexString"], unfollowed := true, recurses := true, named := ["internal/bytealg.MaxLen"], plainKeys := false, apart := false }
def HolderShortSaid : Prop := holderShortRow.holds Try.pinned (OpenSpec.ofChange holderShortSpec)

/-- ITS FALSE NEIGHBOUR: 'it returns false'. Refute it at one input. -/
def holderShortWrong : ChangeSpec := { name := "holderShort", fn := fun _ => fun
  | [d1, d2] => { results := [.lit (.bool false)], args := [d1, d2] }
  | _ => none }
def HolderShortWrongFalsely : Prop := holderShortRow.holds Try.pinned (OpenSpec.ofChange holderShortWrong)

/-- 'subletlaw17.HolderRecalled': WHATEVER THE INPUT: true; the input reads as it did. -/
def holderRecalledSpec : ChangeSpec := { name := "holderRecalled", fn := fun _ => fun
  | [d1, d2, d3] => { results := [.lit (.bool true)], args := [d1, d2, d3] }
  | _ => none }
def holderRecalledRow : OpenClaim := { program := "ytifllaeldcimgaa", sum := "5382473ed18d7a67d32ef24d4a388ef4c18736fee9c0171d0ba638f8763cad19", func := "sublet/subletlaw17.HolderRecalled", spec := "holderRecalled", inPlace := ["internal/bytealg.CountString", "internal/bytealg.IndexByteString", "internal/bytealg.IndexString"], unfollowed := true, recurses := true, named := ["internal/bytealg.MaxLen"], plainKeys := false, apart := false }
def HolderRecalledSaid : Prop := holderRecalledRow.holds Try.pinned (OpenSpec.ofChange holderRecalledSpec)

/-- ITS FALSE NEIGHBOUR: 'it returns false'. Refute it at one input. -/
def holderRecalledWrong : ChangeSpec := { name := "holderRecalled", fn := fun _ => fun
  | [d1, d2, d3] => { results := [.lit (.bool false)], args := [d1, d2, d3] }
  | _ => none }
def HolderRecalledWrongFalsely : Prop := holderRecalledRow.holds Try.pinned (OpenSpec.ofChange holderRecalledWrong)

/-- 'subletlaw17.HolderOwn': WHATEVER THE INPUT: true; the input reads as it did. -/
def holderOwnSpec : ChangeSpec := { name := "holderOwn", fn := fun _ => fun
  | [d] => { results := [.lit (.bool true)], args := [d] }
  | _ => none }
def holderOwnRow : OpenClaim := { program := "ytifllaeldcimgaa", sum := "5382473ed18d7a67d32ef24d4a388ef4c18736fee9c0171d0ba638f8763cad19", func := "sublet/subletlaw17.HolderOwn", spec := "holderOwn", inPlace := ["internal/bytealg.CountString", "internal/bytealg.IndexByteString", "internal/bytealg.IndexString"], unfollowed := true, recurses := true, named := ["internal/bytealg.MaxLen"], plainKeys := false, apart := false }
def HolderOwnSaid : Prop := holderOwnRow.holds Try.pinned (OpenSpec.ofChange holderOwnSpec)

/-- ITS FALSE NEIGHBOUR: 'it returns false'. Refute it at one input. -/
def holderOwnWrong : ChangeSpec := { name := "holderOwn", fn := fun _ => fun
  | [d] => { results := [.lit (.bool false)], args := [d] }
  | _ => none }
def HolderOwnWrongFalsely : Prop := holderOwnRow.holds Try.pinned (OpenSpec.ofChange holderOwnWrong)

/- THE SECOND FORM. 'bulk': how many values and letters a reading holds, each counted each time it is reached (what is shared counts as often as it is met; a slice's spare places count too). A statement '..UptoSaid' is the law's where the arguments, and the package variables that the reading takes, are together of bulk at most 1048576: NARROWER than '..Said'. Prove '..Said' where nothing that the law and all that it calls make is longer than what came in: it says more and counts as full. Else prove '..UptoSaid'. A law counts once. -/
mutual
def uptoBulk {H : Type} : DataW H → Nat
  | .lit (.string bytes) => bytes.length + 1
  | .lit _ => 1
  | .nil => 1
  | .ptr d => uptoBulk d + 1
  | .slice elems spare => uptoBulkAll elems + uptoBulkAll spare + 1
  | .agg parts => uptoBulkAll parts + 1
  | .iface _ d => uptoBulk d + 1
  | .map entries => uptoBulkEntries entries + 1
  | .held _ => 1
def uptoBulkAll {H : Type} : List (DataW H) → Nat
  | [] => 0
  | d :: r => uptoBulk d + uptoBulkAll r
def uptoBulkEntries {H : Type} : List (Lit × DataW H) → Nat
  | [] => 0
  | x :: r => uptoBulkEntry x + uptoBulkEntries r
def uptoBulkEntry {H : Type} : Lit × DataW H → Nat
  | (.string bytes, d) => bytes.length + uptoBulk d + 1
  | (_, d) => uptoBulk d + 1
 end
def uptoSmall : (H : Type) → List (DataW H) → Bool := fun _ ds => decide (uptoBulkAll ds ≤ 1048576)
def OpenSpec.upto (s : _root_.Go.ChangeSpec) : _root_.Go.OpenSpec := { _root_.Go.OpenSpec.ofChange s with cond := some uptoSmall }

/-- 'subletlaw17.HolderNames', WHERE WHAT IT READS IS OF BULK AT MOST 1048576: true; the input reads as it did. -/
def holderNamesUptoRow : OpenClaim := { program := "ytifllaeldcimgaa", sum := "5382473ed18d7a67d32ef24d4a388ef4c18736fee9c0171d0ba638f8763cad19", func := "sublet/subletlaw17.HolderNames", spec := "holderNames", inPlace := ["internal/bytealg.CountString", "internal/bytealg.IndexByteString", "internal/bytealg.IndexString"], unfollowed := true, recurses := true, named := ["internal/bytealg.MaxLen"], plainKeys := false, apart := false, narrowed := true }
def HolderNamesUptoSaid : Prop := holderNamesUptoRow.holds Try.pinned (OpenSpec.upto holderNamesSpec)

/-- 'subletlaw17.HolderUses', WHERE WHAT IT READS IS OF BULK AT MOST 1048576: true; the input reads as it did. -/
def holderUsesUptoRow : OpenClaim := { program := "ytifllaeldcimgaa", sum := "5382473ed18d7a67d32ef24d4a388ef4c18736fee9c0171d0ba638f8763cad19", func := "sublet/subletlaw17.HolderUses", spec := "holderUses", inPlace := ["internal/bytealg.CountString", "internal/bytealg.IndexByteString", "internal/bytealg.IndexString"], unfollowed := true, recurses := true, named := ["internal/bytealg.MaxLen"], plainKeys := false, apart := false, narrowed := true }
def HolderUsesUptoSaid : Prop := holderUsesUptoRow.holds Try.pinned (OpenSpec.upto holderUsesSpec)

/-- 'subletlaw17.HolderShort', WHERE WHAT IT READS IS OF BULK AT MOST 1048576: true; the input reads as it did. -/
def holderShortUptoRow : OpenClaim := { program := "ytifllaeldcimgaa", sum := "5382473ed18d7a67d32ef24d4a388ef4c18736fee9c0171d0ba638f8763cad19", func := "sublet/subletlaw17.HolderShort", spec := "holderShort", inPlace := ["internal/bytealg.CountString", "internal/bytealg.IndexByteString", "internal/bytealg.IndexString"], unfollowed := true, recurses := true, named := ["internal/bytealg.MaxLen"], plainKeys := false, apart := false, narrowed := true }
def HolderShortUptoSaid : Prop := holderShortUptoRow.holds Try.pinned (OpenSpec.upto holderShortSpec)

/-- 'subletlaw17.HolderRecalled', WHERE WHAT IT READS IS OF BULK AT MOST 1048576: true; the input reads as it did. -/
def holderRecalledUptoRow : OpenClaim := { program := "ytifllaeldcimgaa", sum := "5382473ed18d7a67d32ef24d4a388ef4c18736fee9c0171d0ba638f8763cad19", func := "sublet/subletlaw17.HolderRecalled", spec := "holderRecalled", inPlace := ["internal/bytealg.CountString", "internal/bytealg.IndexByteString", "internal/bytealg.IndexString"], unfollowed := true, recurses := true, named := ["internal/bytealg.MaxLen"], plainKeys := false, apart := false, narrowed := true }
def HolderRecalledUptoSaid : Prop := holderRecalledUptoRow.holds Try.pinned (OpenSpec.upto holderRecalledSpec)

/-- 'subletlaw17.HolderOwn', WHERE WHAT IT READS IS OF BULK AT MOST 1048576: true; the input reads as it did. -/
def holderOwnUptoRow : OpenClaim := { program := "ytifllaeldcimgaa", sum := "5382473ed18d7a67d32ef24d4a388ef4c18736fee9c0171d0ba638f8763cad19", func := "sublet/subletlaw17.HolderOwn", spec := "holderOwn", inPlace := ["internal/bytealg.CountString", "internal/bytealg.IndexByteString", "internal/bytealg.IndexString"], unfollowed := true, recurses := true, named := ["internal/bytealg.MaxLen"], plainKeys := false, apart := false, narrowed := true }
def HolderOwnUptoSaid : Prop := holderOwnUptoRow.holds Try.pinned (OpenSpec.upto holderOwnSpec)

end Rows
end Go.Proofs.Ytifllaeldcimgaa
