/-
  NARROWER THAN 'FOR EVERY INPUT', by the rows' own cells (each row's printed sentence says how): NodeNames: laid · NodeDeep: laid · NodeCascades: laid · NodeUses: laid · NodeLate: laid · NodeOwn: laid · NodeAnew: laid.
  DERIVED. THE GIVEN ROWS OF THIS SEAT. 7 by the template 'for every input the law returns true; each argument reads behind the call as it read before'; 0 by the template 'total and deterministic' (their statements: YtkfhapidoolfdaaGreatDoorTotals.lean).
  GIVEN WITH THE SEED: the statements are not yours to turn. If you find one false, say at which input.
  Laid BY PROGRAM, IN A SANDBOX (cutbox-rows.mjs): the forced cells as the released guide's own fill.sh prints them over the translation 9643a5853be64842… (all of the seat's roots in one cut). By AI agents, Wed Nov 11 2026. No macro, syntax, notation, axiom, sorry.
-/
import Derived.Test.YtkfhapidoolfdaaGreatDoorChecked
import GoSem.PinnedTables
import GoSem.Claim
import GoSem.ClaimJoined
import GoSem.ClaimMapViews
import Derived.JoinedTies
import Derived.KernelRfl
namespace Go.Proofs.YtkfhapidoolfdaaGreatDoor
/- THE CELL 'sum', in the pinned program and in every row, IS THE sha256 OF THE DUMP (.gsa) THAT YtkfhapidoolfdaaGreatDoorProg.lean LOADS. Nothing in Lean hashes anything: it is a label: what it is worth is what the hold of that sum in a sandbox is worth. -/
noncomputable def Tryz.pinned : Pinned := { name := "ytkfhapidoolfdaagreatdoor", sum := "9643a5853be648427290d039905c1daab28e4fc1ddbf3937823f3a8cb02309d7", checked := Tryz.checked }
namespace Rows
def none {H : Type} : Left H := { results := [], args := [] }

/- WHAT THE LISTED PACKAGE-LEVEL VARIABLES READ AS WHEN THE CALL BEGINS. Each datum BY PROGRAM (the guide's laid-datum.mjs) off the statement by which the dump's own 'gosem.cut.vars' lays the variable. In a bare row this is a premise. The card (YtkfhapidoolfdaaGreatDoorCards.lean) ties it to the program's text. -/
def laid_unicode_utf8_acceptRanges {H : Type} : DataW H := .agg [.agg [.lit (.int .u8 128), .lit (.int .u8 191)], .agg [.lit (.int .u8 160), .lit (.int .u8 191)], .agg [.lit (.int .u8 128), .lit (.int .u8 159)], .agg [.lit (.int .u8 144), .lit (.int .u8 191)], .agg [.lit (.int .u8 128), .lit (.int .u8 143)], .agg [.lit (.int .u8 0), .lit (.int .u8 0)], .agg [.lit (.int .u8 0), .lit (.int .u8 0)], .agg [.lit (.int .u8 0), .lit (.int .u8 0)], .agg [.lit (.int .u8 0), .lit (.int .u8 0)], .agg [.lit (.int .u8 0), .lit (.int .u8 0)], .agg [.lit (.int .u8 0), .lit (.int .u8 0)], .agg [.lit (.int .u8 0), .lit (.int .u8 0)], .agg [.lit (.int .u8 0), .lit (.int .u8 0)], .agg [.lit (.int .u8 0), .lit (.int .u8 0)], .agg [.lit (.int .u8 0), .lit (.int .u8 0)], .agg [.lit (.int .u8 0), .lit (.int .u8 0)]]
/-- One of Go's own tables, pinned by name: the form's constant. -/
def laid_unicode_utf8_first : DataW Unit := Go.Pinned.utf8First

/-- 'subletlaw18.NodeNames': WHATEVER THE INPUT: true; the input reads as it did. -/
def nodeNamesSpec : ChangeSpec := { name := "nodeNames", fn := fun _ => fun
  | [] => { results := [.lit (.bool true)], args := [] }
  | _ => none }
def nodeNamesRow : OpenClaim := { program := "ytkfhapidoolfdaagreatdoor", sum := "9643a5853be648427290d039905c1daab28e4fc1ddbf3937823f3a8cb02309d7", func := "sublet/subletlaw18.NodeNames", spec := "nodeNames", inPlace := ["internal/bytealg.CountString", "internal/bytealg.IndexByteString", "internal/bytealg.IndexString", "slices.overlaps[sublet/api.Grant]"], unfollowed := true, recurses := true, named := ["unicode/utf8.first", "unicode/utf8.acceptRanges", "internal/bytealg.MaxLen"], plainKeys := false, apart := false, laid := [("unicode/utf8.acceptRanges", laid_unicode_utf8_acceptRanges), ("unicode/utf8.first", laid_unicode_utf8_first)] }
def NodeNamesSaid : Prop := nodeNamesRow.holds Tryz.pinned (OpenSpec.ofChange nodeNamesSpec)

/-- ITS FALSE NEIGHBOUR: 'it returns false'. Refute it at one input. -/
def nodeNamesWrong : ChangeSpec := { name := "nodeNames", fn := fun _ => fun
  | [] => { results := [.lit (.bool false)], args := [] }
  | _ => none }
def NodeNamesWrongFalsely : Prop := nodeNamesRow.holds Tryz.pinned (OpenSpec.ofChange nodeNamesWrong)

/-- 'subletlaw18.NodeDeep': WHATEVER THE INPUT: true; the input reads as it did. -/
def nodeDeepSpec : ChangeSpec := { name := "nodeDeep", fn := fun _ => fun
  | [d1, d2, d3] => { results := [.lit (.bool true)], args := [d1, d2, d3] }
  | _ => none }
def nodeDeepRow : OpenClaim := { program := "ytkfhapidoolfdaagreatdoor", sum := "9643a5853be648427290d039905c1daab28e4fc1ddbf3937823f3a8cb02309d7", func := "sublet/subletlaw18.NodeDeep", spec := "nodeDeep", inPlace := ["internal/bytealg.CountString", "internal/bytealg.IndexByteString", "internal/bytealg.IndexString", "slices.overlaps[sublet/api.Grant]"], unfollowed := true, recurses := true, named := ["unicode/utf8.first", "unicode/utf8.acceptRanges", "internal/bytealg.MaxLen"], plainKeys := false, apart := false, laid := [("unicode/utf8.acceptRanges", laid_unicode_utf8_acceptRanges), ("unicode/utf8.first", laid_unicode_utf8_first)] }
def NodeDeepSaid : Prop := nodeDeepRow.holds Tryz.pinned (OpenSpec.ofChange nodeDeepSpec)

/-- ITS FALSE NEIGHBOUR: 'it returns false'. Refute it at one input. -/
def nodeDeepWrong : ChangeSpec := { name := "nodeDeep", fn := fun _ => fun
  | [d1, d2, d3] => { results := [.lit (.bool false)], args := [d1, d2, d3] }
  | _ => none }
def NodeDeepWrongFalsely : Prop := nodeDeepRow.holds Tryz.pinned (OpenSpec.ofChange nodeDeepWrong)

/-- 'subletlaw18.NodeCascades': WHATEVER THE INPUT: true; the input reads as it did. -/
def nodeCascadesSpec : ChangeSpec := { name := "nodeCascades", fn := fun _ => fun
  | [d1, d2, d3] => { results := [.lit (.bool true)], args := [d1, d2, d3] }
  | _ => none }
def nodeCascadesRow : OpenClaim := { program := "ytkfhapidoolfdaagreatdoor", sum := "9643a5853be648427290d039905c1daab28e4fc1ddbf3937823f3a8cb02309d7", func := "sublet/subletlaw18.NodeCascades", spec := "nodeCascades", inPlace := ["internal/bytealg.CountString", "internal/bytealg.IndexByteString", "internal/bytealg.IndexString", "slices.overlaps[sublet/api.Grant]"], unfollowed := true, recurses := true, named := ["unicode/utf8.first", "unicode/utf8.acceptRanges", "internal/bytealg.MaxLen"], plainKeys := false, apart := false, laid := [("unicode/utf8.acceptRanges", laid_unicode_utf8_acceptRanges), ("unicode/utf8.first", laid_unicode_utf8_first)] }
def NodeCascadesSaid : Prop := nodeCascadesRow.holds Tryz.pinned (OpenSpec.ofChange nodeCascadesSpec)

/-- ITS FALSE NEIGHBOUR: 'it returns false'. Refute it at one input. -/
def nodeCascadesWrong : ChangeSpec := { name := "nodeCascades", fn := fun _ => fun
  | [d1, d2, d3] => { results := [.lit (.bool false)], args := [d1, d2, d3] }
  | _ => none }
def NodeCascadesWrongFalsely : Prop := nodeCascadesRow.holds Tryz.pinned (OpenSpec.ofChange nodeCascadesWrong)

/-- 'subletlaw18.NodeUses': WHATEVER THE INPUT: true; the input reads as it did. -/
def nodeUsesSpec : ChangeSpec := { name := "nodeUses", fn := fun _ => fun
  | [d1, d2, d3] => { results := [.lit (.bool true)], args := [d1, d2, d3] }
  | _ => none }
def nodeUsesRow : OpenClaim := { program := "ytkfhapidoolfdaagreatdoor", sum := "9643a5853be648427290d039905c1daab28e4fc1ddbf3937823f3a8cb02309d7", func := "sublet/subletlaw18.NodeUses", spec := "nodeUses", inPlace := ["internal/bytealg.CountString", "internal/bytealg.IndexByteString", "internal/bytealg.IndexString", "slices.overlaps[sublet/api.Grant]"], unfollowed := true, recurses := true, named := ["unicode/utf8.first", "unicode/utf8.acceptRanges", "internal/bytealg.MaxLen"], plainKeys := false, apart := false, laid := [("unicode/utf8.acceptRanges", laid_unicode_utf8_acceptRanges), ("unicode/utf8.first", laid_unicode_utf8_first)] }
def NodeUsesSaid : Prop := nodeUsesRow.holds Tryz.pinned (OpenSpec.ofChange nodeUsesSpec)

/-- ITS FALSE NEIGHBOUR: 'it returns false'. Refute it at one input. -/
def nodeUsesWrong : ChangeSpec := { name := "nodeUses", fn := fun _ => fun
  | [d1, d2, d3] => { results := [.lit (.bool false)], args := [d1, d2, d3] }
  | _ => none }
def NodeUsesWrongFalsely : Prop := nodeUsesRow.holds Tryz.pinned (OpenSpec.ofChange nodeUsesWrong)

/-- 'subletlaw18.NodeLate': WHATEVER THE INPUT: true; the input reads as it did. -/
def nodeLateSpec : ChangeSpec := { name := "nodeLate", fn := fun _ => fun
  | [d1, d2, d3] => { results := [.lit (.bool true)], args := [d1, d2, d3] }
  | _ => none }
def nodeLateRow : OpenClaim := { program := "ytkfhapidoolfdaagreatdoor", sum := "9643a5853be648427290d039905c1daab28e4fc1ddbf3937823f3a8cb02309d7", func := "sublet/subletlaw18.NodeLate", spec := "nodeLate", inPlace := ["internal/bytealg.CountString", "internal/bytealg.IndexByteString", "internal/bytealg.IndexString", "slices.overlaps[sublet/api.Grant]"], unfollowed := true, recurses := true, named := ["unicode/utf8.first", "unicode/utf8.acceptRanges", "internal/bytealg.MaxLen"], plainKeys := false, apart := false, laid := [("unicode/utf8.acceptRanges", laid_unicode_utf8_acceptRanges), ("unicode/utf8.first", laid_unicode_utf8_first)] }
def NodeLateSaid : Prop := nodeLateRow.holds Tryz.pinned (OpenSpec.ofChange nodeLateSpec)

/-- ITS FALSE NEIGHBOUR: 'it returns false'. Refute it at one input. -/
def nodeLateWrong : ChangeSpec := { name := "nodeLate", fn := fun _ => fun
  | [d1, d2, d3] => { results := [.lit (.bool false)], args := [d1, d2, d3] }
  | _ => none }
def NodeLateWrongFalsely : Prop := nodeLateRow.holds Tryz.pinned (OpenSpec.ofChange nodeLateWrong)

/-- 'subletlaw18.NodeOwn': WHATEVER THE INPUT: true; the input reads as it did. -/
def nodeOwnSpec : ChangeSpec := { name := "nodeOwn", fn := fun _ => fun
  | [d1, d2] => { results := [.lit (.bool true)], args := [d1, d2] }
  | _ => none }
def nodeOwnRow : OpenClaim := { program := "ytkfhapidoolfdaagreatdoor", sum := "9643a5853be648427290d039905c1daab28e4fc1ddbf3937823f3a8cb02309d7", func := "sublet/subletlaw18.NodeOwn", spec := "nodeOwn", inPlace := ["internal/bytealg.CountString", "internal/bytealg.IndexByteString", "internal/bytealg.IndexString", "slices.overlaps[sublet/api.Grant]"], unfollowed := true, recurses := true, named := ["unicode/utf8.first", "unicode/utf8.acceptRanges", "internal/bytealg.MaxLen"], plainKeys := false, apart := false, laid := [("unicode/utf8.acceptRanges", laid_unicode_utf8_acceptRanges), ("unicode/utf8.first", laid_unicode_utf8_first)] }
def NodeOwnSaid : Prop := nodeOwnRow.holds Tryz.pinned (OpenSpec.ofChange nodeOwnSpec)

/-- ITS FALSE NEIGHBOUR: 'it returns false'. Refute it at one input. -/
def nodeOwnWrong : ChangeSpec := { name := "nodeOwn", fn := fun _ => fun
  | [d1, d2] => { results := [.lit (.bool false)], args := [d1, d2] }
  | _ => none }
def NodeOwnWrongFalsely : Prop := nodeOwnRow.holds Tryz.pinned (OpenSpec.ofChange nodeOwnWrong)

/-- 'subletlaw18.NodeAnew': WHATEVER THE INPUT: true; the input reads as it did. -/
def nodeAnewSpec : ChangeSpec := { name := "nodeAnew", fn := fun _ => fun
  | [d1, d2, d3] => { results := [.lit (.bool true)], args := [d1, d2, d3] }
  | _ => none }
def nodeAnewRow : OpenClaim := { program := "ytkfhapidoolfdaagreatdoor", sum := "9643a5853be648427290d039905c1daab28e4fc1ddbf3937823f3a8cb02309d7", func := "sublet/subletlaw18.NodeAnew", spec := "nodeAnew", inPlace := ["internal/bytealg.CountString", "internal/bytealg.IndexByteString", "internal/bytealg.IndexString", "slices.overlaps[sublet/api.Grant]"], unfollowed := true, recurses := true, named := ["unicode/utf8.first", "unicode/utf8.acceptRanges", "internal/bytealg.MaxLen"], plainKeys := false, apart := false, laid := [("unicode/utf8.acceptRanges", laid_unicode_utf8_acceptRanges), ("unicode/utf8.first", laid_unicode_utf8_first)] }
def NodeAnewSaid : Prop := nodeAnewRow.holds Tryz.pinned (OpenSpec.ofChange nodeAnewSpec)

/-- ITS FALSE NEIGHBOUR: 'it returns false'. Refute it at one input. -/
def nodeAnewWrong : ChangeSpec := { name := "nodeAnew", fn := fun _ => fun
  | [d1, d2, d3] => { results := [.lit (.bool false)], args := [d1, d2, d3] }
  | _ => none }
def NodeAnewWrongFalsely : Prop := nodeAnewRow.holds Tryz.pinned (OpenSpec.ofChange nodeAnewWrong)

/- THE SECOND FORM. 'bulk': how many values and letters a reading holds, each counted each time it is reached (what is shared counts as often as it is met; a slice's spare places count too). A statement '..UptoSaid' is the law's where the arguments, and the package variables that the reading takes, are together of bulk at most 1048576: NARROWER than '..Said'. Prove '..Said' where nothing that the law and all that it calls make is longer than what came in: it says more and counts as full. Else prove '..UptoSaid'. A law counts once. -/
mutual
def uptoBulk {H : Type} : DataW H → Nat
  | .lit (.string bytes) => bytes.length + 1
  | .lit _ => 1
  | .nil => 1
  | .ptr d => uptoBulk d + 1
  | .slice elems spare => uptoBulkAll elems + uptoBulkAll spare + 1
  | .agg parts => uptoBulkAll parts + 1
  | .iface _ d => uptoBulk d + 1
  | .map entries => uptoBulkEntries entries + 1
  | .held _ => 1
def uptoBulkAll {H : Type} : List (DataW H) → Nat
  | [] => 0
  | d :: r => uptoBulk d + uptoBulkAll r
def uptoBulkEntries {H : Type} : List (Lit × DataW H) → Nat
  | [] => 0
  | x :: r => uptoBulkEntry x + uptoBulkEntries r
def uptoBulkEntry {H : Type} : Lit × DataW H → Nat
  | (.string bytes, d) => bytes.length + uptoBulk d + 1
  | (_, d) => uptoBulk d + 1
 end
def uptoSmall : (H : Type) → List (DataW H) → Bool := fun _ ds => decide (uptoBulkAll ds ≤ 1048576)
def OpenSpec.upto (s : _root_.Go.ChangeSpec) : _root_.Go.OpenSpec := { _root_.Go.OpenSpec.ofChange s with cond := some uptoSmall }

/-- 'subletlaw18.NodeNames', WHERE WHAT IT READS IS OF BULK AT MOST 1048576: true; the input reads as it did. -/
def nodeNamesUptoRow : OpenClaim := { program := "ytkfhapidoolfdaagreatdoor", sum := "9643a5853be648427290d039905c1daab28e4fc1ddbf3937823f3a8cb02309d7", func := "sublet/subletlaw18.NodeNames", spec := "nodeNames", inPlace := ["internal/bytealg.CountString", "internal/bytealg.IndexByteString", "internal/bytealg.IndexString", "slices.overlaps[sublet/api.Grant]"], unfollowed := true, recurses := true, named := ["unicode/utf8.first", "unicode/utf8.acceptRanges", "internal/bytealg.MaxLen"], plainKeys := false, apart := false, laid := [("unicode/utf8.acceptRanges", laid_unicode_utf8_acceptRanges), ("unicode/utf8.first", laid_unicode_utf8_first)], narrowed := true }
def NodeNamesUptoSaid : Prop := nodeNamesUptoRow.holds Tryz.pinned (OpenSpec.upto nodeNamesSpec)

/-- 'subletlaw18.NodeDeep', WHERE WHAT IT READS IS OF BULK AT MOST 1048576: true; the input reads as it did. -/
def nodeDeepUptoRow : OpenClaim := { program := "ytkfhapidoolfdaagreatdoor", sum := "9643a5853be648427290d039905c1daab28e4fc1ddbf3937823f3a8cb02309d7", func := "sublet/subletlaw18.NodeDeep", spec := "nodeDeep", inPlace := ["internal/bytealg.CountString", "internal/bytealg.IndexByteString", "internal/bytealg.IndexString", "slices.overlaps[sublet/api.Grant]"], unfollowed := true, recurses := true, named := ["unicode/utf8.first", "unicode/utf8.acceptRanges", "internal/bytealg.MaxLen"], plainKeys := false, apart := false, laid := [("unicode/utf8.acceptRanges", laid_unicode_utf8_acceptRanges), ("unicode/utf8.first", laid_unicode_utf8_first)], narrowed := true }
def NodeDeepUptoSaid : Prop := nodeDeepUptoRow.holds Tryz.pinned (OpenSpec.upto nodeDeepSpec)

/-- 'subletlaw18.NodeCascades', WHERE WHAT IT READS IS OF BULK AT MOST 1048576: true; the input reads as it did. -/
def nodeCascadesUptoRow : OpenClaim := { program := "ytkfhapidoolfdaagreatdoor", sum := "9643a5853be648427290d039905c1daab28e4fc1ddbf3937823f3a8cb02309d7", func := "sublet/subletlaw18.NodeCascades", spec := "nodeCascades", inPlace := ["internal/bytealg.CountString", "internal/bytealg.IndexByteString", "internal/bytealg.IndexString", "slices.overlaps[sublet/api.Grant]"], unfollowed := true, recurses := true, named := ["unicode/utf8.first", "unicode/utf8.acceptRanges", "internal/bytealg.MaxLen"], plainKeys := false, apart := false, laid := [("unicode/utf8.acceptRanges", laid_unicode_utf8_acceptRanges), ("unicode/utf8.first", laid_unicode_utf8_first)], narrowed := true }
def NodeCascadesUptoSaid : Prop := nodeCascadesUptoRow.holds Tryz.pinned (OpenSpec.upto nodeCascadesSpec)

/-- 'subletlaw18.NodeUses', WHERE WHAT IT READS IS OF BULK AT MOST 1048576: true; the input reads as it did. -/
def nodeUsesUptoRow : OpenClaim := { program := "ytkfhapidoolfdaagreatdoor", sum := "9643a5853be648427290d039905c1daab28e4fc1ddbf3937823f3a8cb02309d7", func := "sublet/subletlaw18.NodeUses", spec := "nodeUses", inPlace := ["internal/bytealg.CountString", "internal/bytealg.IndexByteString", "internal/bytealg.IndexString", "slices.overlaps[sublet/api.Grant]"], unfollowed := true, recurses := true, named := ["unicode/utf8.first", "unicode/utf8.acceptRanges", "internal/bytealg.MaxLen"], plainKeys := false, apart := false, laid := [("unicode/utf8.acceptRanges", laid_unicode_utf8_acceptRanges), ("unicode/utf8.first", laid_unicode_utf8_first)], narrowed := true }
def NodeUsesUptoSaid : Prop := nodeUsesUptoRow.holds Tryz.pinned (OpenSpec.upto nodeUsesSpec)

/-- 'subletlaw18.NodeLate', WHERE WHAT IT READS IS OF BULK AT MOST 1048576: true; the input reads as it did. -/
def nodeLateUptoRow : OpenClaim := { program := "ytkfhapidoolfdaagreatdoor", sum := "9643a5853be648427290d039905c1daab28e4fc1ddbf3937823f3a8cb02309d7", func := "sublet/subletlaw18.NodeLate", spec := "nodeLate", inPlace := ["internal/bytealg.CountString", "internal/bytealg.IndexByteString", "internal/bytealg.IndexString", "slices.overlaps[sublet/api.Grant]"], unfollowed := true, recurses := true, named := ["unicode/utf8.first", "unicode/utf8.acceptRanges", "internal/bytealg.MaxLen"], plainKeys := false, apart := false, laid := [("unicode/utf8.acceptRanges", laid_unicode_utf8_acceptRanges), ("unicode/utf8.first", laid_unicode_utf8_first)], narrowed := true }
def NodeLateUptoSaid : Prop := nodeLateUptoRow.holds Tryz.pinned (OpenSpec.upto nodeLateSpec)

/-- 'subletlaw18.NodeOwn', WHERE WHAT IT READS IS OF BULK AT MOST 1048576: true; the input reads as it did. -/
def nodeOwnUptoRow : OpenClaim := { program := "ytkfhapidoolfdaagreatdoor", sum := "9643a5853be648427290d039905c1daab28e4fc1ddbf3937823f3a8cb02309d7", func := "sublet/subletlaw18.NodeOwn", spec := "nodeOwn", inPlace := ["internal/bytealg.CountString", "internal/bytealg.IndexByteString", "internal/bytealg.IndexString", "slices.overlaps[sublet/api.Grant]"], unfollowed := true, recurses := true, named := ["unicode/utf8.first", "unicode/utf8.acceptRanges", "internal/bytealg.MaxLen"], plainKeys := false, apart := false, laid := [("unicode/utf8.acceptRanges", laid_unicode_utf8_acceptRanges), ("unicode/utf8.first", laid_unicode_utf8_first)], narrowed := true }
def NodeOwnUptoSaid : Prop := nodeOwnUptoRow.holds Tryz.pinned (OpenSpec.upto nodeOwnSpec)

/-- 'subletlaw18.NodeAnew', WHERE WHAT IT READS IS OF BULK AT MOST 1048576: true; the input reads as it did. -/
def nodeAnewUptoRow : OpenClaim := { program := "ytkfhapidoolfdaagreatdoor", sum := "9643a5853be648427290d039905c1daab28e4fc1ddbf3937823f3a8cb02309d7", func := "sublet/subletlaw18.NodeAnew", spec := "nodeAnew", inPlace := ["internal/bytealg.CountString", "internal/bytealg.IndexByteString", "internal/bytealg.IndexString", "slices.overlaps[sublet/api.Grant]"], unfollowed := true, recurses := true, named := ["unicode/utf8.first", "unicode/utf8.acceptRanges", "internal/bytealg.MaxLen"], plainKeys := false, apart := false, laid := [("unicode/utf8.acceptRanges", laid_unicode_utf8_acceptRanges), ("unicode/utf8.first", laid_unicode_utf8_first)], narrowed := true }
def NodeAnewUptoSaid : Prop := nodeAnewUptoRow.holds Tryz.pinned (OpenSpec.upto nodeAnewSpec)

end Rows
end Go.Proofs.YtkfhapidoolfdaaGreatDoor
