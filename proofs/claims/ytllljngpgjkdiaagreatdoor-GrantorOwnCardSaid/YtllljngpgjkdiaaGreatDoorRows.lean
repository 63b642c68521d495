/-
  NARROWER THAN 'FOR EVERY INPUT', by the rows' own cells (each row's printed sentence says how): GrantorNames: laid · GrantorOwn: laid · GrantorNests: laid · GrantorRests: laid · GrantorGives: laid · GrantorApart: laid · GrantorHeld: laid.
  DERIVED. THE GIVEN ROWS OF THIS SEAT. 7 by the template 'for every input the law returns true; each argument reads behind the call as it read before'; 0 by the template 'total and deterministic' (their statements: YtllljngpgjkdiaaGreatDoorTotals.lean).
  GIVEN WITH THE SEED: the statements are not yours to turn. If you find one false, say at which input.
  Laid BY PROGRAM, IN A SANDBOX (cutbox-rows.mjs): the forced cells as the released guide's own fill.sh prints them over the translation 122847bbca365b56… (all of the seat's roots in one cut). By AI agents, Wed Nov 11 2026. No macro, syntax, notation, axiom, sorry.
-/
import Derived.Test.YtllljngpgjkdiaaGreatDoorChecked
import GoSem.PinnedTables
import GoSem.Claim
import GoSem.ClaimJoined
import GoSem.ClaimMapViews
import Derived.JoinedTies
import Derived.KernelRfl
namespace Go.Proofs.YtllljngpgjkdiaaGreatDoor
/- THE CELL 'sum', in the pinned program and in every row, IS THE sha256 OF THE DUMP (.gsa) THAT YtllljngpgjkdiaaGreatDoorProg.lean LOADS. Nothing in Lean hashes anything: it is a label: what it is worth is what the hold of that sum in a sandbox is worth. -/
noncomputable def Tryz.pinned : Pinned := { name := "ytllljngpgjkdiaagreatdoor", sum := "122847bbca365b56568a8fecb6b61ffd7a3eeb0b00dd7c243bbd4a9368c32638", checked := Tryz.checked }
namespace Rows
def none {H : Type} : Left H := { results := [], args := [] }

/- WHAT THE LISTED PACKAGE-LEVEL VARIABLES READ AS WHEN THE CALL BEGINS. Each datum BY PROGRAM (the guide's laid-datum.mjs) off the statement by which the dump's own 'gosem.cut.vars' lays the variable. In a bare row this is a premise. The card (YtllljngpgjkdiaaGreatDoorCards.lean) ties it to the program's text. -/
def laid_unicode_utf8_acceptRanges {H : Type} : DataW H := .agg [.agg [.lit (.int .u8 128), .lit (.int .u8 191)], .agg [.lit (.int .u8 160), .lit (.int .u8 191)], .agg [.lit (.int .u8 128), .lit (.int .u8 159)], .agg [.lit (.int .u8 144), .lit (.int .u8 191)], .agg [.lit (.int .u8 128), .lit (.int .u8 143)], .agg [.lit (.int .u8 0), .lit (.int .u8 0)], .agg [.lit (.int .u8 0), .lit (.int .u8 0)], .agg [.lit (.int .u8 0), .lit (.int .u8 0)], .agg [.lit (.int .u8 0), .lit (.int .u8 0)], .agg [.lit (.int .u8 0), .lit (.int .u8 0)], .agg [.lit (.int .u8 0), .lit (.int .u8 0)], .agg [.lit (.int .u8 0), .lit (.int .u8 0)], .agg [.lit (.int .u8 0), .lit (.int .u8 0)], .agg [.lit (.int .u8 0), .lit (.int .u8 0)], .agg [.lit (.int .u8 0), .lit (.int .u8 0)], .agg [.lit (.int .u8 0), .lit (.int .u8 0)]]
/-- One of Go's own tables, pinned by name: the form's constant. -/
def laid_unicode_utf8_first : DataW Unit := Go.Pinned.utf8First

/-- 'subletlaw16.GrantorNames': WHATEVER THE INPUT: true; the input reads as it did. -/
def grantorNamesSpec : ChangeSpec := { name := "grantorNames", fn := fun _ => fun
  | [] => { results := [.lit (.bool true)], args := [] }
  | _ => none }
def grantorNamesRow : OpenClaim := { program := "ytllljngpgjkdiaagreatdoor", sum := "122847bbca365b56568a8fecb6b61ffd7a3eeb0b00dd7c243bbd4a9368c32638", func := "sublet/subletlaw16.GrantorNames", spec := "grantorNames", inPlace := ["internal/bytealg.CountString", "internal/bytealg.IndexByteString", "internal/bytealg.IndexString", "slices.overlaps[sublet/api.Grant]"], unfollowed := true, recurses := true, named := ["internal/bytealg.MaxLen", "unicode/utf8.first", "unicode/utf8.acceptRanges"], apart := false, laid := [("unicode/utf8.acceptRanges", laid_unicode_utf8_acceptRanges), ("unicode/utf8.first", laid_unicode_utf8_first)] }
def GrantorNamesSaid : Prop := grantorNamesRow.holds Tryz.pinned (OpenSpec.ofChange grantorNamesSpec)

/-- ITS FALSE NEIGHBOUR: 'it returns false'. Refute it at one input. -/
def grantorNamesWrong : ChangeSpec := { name := "grantorNames", fn := fun _ => fun
  | [] => { results := [.lit (.bool false)], args := [] }
  | _ => none }
def GrantorNamesWrongFalsely : Prop := grantorNamesRow.holds Tryz.pinned (OpenSpec.ofChange grantorNamesWrong)

/-- 'subletlaw16.GrantorOwn': WHATEVER THE INPUT: true; the input reads as it did. -/
def grantorOwnSpec : ChangeSpec := { name := "grantorOwn", fn := fun _ => fun
  | [d] => { results := [.lit (.bool true)], args := [d] }
  | _ => none }
def grantorOwnRow : OpenClaim := { program := "ytllljngpgjkdiaagreatdoor", sum := "122847bbca365b56568a8fecb6b61ffd7a3eeb0b00dd7c243bbd4a9368c32638", func := "sublet/subletlaw16.GrantorOwn", spec := "grantorOwn", inPlace := ["internal/bytealg.CountString", "internal/bytealg.IndexByteString", "internal/bytealg.IndexString", "slices.overlaps[sublet/api.Grant]"], unfollowed := true, recurses := true, named := ["unicode/utf8.first", "unicode/utf8.acceptRanges", "internal/bytealg.MaxLen"], apart := false, laid := [("unicode/utf8.acceptRanges", laid_unicode_utf8_acceptRanges), ("unicode/utf8.first", laid_unicode_utf8_first)] }
def GrantorOwnSaid : Prop := grantorOwnRow.holds Tryz.pinned (OpenSpec.ofChange grantorOwnSpec)

/-- ITS FALSE NEIGHBOUR: 'it returns false'. Refute it at one input. -/
def grantorOwnWrong : ChangeSpec := { name := "grantorOwn", fn := fun _ => fun
  | [d] => { results := [.lit (.bool false)], args := [d] }
  | _ => none }
def GrantorOwnWrongFalsely : Prop := grantorOwnRow.holds Tryz.pinned (OpenSpec.ofChange grantorOwnWrong)

/-- 'subletlaw16.GrantorNests': WHATEVER THE INPUT: true; the input reads as it did. -/
def grantorNestsSpec : ChangeSpec := { name := "grantorNests", fn := fun _ => fun
  | [d] => { results := [.lit (.bool true)], args := [d] }
  | _ => none }
def grantorNestsRow : OpenClaim := { program := "ytllljngpgjkdiaagreatdoor", sum := "122847bbca365b56568a8fecb6b61ffd7a3eeb0b00dd7c243bbd4a9368c32638", func := "sublet/subletlaw16.GrantorNests", spec := "grantorNests", inPlace := ["internal/bytealg.CountString", "internal/bytealg.IndexByteString", "internal/bytealg.IndexString", "slices.overlaps[sublet/api.Grant]"], unfollowed := true, recurses := true, named := ["unicode/utf8.first", "unicode/utf8.acceptRanges", "internal/bytealg.MaxLen"], apart := false, laid := [("unicode/utf8.acceptRanges", laid_unicode_utf8_acceptRanges), ("unicode/utf8.first", laid_unicode_utf8_first)] }
def GrantorNestsSaid : Prop := grantorNestsRow.holds Tryz.pinned (OpenSpec.ofChange grantorNestsSpec)

/-- ITS FALSE NEIGHBOUR: 'it returns false'. Refute it at one input. -/
def grantorNestsWrong : ChangeSpec := { name := "grantorNests", fn := fun _ => fun
  | [d] => { results := [.lit (.bool false)], args := [d] }
  | _ => none }
def GrantorNestsWrongFalsely : Prop := grantorNestsRow.holds Tryz.pinned (OpenSpec.ofChange grantorNestsWrong)

/-- 'subletlaw16.GrantorRests': WHATEVER THE INPUT: true; the input reads as it did. -/
def grantorRestsSpec : ChangeSpec := { name := "grantorRests", fn := fun _ => fun
  | [d1, d2, d3] => { results := [.lit (.bool true)], args := [d1, d2, d3] }
  | _ => none }
def grantorRestsRow : OpenClaim := { program := "ytllljngpgjkdiaagreatdoor", sum := "122847bbca365b56568a8fecb6b61ffd7a3eeb0b00dd7c243bbd4a9368c32638", func := "sublet/subletlaw16.GrantorRests", spec := "grantorRests", inPlace := ["internal/bytealg.CountString", "internal/bytealg.IndexByteString", "internal/bytealg.IndexString", "slices.overlaps[sublet/api.Grant]"], unfollowed := true, recurses := true, named := ["unicode/utf8.first", "unicode/utf8.acceptRanges", "internal/bytealg.MaxLen"], apart := false, laid := [("unicode/utf8.acceptRanges", laid_unicode_utf8_acceptRanges), ("unicode/utf8.first", laid_unicode_utf8_first)] }
def GrantorRestsSaid : Prop := grantorRestsRow.holds Tryz.pinned (OpenSpec.ofChange grantorRestsSpec)

/-- ITS FALSE NEIGHBOUR: 'it returns false'. Refute it at one input. -/
def grantorRestsWrong : ChangeSpec := { name := "grantorRests", fn := fun _ => fun
  | [d1, d2, d3] => { results := [.lit (.bool false)], args := [d1, d2, d3] }
  | _ => none }
def GrantorRestsWrongFalsely : Prop := grantorRestsRow.holds Tryz.pinned (OpenSpec.ofChange grantorRestsWrong)

/-- 'subletlaw16.GrantorGives': WHATEVER THE INPUT: true; the input reads as it did. -/
def grantorGivesSpec : ChangeSpec := { name := "grantorGives", fn := fun _ => fun
  | [d1, d2] => { results := [.lit (.bool true)], args := [d1, d2] }
  | _ => none }
def grantorGivesRow : OpenClaim := { program := "ytllljngpgjkdiaagreatdoor", sum := "122847bbca365b56568a8fecb6b61ffd7a3eeb0b00dd7c243bbd4a9368c32638", func := "sublet/subletlaw16.GrantorGives", spec := "grantorGives", inPlace := ["internal/bytealg.CountString", "internal/bytealg.IndexByteString", "internal/bytealg.IndexString", "slices.overlaps[sublet/api.Grant]"], unfollowed := true, recurses := true, named := ["unicode/utf8.first", "unicode/utf8.acceptRanges", "internal/bytealg.MaxLen"], apart := false, laid := [("unicode/utf8.acceptRanges", laid_unicode_utf8_acceptRanges), ("unicode/utf8.first", laid_unicode_utf8_first)] }
def GrantorGivesSaid : Prop := grantorGivesRow.holds Tryz.pinned (OpenSpec.ofChange grantorGivesSpec)

/-- ITS FALSE NEIGHBOUR: 'it returns false'. Refute it at one input. -/
def grantorGivesWrong : ChangeSpec := { name := "grantorGives", fn := fun _ => fun
  | [d1, d2] => { results := [.lit (.bool false)], args := [d1, d2] }
  | _ => none }
def GrantorGivesWrongFalsely : Prop := grantorGivesRow.holds Tryz.pinned (OpenSpec.ofChange grantorGivesWrong)

/-- 'subletlaw16.GrantorApart': WHATEVER THE INPUT: true; the input reads as it did. -/
def grantorApartSpec : ChangeSpec := { name := "grantorApart", fn := fun _ => fun
  | [d] => { results := [.lit (.bool true)], args := [d] }
  | _ => none }
def grantorApartRow : OpenClaim := { program := "ytllljngpgjkdiaagreatdoor", sum := "122847bbca365b56568a8fecb6b61ffd7a3eeb0b00dd7c243bbd4a9368c32638", func := "sublet/subletlaw16.GrantorApart", spec := "grantorApart", inPlace := ["internal/bytealg.CountString", "internal/bytealg.IndexByteString", "internal/bytealg.IndexString", "slices.overlaps[sublet/api.Grant]"], unfollowed := true, recurses := true, named := ["unicode/utf8.first", "unicode/utf8.acceptRanges", "internal/bytealg.MaxLen"], apart := false, laid := [("unicode/utf8.acceptRanges", laid_unicode_utf8_acceptRanges), ("unicode/utf8.first", laid_unicode_utf8_first)] }
def GrantorApartSaid : Prop := grantorApartRow.holds Tryz.pinned (OpenSpec.ofChange grantorApartSpec)

/-- ITS FALSE NEIGHBOUR: 'it returns false'. Refute it at one input. -/
def grantorApartWrong : ChangeSpec := { name := "grantorApart", fn := fun _ => fun
  | [d] => { results := [.lit (.bool false)], args := [d] }
  | _ => none }
def GrantorApartWrongFalsely : Prop := grantorApartRow.holds Tryz.pinned (OpenSpec.ofChange grantorApartWrong)

/-- 'subletlaw16.GrantorHeld': WHATEVER THE INPUT: true; the input reads as it did. -/
def grantorHeldSpec : ChangeSpec := { name := "grantorHeld", fn := fun _ => fun
  | [d1, d2] => { results := [.lit (.bool true)], args := [d1, d2] }
  | _ => none }
def grantorHeldRow : OpenClaim := { program := "ytllljngpgjkdiaagreatdoor", sum := "122847bbca365b56568a8fecb6b61ffd7a3eeb0b00dd7c243bbd4a9368c32638", func := "sublet/subletlaw16.GrantorHeld", spec := "grantorHeld", inPlace := ["internal/bytealg.CountString", "internal/bytealg.IndexByteString", "internal/bytealg.IndexString", "slices.overlaps[sublet/api.Grant]"], unfollowed := true, recurses := true, named := ["unicode/utf8.first", "unicode/utf8.acceptRanges", "internal/bytealg.MaxLen"], apart := false, laid := [("unicode/utf8.acceptRanges", laid_unicode_utf8_acceptRanges), ("unicode/utf8.first", laid_unicode_utf8_first)] }
def GrantorHeldSaid : Prop := grantorHeldRow.holds Tryz.pinned (OpenSpec.ofChange grantorHeldSpec)

/-- ITS FALSE NEIGHBOUR: 'it returns false'. Refute it at one input. -/
def grantorHeldWrong : ChangeSpec := { name := "grantorHeld", fn := fun _ => fun
  | [d1, d2] => { results := [.lit (.bool false)], args := [d1, d2] }
  | _ => none }
def GrantorHeldWrongFalsely : Prop := grantorHeldRow.holds Tryz.pinned (OpenSpec.ofChange grantorHeldWrong)

/- THE SECOND FORM. 'bulk': how many values and letters a reading holds, each counted each time it is reached (what is shared counts as often as it is met; a slice's spare places count too). A statement '..UptoSaid' is the law's where the arguments, and the package variables that the reading takes, are together of bulk at most 1048576: NARROWER than '..Said'. Prove '..Said' where nothing that the law and all that it calls make is longer than what came in: it says more and counts as full. Else prove '..UptoSaid'. A law counts once. -/
mutual
def uptoBulk {H : Type} : DataW H → Nat
  | .lit (.string bytes) => bytes.length + 1
  | .lit _ => 1
  | .nil => 1
  | .ptr d => uptoBulk d + 1
  | .slice elems spare => uptoBulkAll elems + uptoBulkAll spare + 1
  | .agg parts => uptoBulkAll parts + 1
  | .iface _ d => uptoBulk d + 1
  | .map entries => uptoBulkEntries entries + 1
  | .held _ => 1
def uptoBulkAll {H : Type} : List (DataW H) → Nat
  | [] => 0
  | d :: r => uptoBulk d + uptoBulkAll r
def uptoBulkEntries {H : Type} : List (Lit × DataW H) → Nat
  | [] => 0
  | x :: r => uptoBulkEntry x + uptoBulkEntries r
def uptoBulkEntry {H : Type} : Lit × DataW H → Nat
  | (.string bytes, d) => bytes.length + uptoBulk d + 1
  | (_, d) => uptoBulk d + 1
 end
def uptoSmall : (H : Type) → List (DataW H) → Bool := fun _ ds => decide (uptoBulkAll ds ≤ 1048576)
def OpenSpec.upto (s : _root_.Go.ChangeSpec) : _root_.Go.OpenSpec := { _root_.Go.OpenSpec.ofChange s with cond := some uptoSmall }

/-- 'subletlaw16.GrantorNames', WHERE WHAT IT READS IS OF BULK AT MOST 1048576: true; the input reads as it did. -/
def grantorNamesUptoRow : OpenClaim := { program := "ytllljngpgjkdiaagreatdoor", sum := "122847bbca365b56568a8fecb6b61ffd7a3eeb0b00dd7c243bbd4a9368c32638", func := "sublet/subletlaw16.GrantorNames", spec := "grantorNames", inPlace := ["internal/bytealg.CountString", "internal/bytealg.IndexByteString", "internal/bytealg.IndexString", "slices.overlaps[sublet/api.Grant]"], unfollowed := true, recurses := true, named := ["internal/bytealg.MaxLen", "unicode/utf8.first", "unicode/utf8.acceptRanges"], apart := false, laid := [("unicode/utf8.acceptRanges", laid_unicode_utf8_acceptRanges), ("unicode/utf8.first", laid_unicode_utf8_first)], narrowed := true }
def GrantorNamesUptoSaid : Prop := grantorNamesUptoRow.holds Tryz.pinned (OpenSpec.upto grantorNamesSpec)

/-- 'subletlaw16.GrantorOwn', WHERE WHAT IT READS IS OF BULK AT MOST 1048576: true; the input reads as it did. -/
def grantorOwnUptoRow : OpenClaim := { program := "ytllljngpgjkdiaagreatdoor", sum := "122847bbca365b56568a8fecb6b61ffd7a3eeb0b00dd7c243bbd4a9368c32638", func := "sublet/subletlaw16.GrantorOwn", spec := "grantorOwn", inPlace := ["internal/bytealg.CountString", "internal/bytealg.IndexByteString", "internal/bytealg.IndexString", "slices.overlaps[sublet/api.Grant]"], unfollowed := true, recurses := true, named := ["unicode/utf8.first", "unicode/utf8.acceptRanges", "internal/bytealg.MaxLen"], apart := false, laid := [("unicode/utf8.acceptRanges", laid_unicode_utf8_acceptRanges), ("unicode/utf8.first", laid_unicode_utf8_first)], narrowed := true }
def GrantorOwnUptoSaid : Prop := grantorOwnUptoRow.holds Tryz.pinned (OpenSpec.upto grantorOwnSpec)

/-- 'subletlaw16.GrantorNests', WHERE WHAT IT READS IS OF BULK AT MOST 1048576: true; the input reads as it did. -/
def grantorNestsUptoRow : OpenClaim := { program := "ytllljngpgjkdiaagreatdoor", sum := "122847bbca365b56568a8fecb6b61ffd7a3eeb0b00dd7c243bbd4a9368c32638", func := "sublet/subletlaw16.GrantorNests", spec := "grantorNests", inPlace := ["internal/bytealg.CountString", "internal/bytealg.IndexByteString", "internal/bytealg.IndexString", "slices.overlaps[sublet/api.Grant]"], unfollowed := true, recurses := true, named := ["unicode/utf8.first", "unicode/utf8.acceptRanges", "internal/bytealg.MaxLen"], apart := false, laid := [("unicode/utf8.acceptRanges", laid_unicode_utf8_acceptRanges), ("unicode/utf8.first", laid_unicode_utf8_first)], narrowed := true }
def GrantorNestsUptoSaid : Prop := grantorNestsUptoRow.holds Tryz.pinned (OpenSpec.upto grantorNestsSpec)

/-- 'subletlaw16.GrantorRests', WHERE WHAT IT READS IS OF BULK AT MOST 1048576: true; the input reads as it did. -/
def grantorRestsUptoRow : OpenClaim := { program := "ytllljngpgjkdiaagreatdoor", sum := "122847bbca365b56568a8fecb6b61ffd7a3eeb0b00dd7c243bbd4a9368c32638", func := "sublet/subletlaw16.GrantorRests", spec := "grantorRests", inPlace := ["internal/bytealg.CountString", "internal/bytealg.IndexByteString", "internal/bytealg.IndexString", "slices.overlaps[sublet/api.Grant]"], unfollowed := true, recurses := true, named := ["unicode/utf8.first", "unicode/utf8.acceptRanges", "internal/bytealg.MaxLen"], apart := false, laid := [("unicode/utf8.acceptRanges", laid_unicode_utf8_acceptRanges), ("unicode/utf8.first", laid_unicode_utf8_first)], narrowed := true }
def GrantorRestsUptoSaid : Prop := grantorRestsUptoRow.holds Tryz.pinned (OpenSpec.upto grantorRestsSpec)

/-- 'subletlaw16.GrantorGives', WHERE WHAT IT READS IS OF BULK AT MOST 1048576: true; the input reads as it did. -/
def grantorGivesUptoRow : OpenClaim := { program := "ytllljngpgjkdiaagreatdoor", sum := "122847bbca365b56568a8fecb6b61ffd7a3eeb0b00dd7c243bbd4a9368c32638", func := "sublet/subletlaw16.GrantorGives", spec := "grantorGives", inPlace := ["internal/bytealg.CountString", "internal/bytealg.IndexByteString", "internal/bytealg.IndexString", "slices.overlaps[sublet/api.Grant]"], unfollowed := true, recurses := true, named := ["unicode/utf8.first", "unicode/utf8.acceptRanges", "internal/bytealg.MaxLen"], apart := false, laid := [("unicode/utf8.acceptRanges", laid_unicode_utf8_acceptRanges), ("unicode/utf8.first", laid_unicode_utf8_first)], narrowed := true }
def GrantorGivesUptoSaid : Prop := grantorGivesUptoRow.holds Tryz.pinned (OpenSpec.upto grantorGivesSpec)

/-- 'subletlaw16.GrantorApart', WHERE WHAT IT READS IS OF BULK AT MOST 1048576: true; the input reads as it did. -/
def grantorApartUptoRow : OpenClaim := { program := "ytllljngpgjkdiaagreatdoor", sum := "122847bbca365b56568a8fecb6b61ffd7a3eeb0b00dd7c243bbd4a9368c32638", func := "sublet/subletlaw16.GrantorApart", spec := "grantorApart", inPlace := ["internal/bytealg.CountString", "internal/bytealg.IndexByteString", "internal/bytealg.IndexString", "slices.overlaps[sublet/api.Grant]"], unfollowed := true, recurses := true, named := ["unicode/utf8.first", "unicode/utf8.acceptRanges", "internal/bytealg.MaxLen"], apart := false, laid := [("unicode/utf8.acceptRanges", laid_unicode_utf8_acceptRanges), ("unicode/utf8.first", laid_unicode_utf8_first)], narrowed := true }
def GrantorApartUptoSaid : Prop := grantorApartUptoRow.holds Tryz.pinned (OpenSpec.upto grantorApartSpec)

/-- 'subletlaw16.GrantorHeld', WHERE WHAT IT READS IS OF BULK AT MOST 1048576: true; the input reads as it did. -/
def grantorHeldUptoRow : OpenClaim := { program := "ytllljngpgjkdiaagreatdoor", sum := "122847bbca365b56568a8fecb6b61ffd7a3eeb0b00dd7c243bbd4a9368c32638", func := "sublet/subletlaw16.GrantorHeld", spec := "grantorHeld", inPlace := ["internal/bytealg.CountString", "internal/bytealg.IndexByteString", "internal/bytealg.IndexString", "slices.overlaps[sublet/api.Grant]"], unfollowed := true, recurses := true, named := ["unicode/utf8.first", "unicode/utf8.acceptRanges", "internal/bytealg.MaxLen"], apart := false, laid := [("unicode/utf8.acceptRanges", laid_unicode_utf8_acceptRanges), ("unicode/utf8.first", laid_unicode_utf8_first)], narrowed := true }
def GrantorHeldUptoSaid : Prop := grantorHeldUptoRow.holds Tryz.pinned (OpenSpec.upto grantorHeldSpec)

end Rows
end Go.Proofs.YtllljngpgjkdiaaGreatDoor
