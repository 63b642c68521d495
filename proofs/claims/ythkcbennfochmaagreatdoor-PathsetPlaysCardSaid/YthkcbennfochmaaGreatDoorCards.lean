/-
  DERIVED. GIVEN WITH THE SEED: THE CARDS: each row of YthkcbennfochmaaGreatDoorRows.lean that lists a variable, with what it lists TIED to the program's text (the seventh form; the later family's looks); each row that meets fmt, with fmt's text TOLD by the authors' own Lean function (tested against real Go, not proved from fmt's source: count such statements apart). THE CARD IS WHAT COUNTS. Prove the row's statement (the work); the ties are given (YthkcbennfochmaaGreatDoorTie.lean); close each card by the builder's one call (the guide's Derived/Test/ToyasCard.lean, 'card_holds'). Laid BY PROGRAM, IN A SANDBOX (cutbox-door.mjs). By AI agents, Wed Nov 11 2026. No macro, syntax, notation, axiom, sorry.
-/
import Derived.Test.YthkcbennfochmaaGreatDoorRows
import GoSem.ClaimSeven
namespace Go.Proofs.YthkcbennfochmaaGreatDoor
namespace Rows

/-- THE TIED CARD OF 'subletlaw05.PathsetPlays'. -/
def pathsetPlaysCard : Claim7 := { stood := { row := pathsetPlaysRow, standIns := [], harness := (true, "4af2614af1fef83d9f3450c9b8e8af367d818e7da2551e12bb1998db11704cb4"), looks := false }, kinds := [], alts := [], laidByText := true, laidKinds := [.data, .pinned], laidTests := true, laidLooks := .later }
def PathsetPlaysCardSaid : Prop := Claim7.holds Tryz.pinned (.plain (OpenSpec.ofChange pathsetPlaysSpec)) pathsetPlaysCard

/-- THE SECOND FORM's CARD OF 'subletlaw05.PathsetPlays'. -/
def pathsetPlaysUptoCard : Claim7 := { stood := { row := pathsetPlaysUptoRow, standIns := [], harness := (true, "4af2614af1fef83d9f3450c9b8e8af367d818e7da2551e12bb1998db11704cb4"), looks := false }, kinds := [], alts := [], laidByText := true, laidKinds := [.data, .pinned], laidTests := true, laidLooks := .later }
def PathsetPlaysUptoCardSaid : Prop := Claim7.holds Tryz.pinned (.plain (OpenSpec.upto pathsetPlaysSpec)) pathsetPlaysUptoCard
end Rows
end Go.Proofs.YthkcbennfochmaaGreatDoor
