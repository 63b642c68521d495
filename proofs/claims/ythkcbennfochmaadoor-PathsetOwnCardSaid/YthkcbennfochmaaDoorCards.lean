/-
  DERIVED. GIVEN WITH THE SEED: THE CARDS: each row of YthkcbennfochmaaDoorRows.lean that lists a variable, with what it lists TIED to the program's text (the seventh form; the later family's looks); each row that meets fmt, with fmt's text TOLD by the authors' own Lean function (tested against real Go, not proved from fmt's source: count such statements apart). THE CARD IS WHAT COUNTS. Prove the row's statement (the work); the ties are given (YthkcbennfochmaaDoorTie.lean); close each card by the builder's one call (the guide's Derived/Test/ToyasCard.lean, 'card_holds'). Laid BY PROGRAM, IN A SANDBOX (cutbox-door.mjs). By AI agents, Wed Nov 11 2026. No macro, syntax, notation, axiom, sorry.
-/
import Derived.Test.YthkcbennfochmaaDoorRows
import GoSem.ClaimSeven
namespace Go.Proofs.YthkcbennfochmaaDoor
namespace Rows

/-- THE TIED CARD OF 'subletlaw05.PathsetNames'. -/
def pathsetNamesCard : Claim7 := { stood := { row := pathsetNamesRow, standIns := [], harness := (true, "09bac8be26a3d404d43d597e0b581cca0b536e31300cd0fa48cd5e4c3a587b71"), looks := false }, kinds := [], alts := [], laidByText := true, laidKinds := [.data, .pinned], laidTests := true, laidLooks := .later }
def PathsetNamesCardSaid : Prop := Claim7.holds Tryd.pinned (.plain (OpenSpec.ofChange pathsetNamesSpec)) pathsetNamesCard

/-- THE TIED CARD OF 'subletlaw05.PathsetTurned'. -/
def pathsetTurnedCard : Claim7 := { stood := { row := pathsetTurnedRow, standIns := [], harness := (true, "09bac8be26a3d404d43d597e0b581cca0b536e31300cd0fa48cd5e4c3a587b71"), looks := false }, kinds := [], alts := [], laidByText := true, laidKinds := [.data, .pinned], laidTests := true, laidLooks := .later }
def PathsetTurnedCardSaid : Prop := Claim7.holds Tryd.pinned (.plain (OpenSpec.ofChange pathsetTurnedSpec)) pathsetTurnedCard

/-- THE TIED CARD OF 'subletlaw05.PathsetNil'. -/
def pathsetNilCard : Claim7 := { stood := { row := pathsetNilRow, standIns := [], harness := (true, "09bac8be26a3d404d43d597e0b581cca0b536e31300cd0fa48cd5e4c3a587b71"), looks := false }, kinds := [], alts := [], laidByText := true, laidKinds := [.data, .pinned], laidTests := true, laidLooks := .later }
def PathsetNilCardSaid : Prop := Claim7.holds Tryd.pinned (.plain (OpenSpec.ofChange pathsetNilSpec)) pathsetNilCard

/-- THE TIED CARD OF 'subletlaw05.PathsetOwn'. -/
def pathsetOwnCard : Claim7 := { stood := { row := pathsetOwnRow, standIns := [], harness := (true, "09bac8be26a3d404d43d597e0b581cca0b536e31300cd0fa48cd5e4c3a587b71"), looks := false }, kinds := [], alts := [], laidByText := true, laidKinds := [.data, .pinned], laidTests := true, laidLooks := .later }
def PathsetOwnCardSaid : Prop := Claim7.holds Tryd.pinned (.plain (OpenSpec.ofChange pathsetOwnSpec)) pathsetOwnCard

/-- THE TIED CARD OF 'subletlaw05.PathsetKinds'. -/
def pathsetKindsCard : Claim7 := { stood := { row := pathsetKindsRow, standIns := [], harness := (true, "09bac8be26a3d404d43d597e0b581cca0b536e31300cd0fa48cd5e4c3a587b71"), looks := false }, kinds := [], alts := [], laidByText := true, laidKinds := [.data, .pinned], laidTests := true, laidLooks := .later }
def PathsetKindsCardSaid : Prop := Claim7.holds Tryd.pinned (.plain (OpenSpec.ofChange pathsetKindsSpec)) pathsetKindsCard

/-- THE TIED CARD OF 'subletlaw05.PathsetFree'. -/
def pathsetFreeCard : Claim7 := { stood := { row := pathsetFreeRow, standIns := [], harness := (true, "09bac8be26a3d404d43d597e0b581cca0b536e31300cd0fa48cd5e4c3a587b71"), looks := false }, kinds := [], alts := [], laidByText := true, laidKinds := [.data, .pinned], laidTests := true, laidLooks := .later }
def PathsetFreeCardSaid : Prop := Claim7.holds Tryd.pinned (.plain (OpenSpec.ofChange pathsetFreeSpec)) pathsetFreeCard

/-- THE SECOND FORM's CARD OF 'subletlaw05.PathsetNames'. -/
def pathsetNamesUptoCard : Claim7 := { stood := { row := pathsetNamesUptoRow, standIns := [], harness := (true, "09bac8be26a3d404d43d597e0b581cca0b536e31300cd0fa48cd5e4c3a587b71"), looks := false }, kinds := [], alts := [], laidByText := true, laidKinds := [.data, .pinned], laidTests := true, laidLooks := .later }
def PathsetNamesUptoCardSaid : Prop := Claim7.holds Tryd.pinned (.plain (OpenSpec.upto pathsetNamesSpec)) pathsetNamesUptoCard

/-- THE SECOND FORM's CARD OF 'subletlaw05.PathsetTurned'. -/
def pathsetTurnedUptoCard : Claim7 := { stood := { row := pathsetTurnedUptoRow, standIns := [], harness := (true, "09bac8be26a3d404d43d597e0b581cca0b536e31300cd0fa48cd5e4c3a587b71"), looks := false }, kinds := [], alts := [], laidByText := true, laidKinds := [.data, .pinned], laidTests := true, laidLooks := .later }
def PathsetTurnedUptoCardSaid : Prop := Claim7.holds Tryd.pinned (.plain (OpenSpec.upto pathsetTurnedSpec)) pathsetTurnedUptoCard

/-- THE SECOND FORM's CARD OF 'subletlaw05.PathsetNil'. -/
def pathsetNilUptoCard : Claim7 := { stood := { row := pathsetNilUptoRow, standIns := [], harness := (true, "09bac8be26a3d404d43d597e0b581cca0b536e31300cd0fa48cd5e4c3a587b71"), looks := false }, kinds := [], alts := [], laidByText := true, laidKinds := [.data, .pinned], laidTests := true, laidLooks := .later }
def PathsetNilUptoCardSaid : Prop := Claim7.holds Tryd.pinned (.plain (OpenSpec.upto pathsetNilSpec)) pathsetNilUptoCard

/-- THE SECOND FORM's CARD OF 'subletlaw05.PathsetOwn'. -/
def pathsetOwnUptoCard : Claim7 := { stood := { row := pathsetOwnUptoRow, standIns := [], harness := (true, "09bac8be26a3d404d43d597e0b581cca0b536e31300cd0fa48cd5e4c3a587b71"), looks := false }, kinds := [], alts := [], laidByText := true, laidKinds := [.data, .pinned], laidTests := true, laidLooks := .later }
def PathsetOwnUptoCardSaid : Prop := Claim7.holds Tryd.pinned (.plain (OpenSpec.upto pathsetOwnSpec)) pathsetOwnUptoCard

/-- THE SECOND FORM's CARD OF 'subletlaw05.PathsetKinds'. -/
def pathsetKindsUptoCard : Claim7 := { stood := { row := pathsetKindsUptoRow, standIns := [], harness := (true, "09bac8be26a3d404d43d597e0b581cca0b536e31300cd0fa48cd5e4c3a587b71"), looks := false }, kinds := [], alts := [], laidByText := true, laidKinds := [.data, .pinned], laidTests := true, laidLooks := .later }
def PathsetKindsUptoCardSaid : Prop := Claim7.holds Tryd.pinned (.plain (OpenSpec.upto pathsetKindsSpec)) pathsetKindsUptoCard

/-- THE SECOND FORM's CARD OF 'subletlaw05.PathsetFree'. -/
def pathsetFreeUptoCard : Claim7 := { stood := { row := pathsetFreeUptoRow, standIns := [], harness := (true, "09bac8be26a3d404d43d597e0b581cca0b536e31300cd0fa48cd5e4c3a587b71"), looks := false }, kinds := [], alts := [], laidByText := true, laidKinds := [.data, .pinned], laidTests := true, laidLooks := .later }
def PathsetFreeUptoCardSaid : Prop := Claim7.holds Tryd.pinned (.plain (OpenSpec.upto pathsetFreeSpec)) pathsetFreeUptoCard
end Rows
end Go.Proofs.YthkcbennfochmaaDoor
