/-
  DERIVED. GIVEN WITH THE SEED: THE CARDS: each row of YtllljngpgjkdiaaGreatDoorRows.lean that lists a variable, with what it lists TIED to the program's text (the seventh form; the later family's looks); each row that meets fmt, with fmt's text TOLD by the authors' own Lean function (tested against real Go, not proved from fmt's source: count such statements apart). THE CARD IS WHAT COUNTS. Prove the row's statement (the work); the ties are given (YtllljngpgjkdiaaGreatDoorTie.lean); close each card by the builder's one call (the guide's Derived/Test/ToyasCard.lean, 'card_holds'). Laid BY PROGRAM, IN A SANDBOX (cutbox-door.mjs). By AI agents, Wed Nov 11 2026. No macro, syntax, notation, axiom, sorry.
-/
import Derived.Test.YtllljngpgjkdiaaGreatDoorRows
import GoSem.ClaimSeven
namespace Go.Proofs.YtllljngpgjkdiaaGreatDoor
namespace Rows

/-- THE TIED CARD OF 'subletlaw16.GrantorNames'. -/
def grantorNamesCard : Claim7 := { stood := { row := grantorNamesRow, standIns := [], harness := (true, "dc47b60704872d467821132fc1c9ad345dccb0b88d8c668bc05523f29fab3ee3"), looks := true }, kinds := [], alts := [], laidByText := true, laidKinds := [.data, .pinned], laidTests := true, laidLooks := .later }
def GrantorNamesCardSaid : Prop := Claim7.holds Tryz.pinned (.plain (OpenSpec.ofChange grantorNamesSpec)) grantorNamesCard

/-- THE TIED CARD OF 'subletlaw16.GrantorOwn'. -/
def grantorOwnCard : Claim7 := { stood := { row := grantorOwnRow, standIns := [], harness := (true, "dc47b60704872d467821132fc1c9ad345dccb0b88d8c668bc05523f29fab3ee3"), looks := true }, kinds := [], alts := [], laidByText := true, laidKinds := [.data, .pinned], laidTests := true, laidLooks := .later }
def GrantorOwnCardSaid : Prop := Claim7.holds Tryz.pinned (.plain (OpenSpec.ofChange grantorOwnSpec)) grantorOwnCard

/-- THE TIED CARD OF 'subletlaw16.GrantorNests'. -/
def grantorNestsCard : Claim7 := { stood := { row := grantorNestsRow, standIns := [], harness := (true, "dc47b60704872d467821132fc1c9ad345dccb0b88d8c668bc05523f29fab3ee3"), looks := true }, kinds := [], alts := [], laidByText := true, laidKinds := [.data, .pinned], laidTests := true, laidLooks := .later }
def GrantorNestsCardSaid : Prop := Claim7.holds Tryz.pinned (.plain (OpenSpec.ofChange grantorNestsSpec)) grantorNestsCard

/-- THE TIED CARD OF 'subletlaw16.GrantorRests'. -/
def grantorRestsCard : Claim7 := { stood := { row := grantorRestsRow, standIns := [], harness := (true, "dc47b60704872d467821132fc1c9ad345dccb0b88d8c668bc05523f29fab3ee3"), looks := true }, kinds := [], alts := [], laidByText := true, laidKinds := [.data, .pinned], laidTests := true, laidLooks := .later }
def GrantorRestsCardSaid : Prop := Claim7.holds Tryz.pinned (.plain (OpenSpec.ofChange grantorRestsSpec)) grantorRestsCard

/-- THE TIED CARD OF 'subletlaw16.GrantorGives'. -/
def grantorGivesCard : Claim7 := { stood := { row := grantorGivesRow, standIns := [], harness := (true, "dc47b60704872d467821132fc1c9ad345dccb0b88d8c668bc05523f29fab3ee3"), looks := true }, kinds := [], alts := [], laidByText := true, laidKinds := [.data, .pinned], laidTests := true, laidLooks := .later }
def GrantorGivesCardSaid : Prop := Claim7.holds Tryz.pinned (.plain (OpenSpec.ofChange grantorGivesSpec)) grantorGivesCard

/-- THE TIED CARD OF 'subletlaw16.GrantorApart'. -/
def grantorApartCard : Claim7 := { stood := { row := grantorApartRow, standIns := [], harness := (true, "dc47b60704872d467821132fc1c9ad345dccb0b88d8c668bc05523f29fab3ee3"), looks := true }, kinds := [], alts := [], laidByText := true, laidKinds := [.data, .pinned], laidTests := true, laidLooks := .later }
def GrantorApartCardSaid : Prop := Claim7.holds Tryz.pinned (.plain (OpenSpec.ofChange grantorApartSpec)) grantorApartCard

/-- THE TIED CARD OF 'subletlaw16.GrantorHeld'. -/
def grantorHeldCard : Claim7 := { stood := { row := grantorHeldRow, standIns := [], harness := (true, "dc47b60704872d467821132fc1c9ad345dccb0b88d8c668bc05523f29fab3ee3"), looks := true }, kinds := [], alts := [], laidByText := true, laidKinds := [.data, .pinned], laidTests := true, laidLooks := .later }
def GrantorHeldCardSaid : Prop := Claim7.holds Tryz.pinned (.plain (OpenSpec.ofChange grantorHeldSpec)) grantorHeldCard

/-- THE SECOND FORM's CARD OF 'subletlaw16.GrantorNames'. -/
def grantorNamesUptoCard : Claim7 := { stood := { row := grantorNamesUptoRow, standIns := [], harness := (true, "dc47b60704872d467821132fc1c9ad345dccb0b88d8c668bc05523f29fab3ee3"), looks := true }, kinds := [], alts := [], laidByText := true, laidKinds := [.data, .pinned], laidTests := true, laidLooks := .later }
def GrantorNamesUptoCardSaid : Prop := Claim7.holds Tryz.pinned (.plain (OpenSpec.upto grantorNamesSpec)) grantorNamesUptoCard

/-- THE SECOND FORM's CARD OF 'subletlaw16.GrantorOwn'. -/
def grantorOwnUptoCard : Claim7 := { stood := { row := grantorOwnUptoRow, standIns := [], harness := (true, "dc47b60704872d467821132fc1c9ad345dccb0b88d8c668bc05523f29fab3ee3"), looks := true }, kinds := [], alts := [], laidByText := true, laidKinds := [.data, .pinned], laidTests := true, laidLooks := .later }
def GrantorOwnUptoCardSaid : Prop := Claim7.holds Tryz.pinned (.plain (OpenSpec.upto grantorOwnSpec)) grantorOwnUptoCard

/-- THE SECOND FORM's CARD OF 'subletlaw16.GrantorNests'. -/
def grantorNestsUptoCard : Claim7 := { stood := { row := grantorNestsUptoRow, standIns := [], harness := (true, "dc47b60704872d467821132fc1c9ad345dccb0b88d8c668bc05523f29fab3ee3"), looks := true }, kinds := [], alts := [], laidByText := true, laidKinds := [.data, .pinned], laidTests := true, laidLooks := .later }
def GrantorNestsUptoCardSaid : Prop := Claim7.holds Tryz.pinned (.plain (OpenSpec.upto grantorNestsSpec)) grantorNestsUptoCard

/-- THE SECOND FORM's CARD OF 'subletlaw16.GrantorRests'. -/
def grantorRestsUptoCard : Claim7 := { stood := { row := grantorRestsUptoRow, standIns := [], harness := (true, "dc47b60704872d467821132fc1c9ad345dccb0b88d8c668bc05523f29fab3ee3"), looks := true }, kinds := [], alts := [], laidByText := true, laidKinds := [.data, .pinned], laidTests := true, laidLooks := .later }
def GrantorRestsUptoCardSaid : Prop := Claim7.holds Tryz.pinned (.plain (OpenSpec.upto grantorRestsSpec)) grantorRestsUptoCard

/-- THE SECOND FORM's CARD OF 'subletlaw16.GrantorGives'. -/
def grantorGivesUptoCard : Claim7 := { stood := { row := grantorGivesUptoRow, standIns := [], harness := (true, "dc47b60704872d467821132fc1c9ad345dccb0b88d8c668bc05523f29fab3ee3"), looks := true }, kinds := [], alts := [], laidByText := true, laidKinds := [.data, .pinned], laidTests := true, laidLooks := .later }
def GrantorGivesUptoCardSaid : Prop := Claim7.holds Tryz.pinned (.plain (OpenSpec.upto grantorGivesSpec)) grantorGivesUptoCard

/-- THE SECOND FORM's CARD OF 'subletlaw16.GrantorApart'. -/
def grantorApartUptoCard : Claim7 := { stood := { row := grantorApartUptoRow, standIns := [], harness := (true, "dc47b60704872d467821132fc1c9ad345dccb0b88d8c668bc05523f29fab3ee3"), looks := true }, kinds := [], alts := [], laidByText := true, laidKinds := [.data, .pinned], laidTests := true, laidLooks := .later }
def GrantorApartUptoCardSaid : Prop := Claim7.holds Tryz.pinned (.plain (OpenSpec.upto grantorApartSpec)) grantorApartUptoCard

/-- THE SECOND FORM's CARD OF 'subletlaw16.GrantorHeld'. -/
def grantorHeldUptoCard : Claim7 := { stood := { row := grantorHeldUptoRow, standIns := [], harness := (true, "dc47b60704872d467821132fc1c9ad345dccb0b88d8c668bc05523f29fab3ee3"), looks := true }, kinds := [], alts := [], laidByText := true, laidKinds := [.data, .pinned], laidTests := true, laidLooks := .later }
def GrantorHeldUptoCardSaid : Prop := Claim7.holds Tryz.pinned (.plain (OpenSpec.upto grantorHeldSpec)) grantorHeldUptoCard
end Rows
end Go.Proofs.YtllljngpgjkdiaaGreatDoor
