/-
  DERIVED. GIVEN WITH THE SEED: THE CARDS: each row of YtpphoeimakjjdaaGreatDoorRows.lean that lists a variable, with what it lists TIED to the program's text (the seventh form; the later family's looks); each row that meets fmt, with fmt's text TOLD by the authors' own Lean function (tested against real Go, not proved from fmt's source: count such statements apart). THE CARD IS WHAT COUNTS. Prove the row's statement (the work); the ties are given (YtpphoeimakjjdaaGreatDoorTie.lean); close each card by the builder's one call (the guide's Derived/Test/ToyasCard.lean, 'card_holds'). Laid BY PROGRAM, IN A SANDBOX (cutbox-door.mjs). By AI agents, Wed Nov 11 2026. No macro, syntax, notation, axiom, sorry.
-/
import Derived.Test.YtpphoeimakjjdaaGreatDoorRows
import GoSem.ClaimSeven
namespace Go.Proofs.YtpphoeimakjjdaaGreatDoor
namespace Rows

/-- THE TIED CARD OF 'subletlaw12.LedgerNames'. -/
def ledgerNamesCard : Claim7 := { stood := { row := ledgerNamesRow, standIns := [], harness := (true, "68d7da9358f372995fbbb11539fd71301dcfc76a3c24983ef65f897ce1642256"), looks := true }, kinds := [], alts := [], laidByText := true, laidKinds := [.data, .pinned], laidTests := true, laidLooks := .later }
def LedgerNamesCardSaid : Prop := Claim7.holds Tryz.pinned (.plain (OpenSpec.ofChange ledgerNamesSpec)) ledgerNamesCard

/-- THE TIED CARD OF 'subletlaw12.LedgerOwn'. -/
def ledgerOwnCard : Claim7 := { stood := { row := ledgerOwnRow, standIns := [], harness := (true, "68d7da9358f372995fbbb11539fd71301dcfc76a3c24983ef65f897ce1642256"), looks := true }, kinds := [], alts := [], laidByText := true, laidKinds := [.data, .pinned], laidTests := true, laidLooks := .later }
def LedgerOwnCardSaid : Prop := Claim7.holds Tryz.pinned (.plain (OpenSpec.ofChange ledgerOwnSpec)) ledgerOwnCard

/-- THE TIED CARD OF 'subletlaw12.LedgerOnce'. -/
def ledgerOnceCard : Claim7 := { stood := { row := ledgerOnceRow, standIns := [], harness := (true, "68d7da9358f372995fbbb11539fd71301dcfc76a3c24983ef65f897ce1642256"), looks := true }, kinds := [], alts := [], laidByText := true, laidKinds := [.data, .pinned], laidTests := true, laidLooks := .later }
def LedgerOnceCardSaid : Prop := Claim7.holds Tryz.pinned (.plain (OpenSpec.ofChange ledgerOnceSpec)) ledgerOnceCard

/-- THE TIED CARD OF 'subletlaw12.LedgerPlays'. -/
def ledgerPlaysCard : Claim7 := { stood := { row := ledgerPlaysRow, standIns := [], harness := (true, "68d7da9358f372995fbbb11539fd71301dcfc76a3c24983ef65f897ce1642256"), looks := true }, kinds := [], alts := [], laidByText := true, laidKinds := [.data, .pinned], laidTests := true, laidLooks := .later }
def LedgerPlaysCardSaid : Prop := Claim7.holds Tryz.pinned (.plain (OpenSpec.ofChange ledgerPlaysSpec)) ledgerPlaysCard

/-- THE TIED CARD OF 'subletlaw12.LedgerFew'. -/
def ledgerFewCard : Claim7 := { stood := { row := ledgerFewRow, standIns := [], harness := (true, "68d7da9358f372995fbbb11539fd71301dcfc76a3c24983ef65f897ce1642256"), looks := true }, kinds := [], alts := [], laidByText := true, laidKinds := [.data, .pinned], laidTests := true, laidLooks := .later }
def LedgerFewCardSaid : Prop := Claim7.holds Tryz.pinned (.plain (OpenSpec.ofChange ledgerFewSpec)) ledgerFewCard

/-- THE TIED CARD OF 'subletlaw12.LedgerRaw'. -/
def ledgerRawCard : Claim7 := { stood := { row := ledgerRawRow, standIns := [], harness := (true, "68d7da9358f372995fbbb11539fd71301dcfc76a3c24983ef65f897ce1642256"), looks := true }, kinds := [], alts := [], laidByText := true, laidKinds := [.data, .pinned], laidTests := true, laidLooks := .later }
def LedgerRawCardSaid : Prop := Claim7.holds Tryz.pinned (.plain (OpenSpec.ofChange ledgerRawSpec)) ledgerRawCard

/-- THE TIED CARD OF 'subletlaw12.LedgerNever'. -/
def ledgerNeverCard : Claim7 := { stood := { row := ledgerNeverRow, standIns := [], harness := (true, "68d7da9358f372995fbbb11539fd71301dcfc76a3c24983ef65f897ce1642256"), looks := true }, kinds := [], alts := [], laidByText := true, laidKinds := [.data, .pinned], laidTests := true, laidLooks := .later }
def LedgerNeverCardSaid : Prop := Claim7.holds Tryz.pinned (.plain (OpenSpec.ofChange ledgerNeverSpec)) ledgerNeverCard

/-- THE SECOND FORM's CARD OF 'subletlaw12.LedgerNames'. -/
def ledgerNamesUptoCard : Claim7 := { stood := { row := ledgerNamesUptoRow, standIns := [], harness := (true, "68d7da9358f372995fbbb11539fd71301dcfc76a3c24983ef65f897ce1642256"), looks := true }, kinds := [], alts := [], laidByText := true, laidKinds := [.data, .pinned], laidTests := true, laidLooks := .later }
def LedgerNamesUptoCardSaid : Prop := Claim7.holds Tryz.pinned (.plain (OpenSpec.upto ledgerNamesSpec)) ledgerNamesUptoCard

/-- THE SECOND FORM's CARD OF 'subletlaw12.LedgerOwn'. -/
def ledgerOwnUptoCard : Claim7 := { stood := { row := ledgerOwnUptoRow, standIns := [], harness := (true, "68d7da9358f372995fbbb11539fd71301dcfc76a3c24983ef65f897ce1642256"), looks := true }, kinds := [], alts := [], laidByText := true, laidKinds := [.data, .pinned], laidTests := true, laidLooks := .later }
def LedgerOwnUptoCardSaid : Prop := Claim7.holds Tryz.pinned (.plain (OpenSpec.upto ledgerOwnSpec)) ledgerOwnUptoCard

/-- THE SECOND FORM's CARD OF 'subletlaw12.LedgerOnce'. -/
def ledgerOnceUptoCard : Claim7 := { stood := { row := ledgerOnceUptoRow, standIns := [], harness := (true, "68d7da9358f372995fbbb11539fd71301dcfc76a3c24983ef65f897ce1642256"), looks := true }, kinds := [], alts := [], laidByText := true, laidKinds := [.data, .pinned], laidTests := true, laidLooks := .later }
def LedgerOnceUptoCardSaid : Prop := Claim7.holds Tryz.pinned (.plain (OpenSpec.upto ledgerOnceSpec)) ledgerOnceUptoCard

/-- THE SECOND FORM's CARD OF 'subletlaw12.LedgerPlays'. -/
def ledgerPlaysUptoCard : Claim7 := { stood := { row := ledgerPlaysUptoRow, standIns := [], harness := (true, "68d7da9358f372995fbbb11539fd71301dcfc76a3c24983ef65f897ce1642256"), looks := true }, kinds := [], alts := [], laidByText := true, laidKinds := [.data, .pinned], laidTests := true, laidLooks := .later }
def LedgerPlaysUptoCardSaid : Prop := Claim7.holds Tryz.pinned (.plain (OpenSpec.upto ledgerPlaysSpec)) ledgerPlaysUptoCard

/-- THE SECOND FORM's CARD OF 'subletlaw12.LedgerFew'. -/
def ledgerFewUptoCard : Claim7 := { stood := { row := ledgerFewUptoRow, standIns := [], harness := (true, "68d7da9358f372995fbbb11539fd71301dcfc76a3c24983ef65f897ce1642256"), looks := true }, kinds := [], alts := [], laidByText := true, laidKinds := [.data, .pinned], laidTests := true, laidLooks := .later }
def LedgerFewUptoCardSaid : Prop := Claim7.holds Tryz.pinned (.plain (OpenSpec.upto ledgerFewSpec)) ledgerFewUptoCard

/-- THE SECOND FORM's CARD OF 'subletlaw12.LedgerRaw'. -/
def ledgerRawUptoCard : Claim7 := { stood := { row := ledgerRawUptoRow, standIns := [], harness := (true, "68d7da9358f372995fbbb11539fd71301dcfc76a3c24983ef65f897ce1642256"), looks := true }, kinds := [], alts := [], laidByText := true, laidKinds := [.data, .pinned], laidTests := true, laidLooks := .later }
def LedgerRawUptoCardSaid : Prop := Claim7.holds Tryz.pinned (.plain (OpenSpec.upto ledgerRawSpec)) ledgerRawUptoCard

/-- THE SECOND FORM's CARD OF 'subletlaw12.LedgerNever'. -/
def ledgerNeverUptoCard : Claim7 := { stood := { row := ledgerNeverUptoRow, standIns := [], harness := (true, "68d7da9358f372995fbbb11539fd71301dcfc76a3c24983ef65f897ce1642256"), looks := true }, kinds := [], alts := [], laidByText := true, laidKinds := [.data, .pinned], laidTests := true, laidLooks := .later }
def LedgerNeverUptoCardSaid : Prop := Claim7.holds Tryz.pinned (.plain (OpenSpec.upto ledgerNeverSpec)) ledgerNeverUptoCard
end Rows
end Go.Proofs.YtpphoeimakjjdaaGreatDoor
