/-
  DERIVED. GIVEN WITH THE SEED: THE CARDS: each row of YtkfhapidoolfdaaGreatDoorRows.lean that lists a variable, with what it lists TIED to the program's text (the seventh form; the later family's looks); each row that meets fmt, with fmt's text TOLD by the authors' own Lean function (tested against real Go, not proved from fmt's source: count such statements apart). THE CARD IS WHAT COUNTS. Prove the row's statement (the work); the ties are given (YtkfhapidoolfdaaGreatDoorTie.lean); close each card by the builder's one call (the guide's Derived/Test/ToyasCard.lean, 'card_holds'). Laid BY PROGRAM, IN A SANDBOX (cutbox-door.mjs). By AI agents, Wed Nov 11 2026. No macro, syntax, notation, axiom, sorry.
-/
import Derived.Test.YtkfhapidoolfdaaGreatDoorRows
import GoSem.ClaimSeven
namespace Go.Proofs.YtkfhapidoolfdaaGreatDoor
namespace Rows

/-- THE TIED CARD OF 'subletlaw18.NodeNames'. -/
def nodeNamesCard : Claim7 := { stood := { row := nodeNamesRow, standIns := [], harness := (true, "ed6d19fef0942477d78fef10ab0e5cfb400b238c83b2fcd966dfbb42d9db06ec"), looks := true }, kinds := [], alts := [], laidByText := true, laidKinds := [.data, .pinned], laidTests := true, laidLooks := .later }
def NodeNamesCardSaid : Prop := Claim7.holds Tryz.pinned (.plain (OpenSpec.ofChange nodeNamesSpec)) nodeNamesCard

/-- THE TIED CARD OF 'subletlaw18.NodeDeep'. -/
def nodeDeepCard : Claim7 := { stood := { row := nodeDeepRow, standIns := [], harness := (true, "ed6d19fef0942477d78fef10ab0e5cfb400b238c83b2fcd966dfbb42d9db06ec"), looks := true }, kinds := [], alts := [], laidByText := true, laidKinds := [.data, .pinned], laidTests := true, laidLooks := .later }
def NodeDeepCardSaid : Prop := Claim7.holds Tryz.pinned (.plain (OpenSpec.ofChange nodeDeepSpec)) nodeDeepCard

/-- THE TIED CARD OF 'subletlaw18.NodeCascades'. -/
def nodeCascadesCard : Claim7 := { stood := { row := nodeCascadesRow, standIns := [], harness := (true, "ed6d19fef0942477d78fef10ab0e5cfb400b238c83b2fcd966dfbb42d9db06ec"), looks := true }, kinds := [], alts := [], laidByText := true, laidKinds := [.data, .pinned], laidTests := true, laidLooks := .later }
def NodeCascadesCardSaid : Prop := Claim7.holds Tryz.pinned (.plain (OpenSpec.ofChange nodeCascadesSpec)) nodeCascadesCard

/-- THE TIED CARD OF 'subletlaw18.NodeUses'. -/
def nodeUsesCard : Claim7 := { stood := { row := nodeUsesRow, standIns := [], harness := (true, "ed6d19fef0942477d78fef10ab0e5cfb400b238c83b2fcd966dfbb42d9db06ec"), looks := true }, kinds := [], alts := [], laidByText := true, laidKinds := [.data, .pinned], laidTests := true, laidLooks := .later }
def NodeUsesCardSaid : Prop := Claim7.holds Tryz.pinned (.plain (OpenSpec.ofChange nodeUsesSpec)) nodeUsesCard

/-- THE TIED CARD OF 'subletlaw18.NodeLate'. -/
def nodeLateCard : Claim7 := { stood := { row := nodeLateRow, standIns := [], harness := (true, "ed6d19fef0942477d78fef10ab0e5cfb400b238c83b2fcd966dfbb42d9db06ec"), looks := true }, kinds := [], alts := [], laidByText := true, laidKinds := [.data, .pinned], laidTests := true, laidLooks := .later }
def NodeLateCardSaid : Prop := Claim7.holds Tryz.pinned (.plain (OpenSpec.ofChange nodeLateSpec)) nodeLateCard

/-- THE TIED CARD OF 'subletlaw18.NodeOwn'. -/
def nodeOwnCard : Claim7 := { stood := { row := nodeOwnRow, standIns := [], harness := (true, "ed6d19fef0942477d78fef10ab0e5cfb400b238c83b2fcd966dfbb42d9db06ec"), looks := true }, kinds := [], alts := [], laidByText := true, laidKinds := [.data, .pinned], laidTests := true, laidLooks := .later }
def NodeOwnCardSaid : Prop := Claim7.holds Tryz.pinned (.plain (OpenSpec.ofChange nodeOwnSpec)) nodeOwnCard

/-- THE TIED CARD OF 'subletlaw18.NodeAnew'. -/
def nodeAnewCard : Claim7 := { stood := { row := nodeAnewRow, standIns := [], harness := (true, "ed6d19fef0942477d78fef10ab0e5cfb400b238c83b2fcd966dfbb42d9db06ec"), looks := true }, kinds := [], alts := [], laidByText := true, laidKinds := [.data, .pinned], laidTests := true, laidLooks := .later }
def NodeAnewCardSaid : Prop := Claim7.holds Tryz.pinned (.plain (OpenSpec.ofChange nodeAnewSpec)) nodeAnewCard

/-- THE SECOND FORM's CARD OF 'subletlaw18.NodeNames'. -/
def nodeNamesUptoCard : Claim7 := { stood := { row := nodeNamesUptoRow, standIns := [], harness := (true, "ed6d19fef0942477d78fef10ab0e5cfb400b238c83b2fcd966dfbb42d9db06ec"), looks := true }, kinds := [], alts := [], laidByText := true, laidKinds := [.data, .pinned], laidTests := true, laidLooks := .later }
def NodeNamesUptoCardSaid : Prop := Claim7.holds Tryz.pinned (.plain (OpenSpec.upto nodeNamesSpec)) nodeNamesUptoCard

/-- THE SECOND FORM's CARD OF 'subletlaw18.NodeDeep'. -/
def nodeDeepUptoCard : Claim7 := { stood := { row := nodeDeepUptoRow, standIns := [], harness := (true, "ed6d19fef0942477d78fef10ab0e5cfb400b238c83b2fcd966dfbb42d9db06ec"), looks := true }, kinds := [], alts := [], laidByText := true, laidKinds := [.data, .pinned], laidTests := true, laidLooks := .later }
def NodeDeepUptoCardSaid : Prop := Claim7.holds Tryz.pinned (.plain (OpenSpec.upto nodeDeepSpec)) nodeDeepUptoCard

/-- THE SECOND FORM's CARD OF 'subletlaw18.NodeCascades'. -/
def nodeCascadesUptoCard : Claim7 := { stood := { row := nodeCascadesUptoRow, standIns := [], harness := (true, "ed6d19fef0942477d78fef10ab0e5cfb400b238c83b2fcd966dfbb42d9db06ec"), looks := true }, kinds := [], alts := [], laidByText := true, laidKinds := [.data, .pinned], laidTests := true, laidLooks := .later }
def NodeCascadesUptoCardSaid : Prop := Claim7.holds Tryz.pinned (.plain (OpenSpec.upto nodeCascadesSpec)) nodeCascadesUptoCard

/-- THE SECOND FORM's CARD OF 'subletlaw18.NodeUses'. -/
def nodeUsesUptoCard : Claim7 := { stood := { row := nodeUsesUptoRow, standIns := [], harness := (true, "ed6d19fef0942477d78fef10ab0e5cfb400b238c83b2fcd966dfbb42d9db06ec"), looks := true }, kinds := [], alts := [], laidByText := true, laidKinds := [.data, .pinned], laidTests := true, laidLooks := .later }
def NodeUsesUptoCardSaid : Prop := Claim7.holds Tryz.pinned (.plain (OpenSpec.upto nodeUsesSpec)) nodeUsesUptoCard

/-- THE SECOND FORM's CARD OF 'subletlaw18.NodeLate'. -/
def nodeLateUptoCard : Claim7 := { stood := { row := nodeLateUptoRow, standIns := [], harness := (true, "ed6d19fef0942477d78fef10ab0e5cfb400b238c83b2fcd966dfbb42d9db06ec"), looks := true }, kinds := [], alts := [], laidByText := true, laidKinds := [.data, .pinned], laidTests := true, laidLooks := .later }
def NodeLateUptoCardSaid : Prop := Claim7.holds Tryz.pinned (.plain (OpenSpec.upto nodeLateSpec)) nodeLateUptoCard

/-- THE SECOND FORM's CARD OF 'subletlaw18.NodeOwn'. -/
def nodeOwnUptoCard : Claim7 := { stood := { row := nodeOwnUptoRow, standIns := [], harness := (true, "ed6d19fef0942477d78fef10ab0e5cfb400b238c83b2fcd966dfbb42d9db06ec"), looks := true }, kinds := [], alts := [], laidByText := true, laidKinds := [.data, .pinned], laidTests := true, laidLooks := .later }
def NodeOwnUptoCardSaid : Prop := Claim7.holds Tryz.pinned (.plain (OpenSpec.upto nodeOwnSpec)) nodeOwnUptoCard

/-- THE SECOND FORM's CARD OF 'subletlaw18.NodeAnew'. -/
def nodeAnewUptoCard : Claim7 := { stood := { row := nodeAnewUptoRow, standIns := [], harness := (true, "ed6d19fef0942477d78fef10ab0e5cfb400b238c83b2fcd966dfbb42d9db06ec"), looks := true }, kinds := [], alts := [], laidByText := true, laidKinds := [.data, .pinned], laidTests := true, laidLooks := .later }
def NodeAnewUptoCardSaid : Prop := Claim7.holds Tryz.pinned (.plain (OpenSpec.upto nodeAnewSpec)) nodeAnewUptoCard
end Rows
end Go.Proofs.YtkfhapidoolfdaaGreatDoor
