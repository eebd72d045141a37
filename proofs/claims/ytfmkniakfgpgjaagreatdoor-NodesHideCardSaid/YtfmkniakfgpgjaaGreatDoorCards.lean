/-
  DERIVED. GIVEN WITH THE SEED: THE CARDS: each row of YtfmkniakfgpgjaaGreatDoorRows.lean that lists a variable, with what it lists TIED to the program's text (the seventh form; the later family's looks); each row that meets fmt, with fmt's text TOLD by the authors' own Lean function (tested against real Go, not proved from fmt's source: count such statements apart). THE CARD IS WHAT COUNTS. Prove the row's statement (the work); the ties are given (YtfmkniakfgpgjaaGreatDoorTie.lean); close each card by the builder's one call (the guide's Derived/Test/ToyasCard.lean, 'card_holds'). Laid BY PROGRAM, IN A SANDBOX (cutbox-door.mjs). By AI agents, Wed Nov 11 2026. No macro, syntax, notation, axiom, sorry.
-/
import Derived.Test.YtfmkniakfgpgjaaGreatDoorRows
import GoSem.ClaimSeven
namespace Go.Proofs.YtfmkniakfgpgjaaGreatDoor
namespace Rows

/-- THE TIED CARD OF 'cassocklaw22.NodesLock'. -/
def nodesLockCard : Claim7 := { stood := { row := nodesLockRow, standIns := [], harness := (true, "8ccac8f5817397f99781eb04a26c73ceb5aa76481423ed5dac457a41c7bc1c72"), looks := true }, kinds := [], alts := [], laidByText := true, laidKinds := [.data, .data, .data, .sentinel, .sentinel], laidTests := true, laidLooks := .later }
def NodesLockCardSaid : Prop := Claim7.holds Tryz.pinned (.plain (OpenSpec.ofChange nodesLockSpec)) nodesLockCard

/-- THE TIED CARD OF 'cassocklaw22.NodesBack'. -/
def nodesBackCard : Claim7 := { stood := { row := nodesBackRow, standIns := [], harness := (true, "8ccac8f5817397f99781eb04a26c73ceb5aa76481423ed5dac457a41c7bc1c72"), looks := true }, kinds := [], alts := [], laidByText := true, laidKinds := [.data, .data, .data, .sentinel, .sentinel], laidTests := true, laidLooks := .later }
def NodesBackCardSaid : Prop := Claim7.holds Tryz.pinned (.plain (OpenSpec.ofChange nodesBackSpec)) nodesBackCard

/-- THE TIED CARD OF 'cassocklaw22.NodesWrong'. -/
def nodesWrongCard : Claim7 := { stood := { row := nodesWrongRow, standIns := [], harness := (true, "8ccac8f5817397f99781eb04a26c73ceb5aa76481423ed5dac457a41c7bc1c72"), looks := true }, kinds := [], alts := [], laidByText := true, laidKinds := [.data, .data, .data, .sentinel, .sentinel], laidTests := true, laidLooks := .later }
def NodesWrongCardSaid : Prop := Claim7.holds Tryz.pinned (.plain (OpenSpec.ofChange nodesWrongSpec)) nodesWrongCard

/-- THE TIED CARD OF 'cassocklaw22.NodesPatch'. -/
def nodesPatchCard : Claim7 := { stood := { row := nodesPatchRow, standIns := [], harness := (true, "8ccac8f5817397f99781eb04a26c73ceb5aa76481423ed5dac457a41c7bc1c72"), looks := true }, kinds := [], alts := [], laidByText := true, laidKinds := [.data, .data, .data, .sentinel, .sentinel], laidTests := true, laidLooks := .later }
def NodesPatchCardSaid : Prop := Claim7.holds Tryz.pinned (.plain (OpenSpec.ofChange nodesPatchSpec)) nodesPatchCard

/-- THE TIED CARD OF 'cassocklaw22.NodesHide'. -/
def nodesHideCard : Claim7 := { stood := { row := nodesHideRow, standIns := [], harness := (true, "8ccac8f5817397f99781eb04a26c73ceb5aa76481423ed5dac457a41c7bc1c72"), looks := true }, kinds := [], alts := [], laidByText := true, laidKinds := [.data, .data, .data, .sentinel, .sentinel], laidTests := true, laidLooks := .later }
def NodesHideCardSaid : Prop := Claim7.holds Tryz.pinned (.plain (OpenSpec.ofChange nodesHideSpec)) nodesHideCard

/-- THE SECOND FORM's CARD OF 'cassocklaw22.NodesLock'. -/
def nodesLockUptoCard : Claim7 := { stood := { row := nodesLockUptoRow, standIns := [], harness := (true, "8ccac8f5817397f99781eb04a26c73ceb5aa76481423ed5dac457a41c7bc1c72"), looks := true }, kinds := [], alts := [], laidByText := true, laidKinds := [.data, .data, .data, .sentinel, .sentinel], laidTests := true, laidLooks := .later }
def NodesLockUptoCardSaid : Prop := Claim7.holds Tryz.pinned (.plain (OpenSpec.upto nodesLockSpec)) nodesLockUptoCard

/-- THE SECOND FORM's CARD OF 'cassocklaw22.NodesBack'. -/
def nodesBackUptoCard : Claim7 := { stood := { row := nodesBackUptoRow, standIns := [], harness := (true, "8ccac8f5817397f99781eb04a26c73ceb5aa76481423ed5dac457a41c7bc1c72"), looks := true }, kinds := [], alts := [], laidByText := true, laidKinds := [.data, .data, .data, .sentinel, .sentinel], laidTests := true, laidLooks := .later }
def NodesBackUptoCardSaid : Prop := Claim7.holds Tryz.pinned (.plain (OpenSpec.upto nodesBackSpec)) nodesBackUptoCard

/-- THE SECOND FORM's CARD OF 'cassocklaw22.NodesWrong'. -/
def nodesWrongUptoCard : Claim7 := { stood := { row := nodesWrongUptoRow, standIns := [], harness := (true, "8ccac8f5817397f99781eb04a26c73ceb5aa76481423ed5dac457a41c7bc1c72"), looks := true }, kinds := [], alts := [], laidByText := true, laidKinds := [.data, .data, .data, .sentinel, .sentinel], laidTests := true, laidLooks := .later }
def NodesWrongUptoCardSaid : Prop := Claim7.holds Tryz.pinned (.plain (OpenSpec.upto nodesWrongSpec)) nodesWrongUptoCard

/-- THE SECOND FORM's CARD OF 'cassocklaw22.NodesPatch'. -/
def nodesPatchUptoCard : Claim7 := { stood := { row := nodesPatchUptoRow, standIns := [], harness := (true, "8ccac8f5817397f99781eb04a26c73ceb5aa76481423ed5dac457a41c7bc1c72"), looks := true }, kinds := [], alts := [], laidByText := true, laidKinds := [.data, .data, .data, .sentinel, .sentinel], laidTests := true, laidLooks := .later }
def NodesPatchUptoCardSaid : Prop := Claim7.holds Tryz.pinned (.plain (OpenSpec.upto nodesPatchSpec)) nodesPatchUptoCard

/-- THE SECOND FORM's CARD OF 'cassocklaw22.NodesHide'. -/
def nodesHideUptoCard : Claim7 := { stood := { row := nodesHideUptoRow, standIns := [], harness := (true, "8ccac8f5817397f99781eb04a26c73ceb5aa76481423ed5dac457a41c7bc1c72"), looks := true }, kinds := [], alts := [], laidByText := true, laidKinds := [.data, .data, .data, .sentinel, .sentinel], laidTests := true, laidLooks := .later }
def NodesHideUptoCardSaid : Prop := Claim7.holds Tryz.pinned (.plain (OpenSpec.upto nodesHideSpec)) nodesHideUptoCard
end Rows
end Go.Proofs.YtfmkniakfgpgjaaGreatDoor
