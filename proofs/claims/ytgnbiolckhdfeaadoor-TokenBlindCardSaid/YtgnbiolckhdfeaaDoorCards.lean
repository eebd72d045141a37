/-
  DERIVED. GIVEN WITH THE SEED: THE CARDS: each row of YtgnbiolckhdfeaaDoorRows.lean that lists a variable, with what it lists TIED to the program's text (the seventh form; the later family's looks); each row that meets fmt, with fmt's text TOLD by the authors' own Lean function (tested against real Go, not proved from fmt's source: count such statements apart). THE CARD IS WHAT COUNTS. Prove the row's statement (the work); the ties are given (YtgnbiolckhdfeaaDoorTie.lean); close each card by the builder's one call (the guide's Derived/Test/ToyasCard.lean, 'card_holds'). Laid BY PROGRAM, IN A SANDBOX (cutbox-door.mjs). By AI agents, Wed Nov 11 2026. No macro, syntax, notation, axiom, sorry.
-/
import Derived.Test.YtgnbiolckhdfeaaDoorRows
import GoSem.ClaimSeven
namespace Go.Proofs.YtgnbiolckhdfeaaDoor
namespace Rows

/-- THE TIED CARD OF 'cassocklaw17.TokenDoes'. -/
def tokenDoesCard : Claim7 := { stood := { row := tokenDoesRow, standIns := [], harness := (true, "661a2e2534441f2edf12f1ccd7b3c3e0667f55e9b621c920a9cf64b426d3435f"), looks := false }, kinds := [], alts := [], laidByText := true, laidKinds := [.data, .data, .data], laidTests := true, laidLooks := .later }
def TokenDoesCardSaid : Prop := Claim7.holds Tryd.pinned (.plain (OpenSpec.ofChange tokenDoesSpec)) tokenDoesCard

/-- THE TIED CARD OF 'cassocklaw17.TokenBlind'. -/
def tokenBlindCard : Claim7 := { stood := { row := tokenBlindRow, standIns := [], harness := (true, "661a2e2534441f2edf12f1ccd7b3c3e0667f55e9b621c920a9cf64b426d3435f"), looks := false }, kinds := [], alts := [], laidByText := true, laidKinds := [.data, .data, .data], laidTests := true, laidLooks := .later }
def TokenBlindCardSaid : Prop := Claim7.holds Tryd.pinned (.plain (OpenSpec.ofChange tokenBlindSpec)) tokenBlindCard

/-- THE SECOND FORM's CARD OF 'cassocklaw17.TokenDoes'. -/
def tokenDoesUptoCard : Claim7 := { stood := { row := tokenDoesUptoRow, standIns := [], harness := (true, "661a2e2534441f2edf12f1ccd7b3c3e0667f55e9b621c920a9cf64b426d3435f"), looks := false }, kinds := [], alts := [], laidByText := true, laidKinds := [.data, .data, .data], laidTests := true, laidLooks := .later }
def TokenDoesUptoCardSaid : Prop := Claim7.holds Tryd.pinned (.plain (OpenSpec.upto tokenDoesSpec)) tokenDoesUptoCard

/-- THE SECOND FORM's CARD OF 'cassocklaw17.TokenBlind'. -/
def tokenBlindUptoCard : Claim7 := { stood := { row := tokenBlindUptoRow, standIns := [], harness := (true, "661a2e2534441f2edf12f1ccd7b3c3e0667f55e9b621c920a9cf64b426d3435f"), looks := false }, kinds := [], alts := [], laidByText := true, laidKinds := [.data, .data, .data], laidTests := true, laidLooks := .later }
def TokenBlindUptoCardSaid : Prop := Claim7.holds Tryd.pinned (.plain (OpenSpec.upto tokenBlindSpec)) tokenBlindUptoCard
end Rows
end Go.Proofs.YtgnbiolckhdfeaaDoor
