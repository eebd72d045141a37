/-
  DERIVED. GIVEN WITH THE SEED: THE CARDS: each row of YtfmkniakfgpgjaaDoorRows.lean that lists a variable, with what it lists TIED to the program's text (the seventh form; the later family's looks); each row that meets fmt, with fmt's text TOLD by the authors' own Lean function (tested against real Go, not proved from fmt's source: count such statements apart). THE CARD IS WHAT COUNTS. Prove the row's statement (the work); the ties are given (YtfmkniakfgpgjaaDoorTie.lean); close each card by the builder's one call (the guide's Derived/Test/ToyasCard.lean, 'card_holds'). Laid BY PROGRAM, IN A SANDBOX (cutbox-door.mjs). By AI agents, Wed Nov 11 2026. No macro, syntax, notation, axiom, sorry.
-/
import Derived.Test.YtfmkniakfgpgjaaDoorRows
import GoSem.ClaimSeven
namespace Go.Proofs.YtfmkniakfgpgjaaDoor
namespace Rows

/-- THE TIED CARD OF 'cassocklaw17.TokenDoes'. -/
def tokenDoesCard : Claim7 := { stood := { row := tokenDoesRow, standIns := [], harness := (true, "98a2a0e6e0467f32f49b2638fe8a6d1ea8d951e6f7e476268581b7864f6b960b"), looks := false }, kinds := [], alts := [], laidByText := true, laidKinds := [.data, .data, .data], laidTests := true, laidLooks := .later }
def TokenDoesCardSaid : Prop := Claim7.holds Tryd.pinned (.plain (OpenSpec.ofChange tokenDoesSpec)) tokenDoesCard

/-- THE SECOND FORM's CARD OF 'cassocklaw17.TokenDoes'. -/
def tokenDoesUptoCard : Claim7 := { stood := { row := tokenDoesUptoRow, standIns := [], harness := (true, "98a2a0e6e0467f32f49b2638fe8a6d1ea8d951e6f7e476268581b7864f6b960b"), looks := false }, kinds := [], alts := [], laidByText := true, laidKinds := [.data, .data, .data], laidTests := true, laidLooks := .later }
def TokenDoesUptoCardSaid : Prop := Claim7.holds Tryd.pinned (.plain (OpenSpec.upto tokenDoesSpec)) tokenDoesUptoCard
end Rows
end Go.Proofs.YtfmkniakfgpgjaaDoor
