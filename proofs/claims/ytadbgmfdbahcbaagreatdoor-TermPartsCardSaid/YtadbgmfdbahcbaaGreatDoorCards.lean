/-
  DERIVED. GIVEN WITH THE SEED: THE CARDS: each row of YtadbgmfdbahcbaaGreatDoorRows.lean that lists a variable, with what it lists TIED to the program's text (the seventh form; the later family's looks); each row that meets fmt, with fmt's text TOLD by the authors' own Lean function (tested against real Go, not proved from fmt's source: count such statements apart). THE CARD IS WHAT COUNTS. Prove the row's statement (the work); the ties are given (YtadbgmfdbahcbaaGreatDoorTie.lean); close each card by the builder's one call (the guide's Derived/Test/ToyasCard.lean, 'card_holds'). Laid BY PROGRAM, IN A SANDBOX (cutbox-door.mjs). By AI agents, Wed Nov 11 2026. No macro, syntax, notation, axiom, sorry.
-/
import Derived.Test.YtadbgmfdbahcbaaGreatDoorRows
import GoSem.ClaimSeven
namespace Go.Proofs.YtadbgmfdbahcbaaGreatDoor
namespace Rows

/-- THE TIED CARD OF 'cassocklaw03.TermOnce'. -/
def termOnceCard : Claim7 := { stood := { row := termOnceRow, standIns := [], harness := (true, "7c11498feb8c762a3386bd46a39670e545f32333bf56b1a347c367832a46f97a"), looks := true }, kinds := [], alts := [], laidByText := true, laidKinds := [.data, .data, .data], laidTests := true, laidLooks := .later }
def TermOnceCardSaid : Prop := Claim7.holds Tryz.pinned (.plain (OpenSpec.ofChange termOnceSpec)) termOnceCard

/-- THE TIED CARD OF 'cassocklaw03.TermMakes'. -/
def termMakesCard : Claim7 := { stood := { row := termMakesRow, standIns := [], harness := (true, "7c11498feb8c762a3386bd46a39670e545f32333bf56b1a347c367832a46f97a"), looks := true }, kinds := [], alts := [], laidByText := true, laidKinds := [.data, .data, .data], laidTests := true, laidLooks := .later }
def TermMakesCardSaid : Prop := Claim7.holds Tryz.pinned (.plain (OpenSpec.ofChange termMakesSpec)) termMakesCard

/-- THE TIED CARD OF 'cassocklaw03.TermShown'. -/
def termShownCard : Claim7 := { stood := { row := termShownRow, standIns := [], harness := (true, "7c11498feb8c762a3386bd46a39670e545f32333bf56b1a347c367832a46f97a"), looks := true }, kinds := [], alts := [], laidByText := true, laidKinds := [.data, .data, .data], laidTests := true, laidLooks := .later }
def TermShownCardSaid : Prop := Claim7.holds Tryz.pinned (.plain (OpenSpec.ofChange termShownSpec)) termShownCard

/-- THE TIED CARD OF 'cassocklaw03.TermBelow'. -/
def termBelowCard : Claim7 := { stood := { row := termBelowRow, standIns := [], harness := (true, "7c11498feb8c762a3386bd46a39670e545f32333bf56b1a347c367832a46f97a"), looks := true }, kinds := [], alts := [], laidByText := true, laidKinds := [.data, .data, .data], laidTests := true, laidLooks := .later }
def TermBelowCardSaid : Prop := Claim7.holds Tryz.pinned (.plain (OpenSpec.ofChange termBelowSpec)) termBelowCard

/-- THE TIED CARD OF 'cassocklaw03.TermParts'. -/
def termPartsCard : Claim7 := { stood := { row := termPartsRow, standIns := [], harness := (true, "7c11498feb8c762a3386bd46a39670e545f32333bf56b1a347c367832a46f97a"), looks := true }, kinds := [], alts := [], laidByText := true, laidKinds := [.data, .data, .data], laidTests := true, laidLooks := .later }
def TermPartsCardSaid : Prop := Claim7.holds Tryz.pinned (.plain (OpenSpec.ofChange termPartsSpec)) termPartsCard

/-- THE TIED CARD OF 'cassocklaw03.TermShort'. -/
def termShortCard : Claim7 := { stood := { row := termShortRow, standIns := [], harness := (true, "7c11498feb8c762a3386bd46a39670e545f32333bf56b1a347c367832a46f97a"), looks := true }, kinds := [], alts := [], laidByText := true, laidKinds := [.data, .data, .data], laidTests := true, laidLooks := .later }
def TermShortCardSaid : Prop := Claim7.holds Tryz.pinned (.plain (OpenSpec.ofChange termShortSpec)) termShortCard

/-- THE SECOND FORM's CARD OF 'cassocklaw03.TermOnce'. -/
def termOnceUptoCard : Claim7 := { stood := { row := termOnceUptoRow, standIns := [], harness := (true, "7c11498feb8c762a3386bd46a39670e545f32333bf56b1a347c367832a46f97a"), looks := true }, kinds := [], alts := [], laidByText := true, laidKinds := [.data, .data, .data], laidTests := true, laidLooks := .later }
def TermOnceUptoCardSaid : Prop := Claim7.holds Tryz.pinned (.plain (OpenSpec.upto termOnceSpec)) termOnceUptoCard

/-- THE SECOND FORM's CARD OF 'cassocklaw03.TermMakes'. -/
def termMakesUptoCard : Claim7 := { stood := { row := termMakesUptoRow, standIns := [], harness := (true, "7c11498feb8c762a3386bd46a39670e545f32333bf56b1a347c367832a46f97a"), looks := true }, kinds := [], alts := [], laidByText := true, laidKinds := [.data, .data, .data], laidTests := true, laidLooks := .later }
def TermMakesUptoCardSaid : Prop := Claim7.holds Tryz.pinned (.plain (OpenSpec.upto termMakesSpec)) termMakesUptoCard

/-- THE SECOND FORM's CARD OF 'cassocklaw03.TermShown'. -/
def termShownUptoCard : Claim7 := { stood := { row := termShownUptoRow, standIns := [], harness := (true, "7c11498feb8c762a3386bd46a39670e545f32333bf56b1a347c367832a46f97a"), looks := true }, kinds := [], alts := [], laidByText := true, laidKinds := [.data, .data, .data], laidTests := true, laidLooks := .later }
def TermShownUptoCardSaid : Prop := Claim7.holds Tryz.pinned (.plain (OpenSpec.upto termShownSpec)) termShownUptoCard

/-- THE SECOND FORM's CARD OF 'cassocklaw03.TermBelow'. -/
def termBelowUptoCard : Claim7 := { stood := { row := termBelowUptoRow, standIns := [], harness := (true, "7c11498feb8c762a3386bd46a39670e545f32333bf56b1a347c367832a46f97a"), looks := true }, kinds := [], alts := [], laidByText := true, laidKinds := [.data, .data, .data], laidTests := true, laidLooks := .later }
def TermBelowUptoCardSaid : Prop := Claim7.holds Tryz.pinned (.plain (OpenSpec.upto termBelowSpec)) termBelowUptoCard

/-- THE SECOND FORM's CARD OF 'cassocklaw03.TermParts'. -/
def termPartsUptoCard : Claim7 := { stood := { row := termPartsUptoRow, standIns := [], harness := (true, "7c11498feb8c762a3386bd46a39670e545f32333bf56b1a347c367832a46f97a"), looks := true }, kinds := [], alts := [], laidByText := true, laidKinds := [.data, .data, .data], laidTests := true, laidLooks := .later }
def TermPartsUptoCardSaid : Prop := Claim7.holds Tryz.pinned (.plain (OpenSpec.upto termPartsSpec)) termPartsUptoCard

/-- THE SECOND FORM's CARD OF 'cassocklaw03.TermShort'. -/
def termShortUptoCard : Claim7 := { stood := { row := termShortUptoRow, standIns := [], harness := (true, "7c11498feb8c762a3386bd46a39670e545f32333bf56b1a347c367832a46f97a"), looks := true }, kinds := [], alts := [], laidByText := true, laidKinds := [.data, .data, .data], laidTests := true, laidLooks := .later }
def TermShortUptoCardSaid : Prop := Claim7.holds Tryz.pinned (.plain (OpenSpec.upto termShortSpec)) termShortUptoCard
end Rows
end Go.Proofs.YtadbgmfdbahcbaaGreatDoor
