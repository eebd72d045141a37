/-
  DERIVED. GIVEN WITH THE SEED: THE CARDS: each row of YtadbgmfdbahcbaaDoorRows.lean that lists a variable, with what it lists TIED to the program's text (the seventh form; the later family's looks); each row that meets fmt, with fmt's text TOLD by the authors' own Lean function (tested against real Go, not proved from fmt's source: count such statements apart). THE CARD IS WHAT COUNTS. Prove the row's statement (the work); the ties are given (YtadbgmfdbahcbaaDoorTie.lean); close each card by the builder's one call (the guide's Derived/Test/ToyasCard.lean, 'card_holds'). Laid BY PROGRAM, IN A SANDBOX (cutbox-door.mjs). By AI agents, Wed Nov 11 2026. No macro, syntax, notation, axiom, sorry.
-/
import Derived.Test.YtadbgmfdbahcbaaDoorRows
import GoSem.ClaimSeven
namespace Go.Proofs.YtadbgmfdbahcbaaDoor
namespace Rows

/-- THE TIED CARD OF 'cassocklaw05.DeduceNames'. -/
def deduceNamesCard : Claim7 := { stood := { row := deduceNamesRow, standIns := [], harness := (true, "183de4d3bd39a5722b58783645d9acb67c974ff61f78a9d3cc215c502679b2a5"), looks := false }, kinds := [], alts := [], laidByText := true, laidKinds := [.data, .data, .data], laidTests := true, laidLooks := .later }
def DeduceNamesCardSaid : Prop := Claim7.holds Tryd.pinned (.plain (OpenSpec.ofChange deduceNamesSpec)) deduceNamesCard

/-- THE TIED CARD OF 'cassocklaw05.DeducePatterns'. -/
def deducePatternsCard : Claim7 := { stood := { row := deducePatternsRow, standIns := [], harness := (true, "183de4d3bd39a5722b58783645d9acb67c974ff61f78a9d3cc215c502679b2a5"), looks := false }, kinds := [], alts := [], laidByText := true, laidKinds := [.data, .data, .data], laidTests := true, laidLooks := .later }
def DeducePatternsCardSaid : Prop := Claim7.holds Tryd.pinned (.plain (OpenSpec.ofChange deducePatternsSpec)) deducePatternsCard

/-- THE TIED CARD OF 'cassocklaw05.DeduceAlike'. -/
def deduceAlikeCard : Claim7 := { stood := { row := deduceAlikeRow, standIns := [], harness := (true, "183de4d3bd39a5722b58783645d9acb67c974ff61f78a9d3cc215c502679b2a5"), looks := false }, kinds := [], alts := [], laidByText := true, laidKinds := [.data, .data, .data], laidTests := true, laidLooks := .later }
def DeduceAlikeCardSaid : Prop := Claim7.holds Tryd.pinned (.plain (OpenSpec.ofChange deduceAlikeSpec)) deduceAlikeCard

/-- THE TIED CARD OF 'cassocklaw05.DeduceKnows'. -/
def deduceKnowsCard : Claim7 := { stood := { row := deduceKnowsRow, standIns := [], harness := (true, "183de4d3bd39a5722b58783645d9acb67c974ff61f78a9d3cc215c502679b2a5"), looks := false }, kinds := [], alts := [], laidByText := true, laidKinds := [.data, .data, .data], laidTests := true, laidLooks := .later }
def DeduceKnowsCardSaid : Prop := Claim7.holds Tryd.pinned (.plain (OpenSpec.ofChange deduceKnowsSpec)) deduceKnowsCard

/-- THE TIED CARD OF 'cassocklaw05.DeduceMore'. -/
def deduceMoreCard : Claim7 := { stood := { row := deduceMoreRow, standIns := [], harness := (true, "183de4d3bd39a5722b58783645d9acb67c974ff61f78a9d3cc215c502679b2a5"), looks := false }, kinds := [], alts := [], laidByText := true, laidKinds := [.data, .data, .data], laidTests := true, laidLooks := .later }
def DeduceMoreCardSaid : Prop := Claim7.holds Tryd.pinned (.plain (OpenSpec.ofChange deduceMoreSpec)) deduceMoreCard

/-- THE SECOND FORM's CARD OF 'cassocklaw05.DeduceNames'. -/
def deduceNamesUptoCard : Claim7 := { stood := { row := deduceNamesUptoRow, standIns := [], harness := (true, "183de4d3bd39a5722b58783645d9acb67c974ff61f78a9d3cc215c502679b2a5"), looks := false }, kinds := [], alts := [], laidByText := true, laidKinds := [.data, .data, .data], laidTests := true, laidLooks := .later }
def DeduceNamesUptoCardSaid : Prop := Claim7.holds Tryd.pinned (.plain (OpenSpec.upto deduceNamesSpec)) deduceNamesUptoCard

/-- THE SECOND FORM's CARD OF 'cassocklaw05.DeducePatterns'. -/
def deducePatternsUptoCard : Claim7 := { stood := { row := deducePatternsUptoRow, standIns := [], harness := (true, "183de4d3bd39a5722b58783645d9acb67c974ff61f78a9d3cc215c502679b2a5"), looks := false }, kinds := [], alts := [], laidByText := true, laidKinds := [.data, .data, .data], laidTests := true, laidLooks := .later }
def DeducePatternsUptoCardSaid : Prop := Claim7.holds Tryd.pinned (.plain (OpenSpec.upto deducePatternsSpec)) deducePatternsUptoCard

/-- THE SECOND FORM's CARD OF 'cassocklaw05.DeduceAlike'. -/
def deduceAlikeUptoCard : Claim7 := { stood := { row := deduceAlikeUptoRow, standIns := [], harness := (true, "183de4d3bd39a5722b58783645d9acb67c974ff61f78a9d3cc215c502679b2a5"), looks := false }, kinds := [], alts := [], laidByText := true, laidKinds := [.data, .data, .data], laidTests := true, laidLooks := .later }
def DeduceAlikeUptoCardSaid : Prop := Claim7.holds Tryd.pinned (.plain (OpenSpec.upto deduceAlikeSpec)) deduceAlikeUptoCard

/-- THE SECOND FORM's CARD OF 'cassocklaw05.DeduceKnows'. -/
def deduceKnowsUptoCard : Claim7 := { stood := { row := deduceKnowsUptoRow, standIns := [], harness := (true, "183de4d3bd39a5722b58783645d9acb67c974ff61f78a9d3cc215c502679b2a5"), looks := false }, kinds := [], alts := [], laidByText := true, laidKinds := [.data, .data, .data], laidTests := true, laidLooks := .later }
def DeduceKnowsUptoCardSaid : Prop := Claim7.holds Tryd.pinned (.plain (OpenSpec.upto deduceKnowsSpec)) deduceKnowsUptoCard

/-- THE SECOND FORM's CARD OF 'cassocklaw05.DeduceMore'. -/
def deduceMoreUptoCard : Claim7 := { stood := { row := deduceMoreUptoRow, standIns := [], harness := (true, "183de4d3bd39a5722b58783645d9acb67c974ff61f78a9d3cc215c502679b2a5"), looks := false }, kinds := [], alts := [], laidByText := true, laidKinds := [.data, .data, .data], laidTests := true, laidLooks := .later }
def DeduceMoreUptoCardSaid : Prop := Claim7.holds Tryd.pinned (.plain (OpenSpec.upto deduceMoreSpec)) deduceMoreUptoCard
end Rows
end Go.Proofs.YtadbgmfdbahcbaaDoor
