/-
  DERIVED. GIVEN WITH THE SEED: THE CARDS: each row of YtanakgbhmmemoaaDoorRows.lean that lists a variable, with what it lists TIED to the program's text (the seventh form; the later family's looks); each row that meets fmt, with fmt's text TOLD by the authors' own Lean function (tested against real Go, not proved from fmt's source: count such statements apart). THE CARD IS WHAT COUNTS. Prove the row's statement (the work); the ties are given (YtanakgbhmmemoaaDoorTie.lean); close each card by the builder's one call (the guide's Derived/Test/ToyasCard.lean, 'card_holds'). Laid BY PROGRAM, IN A SANDBOX (cutbox-door.mjs). By AI agents, Wed Nov 11 2026. No macro, syntax, notation, axiom, sorry.
-/
import Derived.Test.YtanakgbhmmemoaaDoorRows
import GoSem.ClaimSeven
namespace Go.Proofs.YtanakgbhmmemoaaDoor
namespace Rows

/-- THE TIED CARD OF 'cassocklaw17.TokenDoes'. -/
def tokenDoesCard : Claim7 := { stood := { row := tokenDoesRow, standIns := [], harness := (true, "f82d52cbd0b9184fce3bc3b280d0f392d718e423b5226d29f6b39512b7240cfb"), looks := false }, kinds := [], alts := [], laidByText := true, laidKinds := [.data, .data, .data], laidTests := true, laidLooks := .later }
def TokenDoesCardSaid : Prop := Claim7.holds Tryd.pinned (.plain (OpenSpec.ofChange tokenDoesSpec)) tokenDoesCard

/-- THE TIED CARD OF 'cassocklaw17.TokenOnce'. -/
def tokenOnceCard : Claim7 := { stood := { row := tokenOnceRow, standIns := [], harness := (true, "f82d52cbd0b9184fce3bc3b280d0f392d718e423b5226d29f6b39512b7240cfb"), looks := false }, kinds := [], alts := [], laidByText := true, laidKinds := [.data, .data, .data], laidTests := true, laidLooks := .later }
def TokenOnceCardSaid : Prop := Claim7.holds Tryd.pinned (.plain (OpenSpec.ofChange tokenOnceSpec)) tokenOnceCard

/-- THE TIED CARD OF 'cassocklaw17.TokenWrong'. -/
def tokenWrongCard : Claim7 := { stood := { row := tokenWrongRow, standIns := [], harness := (true, "f82d52cbd0b9184fce3bc3b280d0f392d718e423b5226d29f6b39512b7240cfb"), looks := false }, kinds := [], alts := [], laidByText := true, laidKinds := [.data, .data, .data], laidTests := true, laidLooks := .later }
def TokenWrongCardSaid : Prop := Claim7.holds Tryd.pinned (.plain (OpenSpec.ofChange tokenWrongSpec)) tokenWrongCard

/-- THE TIED CARD OF 'cassocklaw17.TokenCounts'. -/
def tokenCountsCard : Claim7 := { stood := { row := tokenCountsRow, standIns := [], harness := (true, "f82d52cbd0b9184fce3bc3b280d0f392d718e423b5226d29f6b39512b7240cfb"), looks := false }, kinds := [], alts := [], laidByText := true, laidKinds := [.data, .data, .data], laidTests := true, laidLooks := .later }
def TokenCountsCardSaid : Prop := Claim7.holds Tryd.pinned (.plain (OpenSpec.ofChange tokenCountsSpec)) tokenCountsCard

/-- THE TIED CARD OF 'cassocklaw17.TokenBlind'. -/
def tokenBlindCard : Claim7 := { stood := { row := tokenBlindRow, standIns := [], harness := (true, "f82d52cbd0b9184fce3bc3b280d0f392d718e423b5226d29f6b39512b7240cfb"), looks := false }, kinds := [], alts := [], laidByText := true, laidKinds := [.data, .data, .data], laidTests := true, laidLooks := .later }
def TokenBlindCardSaid : Prop := Claim7.holds Tryd.pinned (.plain (OpenSpec.ofChange tokenBlindSpec)) tokenBlindCard

/-- THE SECOND FORM's CARD OF 'cassocklaw17.TokenDoes'. -/
def tokenDoesUptoCard : Claim7 := { stood := { row := tokenDoesUptoRow, standIns := [], harness := (true, "f82d52cbd0b9184fce3bc3b280d0f392d718e423b5226d29f6b39512b7240cfb"), looks := false }, kinds := [], alts := [], laidByText := true, laidKinds := [.data, .data, .data], laidTests := true, laidLooks := .later }
def TokenDoesUptoCardSaid : Prop := Claim7.holds Tryd.pinned (.plain (OpenSpec.upto tokenDoesSpec)) tokenDoesUptoCard

/-- THE SECOND FORM's CARD OF 'cassocklaw17.TokenOnce'. -/
def tokenOnceUptoCard : Claim7 := { stood := { row := tokenOnceUptoRow, standIns := [], harness := (true, "f82d52cbd0b9184fce3bc3b280d0f392d718e423b5226d29f6b39512b7240cfb"), looks := false }, kinds := [], alts := [], laidByText := true, laidKinds := [.data, .data, .data], laidTests := true, laidLooks := .later }
def TokenOnceUptoCardSaid : Prop := Claim7.holds Tryd.pinned (.plain (OpenSpec.upto tokenOnceSpec)) tokenOnceUptoCard

/-- THE SECOND FORM's CARD OF 'cassocklaw17.TokenWrong'. -/
def tokenWrongUptoCard : Claim7 := { stood := { row := tokenWrongUptoRow, standIns := [], harness := (true, "f82d52cbd0b9184fce3bc3b280d0f392d718e423b5226d29f6b39512b7240cfb"), looks := false }, kinds := [], alts := [], laidByText := true, laidKinds := [.data, .data, .data], laidTests := true, laidLooks := .later }
def TokenWrongUptoCardSaid : Prop := Claim7.holds Tryd.pinned (.plain (OpenSpec.upto tokenWrongSpec)) tokenWrongUptoCard

/-- THE SECOND FORM's CARD OF 'cassocklaw17.TokenCounts'. -/
def tokenCountsUptoCard : Claim7 := { stood := { row := tokenCountsUptoRow, standIns := [], harness := (true, "f82d52cbd0b9184fce3bc3b280d0f392d718e423b5226d29f6b39512b7240cfb"), looks := false }, kinds := [], alts := [], laidByText := true, laidKinds := [.data, .data, .data], laidTests := true, laidLooks := .later }
def TokenCountsUptoCardSaid : Prop := Claim7.holds Tryd.pinned (.plain (OpenSpec.upto tokenCountsSpec)) tokenCountsUptoCard

/-- THE SECOND FORM's CARD OF 'cassocklaw17.TokenBlind'. -/
def tokenBlindUptoCard : Claim7 := { stood := { row := tokenBlindUptoRow, standIns := [], harness := (true, "f82d52cbd0b9184fce3bc3b280d0f392d718e423b5226d29f6b39512b7240cfb"), looks := false }, kinds := [], alts := [], laidByText := true, laidKinds := [.data, .data, .data], laidTests := true, laidLooks := .later }
def TokenBlindUptoCardSaid : Prop := Claim7.holds Tryd.pinned (.plain (OpenSpec.upto tokenBlindSpec)) tokenBlindUptoCard
end Rows
end Go.Proofs.YtanakgbhmmemoaaDoor
