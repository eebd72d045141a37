/-
  DERIVED. GIVEN WITH THE SEED: THE CARDS: each row of YtpkijlmkgomfeaaGreatDoorRows.lean that lists a variable, with what it lists TIED to the program's text (the seventh form; the later family's looks); each row that meets fmt, with fmt's text TOLD by the authors' own Lean function (tested against real Go, not proved from fmt's source: count such statements apart). THE CARD IS WHAT COUNTS. Prove the row's statement (the work); the ties are given (YtpkijlmkgomfeaaGreatDoorTie.lean); close each card by the builder's one call (the guide's Derived/Test/ToyasCard.lean, 'card_holds'). Laid BY PROGRAM, IN A SANDBOX (cutbox-door.mjs). By AI agents, Wed Nov 11 2026. No macro, syntax, notation, axiom, sorry.
-/
import Derived.Test.YtpkijlmkgomfeaaGreatDoorRows
import GoSem.ClaimSeven
namespace Go.Proofs.YtpkijlmkgomfeaaGreatDoor
namespace Rows

/-- THE TIED CARD OF 'cassocklaw15.ProposalBad'. -/
def proposalBadCard : Claim7 := { stood := { row := proposalBadRow, standIns := [], harness := (true, "79a31809c00973e6284305b97b64a6858a41f1eb0dc26f99944a3dd95014b692"), looks := false }, kinds := [], alts := [], laidByText := true, laidKinds := [.data, .data, .data], laidTests := true, laidLooks := .later }
def ProposalBadCardSaid : Prop := Claim7.holds Tryz.pinned (.plain (OpenSpec.ofChange proposalBadSpec)) proposalBadCard

/-- THE TIED CARD OF 'cassocklaw15.ProposalTerms'. -/
def proposalTermsCard : Claim7 := { stood := { row := proposalTermsRow, standIns := [], harness := (true, "79a31809c00973e6284305b97b64a6858a41f1eb0dc26f99944a3dd95014b692"), looks := false }, kinds := [], alts := [], laidByText := true, laidKinds := [.data, .data, .data], laidTests := true, laidLooks := .later }
def ProposalTermsCardSaid : Prop := Claim7.holds Tryz.pinned (.plain (OpenSpec.ofChange proposalTermsSpec)) proposalTermsCard

/-- THE TIED CARD OF 'cassocklaw15.ProposalApart'. -/
def proposalApartCard : Claim7 := { stood := { row := proposalApartRow, standIns := [], harness := (true, "79a31809c00973e6284305b97b64a6858a41f1eb0dc26f99944a3dd95014b692"), looks := false }, kinds := [], alts := [], laidByText := true, laidKinds := [.data, .data, .data], laidTests := true, laidLooks := .later }
def ProposalApartCardSaid : Prop := Claim7.holds Tryz.pinned (.plain (OpenSpec.ofChange proposalApartSpec)) proposalApartCard

/-- THE TIED CARD OF 'cassocklaw10.PathMakes'. -/
def pathMakesCard : Claim7 := { stood := { row := pathMakesRow, standIns := [], harness := (true, "79a31809c00973e6284305b97b64a6858a41f1eb0dc26f99944a3dd95014b692"), looks := false }, kinds := [], alts := [], laidByText := true, laidKinds := [.data, .data, .data], laidTests := true, laidLooks := .later }
def PathMakesCardSaid : Prop := Claim7.holds Tryz.pinned (.plain (OpenSpec.ofChange pathMakesSpec)) pathMakesCard

/-- THE TIED CARD OF 'cassocklaw10.PathAgrees'. -/
def pathAgreesCard : Claim7 := { stood := { row := pathAgreesRow, standIns := [], harness := (true, "79a31809c00973e6284305b97b64a6858a41f1eb0dc26f99944a3dd95014b692"), looks := false }, kinds := [], alts := [], laidByText := true, laidKinds := [.data, .data, .data], laidTests := true, laidLooks := .later }
def PathAgreesCardSaid : Prop := Claim7.holds Tryz.pinned (.plain (OpenSpec.ofChange pathAgreesSpec)) pathAgreesCard

/-- THE SECOND FORM's CARD OF 'cassocklaw15.ProposalBad'. -/
def proposalBadUptoCard : Claim7 := { stood := { row := proposalBadUptoRow, standIns := [], harness := (true, "79a31809c00973e6284305b97b64a6858a41f1eb0dc26f99944a3dd95014b692"), looks := false }, kinds := [], alts := [], laidByText := true, laidKinds := [.data, .data, .data], laidTests := true, laidLooks := .later }
def ProposalBadUptoCardSaid : Prop := Claim7.holds Tryz.pinned (.plain (OpenSpec.upto proposalBadSpec)) proposalBadUptoCard

/-- THE SECOND FORM's CARD OF 'cassocklaw15.ProposalTerms'. -/
def proposalTermsUptoCard : Claim7 := { stood := { row := proposalTermsUptoRow, standIns := [], harness := (true, "79a31809c00973e6284305b97b64a6858a41f1eb0dc26f99944a3dd95014b692"), looks := false }, kinds := [], alts := [], laidByText := true, laidKinds := [.data, .data, .data], laidTests := true, laidLooks := .later }
def ProposalTermsUptoCardSaid : Prop := Claim7.holds Tryz.pinned (.plain (OpenSpec.upto proposalTermsSpec)) proposalTermsUptoCard

/-- THE SECOND FORM's CARD OF 'cassocklaw15.ProposalApart'. -/
def proposalApartUptoCard : Claim7 := { stood := { row := proposalApartUptoRow, standIns := [], harness := (true, "79a31809c00973e6284305b97b64a6858a41f1eb0dc26f99944a3dd95014b692"), looks := false }, kinds := [], alts := [], laidByText := true, laidKinds := [.data, .data, .data], laidTests := true, laidLooks := .later }
def ProposalApartUptoCardSaid : Prop := Claim7.holds Tryz.pinned (.plain (OpenSpec.upto proposalApartSpec)) proposalApartUptoCard

/-- THE SECOND FORM's CARD OF 'cassocklaw10.PathMakes'. -/
def pathMakesUptoCard : Claim7 := { stood := { row := pathMakesUptoRow, standIns := [], harness := (true, "79a31809c00973e6284305b97b64a6858a41f1eb0dc26f99944a3dd95014b692"), looks := false }, kinds := [], alts := [], laidByText := true, laidKinds := [.data, .data, .data], laidTests := true, laidLooks := .later }
def PathMakesUptoCardSaid : Prop := Claim7.holds Tryz.pinned (.plain (OpenSpec.upto pathMakesSpec)) pathMakesUptoCard

/-- THE SECOND FORM's CARD OF 'cassocklaw10.PathAgrees'. -/
def pathAgreesUptoCard : Claim7 := { stood := { row := pathAgreesUptoRow, standIns := [], harness := (true, "79a31809c00973e6284305b97b64a6858a41f1eb0dc26f99944a3dd95014b692"), looks := false }, kinds := [], alts := [], laidByText := true, laidKinds := [.data, .data, .data], laidTests := true, laidLooks := .later }
def PathAgreesUptoCardSaid : Prop := Claim7.holds Tryz.pinned (.plain (OpenSpec.upto pathAgreesSpec)) pathAgreesUptoCard
end Rows
end Go.Proofs.YtpkijlmkgomfeaaGreatDoor
