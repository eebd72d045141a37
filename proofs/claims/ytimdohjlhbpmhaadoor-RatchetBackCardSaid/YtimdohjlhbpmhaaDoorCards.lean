/-
  DERIVED. GIVEN WITH THE SEED: THE CARDS: each row of YtimdohjlhbpmhaaDoorRows.lean that lists a variable, with what it lists TIED to the program's text (the seventh form; the later family's looks); each row that meets fmt, with fmt's text TOLD by the authors' own Lean function (tested against real Go, not proved from fmt's source: count such statements apart). THE CARD IS WHAT COUNTS. Prove the row's statement (the work); the ties are given (YtimdohjlhbpmhaaDoorTie.lean); close each card by the builder's one call (the guide's Derived/Test/ToyasCard.lean, 'card_holds'). Laid BY PROGRAM, IN A SANDBOX (cutbox-door.mjs). By AI agents, Wed Nov 11 2026. No macro, syntax, notation, axiom, sorry.
-/
import Derived.Test.YtimdohjlhbpmhaaDoorRows
import GoSem.ClaimSeven
namespace Go.Proofs.YtimdohjlhbpmhaaDoor
namespace Rows

/-- THE TIED CARD OF 'cassocklaw07.RatchetAdds'. -/
def ratchetAddsCard : Claim7 := { stood := { row := ratchetAddsRow, standIns := [], harness := (true, "732ed59c7478d288f23828418e0d5696eff5615ba6828767d7225fbc21a79398"), looks := false }, kinds := [], alts := [], laidByText := true, laidKinds := [.data, .data], laidTests := true, laidLooks := .later }
def RatchetAddsCardSaid : Prop := Claim7.holds Tryd.pinned (.plain (OpenSpec.ofChange ratchetAddsSpec)) ratchetAddsCard

/-- THE TIED CARD OF 'cassocklaw07.RatchetGoes'. -/
def ratchetGoesCard : Claim7 := { stood := { row := ratchetGoesRow, standIns := [], harness := (true, "732ed59c7478d288f23828418e0d5696eff5615ba6828767d7225fbc21a79398"), looks := false }, kinds := [], alts := [], laidByText := true, laidKinds := [.data, .data], laidTests := true, laidLooks := .later }
def RatchetGoesCardSaid : Prop := Claim7.holds Tryd.pinned (.plain (OpenSpec.ofChange ratchetGoesSpec)) ratchetGoesCard

/-- THE TIED CARD OF 'cassocklaw07.RatchetMay'. -/
def ratchetMayCard : Claim7 := { stood := { row := ratchetMayRow, standIns := [], harness := (true, "732ed59c7478d288f23828418e0d5696eff5615ba6828767d7225fbc21a79398"), looks := false }, kinds := [], alts := [], laidByText := true, laidKinds := [.data, .data], laidTests := true, laidLooks := .later }
def RatchetMayCardSaid : Prop := Claim7.holds Tryd.pinned (.plain (OpenSpec.ofChange ratchetMaySpec)) ratchetMayCard

/-- THE TIED CARD OF 'cassocklaw07.RatchetBack'. -/
def ratchetBackCard : Claim7 := { stood := { row := ratchetBackRow, standIns := [], harness := (true, "732ed59c7478d288f23828418e0d5696eff5615ba6828767d7225fbc21a79398"), looks := false }, kinds := [], alts := [], laidByText := true, laidKinds := [.data, .data], laidTests := true, laidLooks := .later }
def RatchetBackCardSaid : Prop := Claim7.holds Tryd.pinned (.plain (OpenSpec.ofChange ratchetBackSpec)) ratchetBackCard

/-- THE TIED CARD OF 'cassocklaw07.RatchetChecks'. -/
def ratchetChecksCard : Claim7 := { stood := { row := ratchetChecksRow, standIns := [], harness := (true, "732ed59c7478d288f23828418e0d5696eff5615ba6828767d7225fbc21a79398"), looks := false }, kinds := [], alts := [], laidByText := true, laidKinds := [.data, .data], laidTests := true, laidLooks := .later }
def RatchetChecksCardSaid : Prop := Claim7.holds Tryd.pinned (.plain (OpenSpec.ofChange ratchetChecksSpec)) ratchetChecksCard

/-- THE SECOND FORM's CARD OF 'cassocklaw07.RatchetAdds'. -/
def ratchetAddsUptoCard : Claim7 := { stood := { row := ratchetAddsUptoRow, standIns := [], harness := (true, "732ed59c7478d288f23828418e0d5696eff5615ba6828767d7225fbc21a79398"), looks := false }, kinds := [], alts := [], laidByText := true, laidKinds := [.data, .data], laidTests := true, laidLooks := .later }
def RatchetAddsUptoCardSaid : Prop := Claim7.holds Tryd.pinned (.plain (OpenSpec.upto ratchetAddsSpec)) ratchetAddsUptoCard

/-- THE SECOND FORM's CARD OF 'cassocklaw07.RatchetGoes'. -/
def ratchetGoesUptoCard : Claim7 := { stood := { row := ratchetGoesUptoRow, standIns := [], harness := (true, "732ed59c7478d288f23828418e0d5696eff5615ba6828767d7225fbc21a79398"), looks := false }, kinds := [], alts := [], laidByText := true, laidKinds := [.data, .data], laidTests := true, laidLooks := .later }
def RatchetGoesUptoCardSaid : Prop := Claim7.holds Tryd.pinned (.plain (OpenSpec.upto ratchetGoesSpec)) ratchetGoesUptoCard

/-- THE SECOND FORM's CARD OF 'cassocklaw07.RatchetMay'. -/
def ratchetMayUptoCard : Claim7 := { stood := { row := ratchetMayUptoRow, standIns := [], harness := (true, "732ed59c7478d288f23828418e0d5696eff5615ba6828767d7225fbc21a79398"), looks := false }, kinds := [], alts := [], laidByText := true, laidKinds := [.data, .data], laidTests := true, laidLooks := .later }
def RatchetMayUptoCardSaid : Prop := Claim7.holds Tryd.pinned (.plain (OpenSpec.upto ratchetMaySpec)) ratchetMayUptoCard

/-- THE SECOND FORM's CARD OF 'cassocklaw07.RatchetBack'. -/
def ratchetBackUptoCard : Claim7 := { stood := { row := ratchetBackUptoRow, standIns := [], harness := (true, "732ed59c7478d288f23828418e0d5696eff5615ba6828767d7225fbc21a79398"), looks := false }, kinds := [], alts := [], laidByText := true, laidKinds := [.data, .data], laidTests := true, laidLooks := .later }
def RatchetBackUptoCardSaid : Prop := Claim7.holds Tryd.pinned (.plain (OpenSpec.upto ratchetBackSpec)) ratchetBackUptoCard

/-- THE SECOND FORM's CARD OF 'cassocklaw07.RatchetChecks'. -/
def ratchetChecksUptoCard : Claim7 := { stood := { row := ratchetChecksUptoRow, standIns := [], harness := (true, "732ed59c7478d288f23828418e0d5696eff5615ba6828767d7225fbc21a79398"), looks := false }, kinds := [], alts := [], laidByText := true, laidKinds := [.data, .data], laidTests := true, laidLooks := .later }
def RatchetChecksUptoCardSaid : Prop := Claim7.holds Tryd.pinned (.plain (OpenSpec.upto ratchetChecksSpec)) ratchetChecksUptoCard
end Rows
end Go.Proofs.YtimdohjlhbpmhaaDoor
