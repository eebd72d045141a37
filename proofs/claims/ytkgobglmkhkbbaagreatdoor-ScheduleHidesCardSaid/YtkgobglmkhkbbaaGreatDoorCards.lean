/-
  DERIVED. GIVEN WITH THE SEED: THE CARDS: each row of YtkgobglmkhkbbaaGreatDoorRows.lean that lists a variable, with what it lists TIED to the program's text (the seventh form; the later family's looks); each row that meets fmt, with fmt's text TOLD by the authors' own Lean function (tested against real Go, not proved from fmt's source: count such statements apart). THE CARD IS WHAT COUNTS. Prove the row's statement (the work); the ties are given (YtkgobglmkhkbbaaGreatDoorTie.lean); close each card by the builder's one call (the guide's Derived/Test/ToyasCard.lean, 'card_holds'). Laid BY PROGRAM, IN A SANDBOX (cutbox-door.mjs). By AI agents, Wed Nov 11 2026. No macro, syntax, notation, axiom, sorry.
-/
import Derived.Test.YtkgobglmkhkbbaaGreatDoorRows
import GoSem.ClaimSeven
namespace Go.Proofs.YtkgobglmkhkbbaaGreatDoor
namespace Rows

/-- THE TIED CARD OF 'cassocklaw11.ScheduleJoins'. -/
def scheduleJoinsCard : Claim7 := { stood := { row := scheduleJoinsRow, standIns := [], harness := (true, "1fe5c093b637dd044910f0acd73484d515b3fc328fdd27361427a674091e45cb"), looks := true }, kinds := [], alts := [], laidByText := true, laidKinds := [.data, .data, .data], laidTests := true, laidLooks := .later }
def ScheduleJoinsCardSaid : Prop := Claim7.holds Tryz.pinned (.plain (OpenSpec.ofChange scheduleJoinsSpec)) scheduleJoinsCard

/-- THE TIED CARD OF 'cassocklaw11.SchedulePsk'. -/
def schedulePskCard : Claim7 := { stood := { row := schedulePskRow, standIns := [], harness := (true, "1fe5c093b637dd044910f0acd73484d515b3fc328fdd27361427a674091e45cb"), looks := true }, kinds := [], alts := [], laidByText := true, laidKinds := [.data, .data, .data], laidTests := true, laidLooks := .later }
def SchedulePskCardSaid : Prop := Claim7.holds Tryz.pinned (.plain (OpenSpec.ofChange schedulePskSpec)) schedulePskCard

/-- THE TIED CARD OF 'cassocklaw11.ScheduleApart'. -/
def scheduleApartCard : Claim7 := { stood := { row := scheduleApartRow, standIns := [], harness := (true, "1fe5c093b637dd044910f0acd73484d515b3fc328fdd27361427a674091e45cb"), looks := true }, kinds := [], alts := [], laidByText := true, laidKinds := [.data, .data, .data], laidTests := true, laidLooks := .later }
def ScheduleApartCardSaid : Prop := Claim7.holds Tryz.pinned (.plain (OpenSpec.ofChange scheduleApartSpec)) scheduleApartCard

/-- THE TIED CARD OF 'cassocklaw11.ScheduleDerives'. -/
def scheduleDerivesCard : Claim7 := { stood := { row := scheduleDerivesRow, standIns := [], harness := (true, "1fe5c093b637dd044910f0acd73484d515b3fc328fdd27361427a674091e45cb"), looks := true }, kinds := [], alts := [], laidByText := true, laidKinds := [.data, .data, .data], laidTests := true, laidLooks := .later }
def ScheduleDerivesCardSaid : Prop := Claim7.holds Tryz.pinned (.plain (OpenSpec.ofChange scheduleDerivesSpec)) scheduleDerivesCard

/-- THE TIED CARD OF 'cassocklaw11.ScheduleHides'. -/
def scheduleHidesCard : Claim7 := { stood := { row := scheduleHidesRow, standIns := [], harness := (true, "1fe5c093b637dd044910f0acd73484d515b3fc328fdd27361427a674091e45cb"), looks := true }, kinds := [], alts := [], laidByText := true, laidKinds := [.data, .data, .data], laidTests := true, laidLooks := .later }
def ScheduleHidesCardSaid : Prop := Claim7.holds Tryz.pinned (.plain (OpenSpec.ofChange scheduleHidesSpec)) scheduleHidesCard

/-- THE TIED CARD OF 'cassocklaw12.TranscriptBack'. -/
def transcriptBackCard : Claim7 := { stood := { row := transcriptBackRow, standIns := [], harness := (true, "1fe5c093b637dd044910f0acd73484d515b3fc328fdd27361427a674091e45cb"), looks := true }, kinds := [], alts := [], laidByText := true, laidKinds := [.data, .data, .data, .sentinel, .sentinel], laidTests := true, laidLooks := .later }
def TranscriptBackCardSaid : Prop := Claim7.holds Tryz.pinned (.plain (OpenSpec.ofChange transcriptBackSpec)) transcriptBackCard

/-- THE TIED CARD OF 'cassocklaw12.TranscriptReads'. -/
def transcriptReadsCard : Claim7 := { stood := { row := transcriptReadsRow, standIns := [], harness := (true, "1fe5c093b637dd044910f0acd73484d515b3fc328fdd27361427a674091e45cb"), looks := true }, kinds := [], alts := [], laidByText := true, laidKinds := [.data, .data, .data, .sentinel, .sentinel], laidTests := true, laidLooks := .later }
def TranscriptReadsCardSaid : Prop := Claim7.holds Tryz.pinned (.plain (OpenSpec.ofChange transcriptReadsSpec)) transcriptReadsCard

/-- THE TIED CARD OF 'cassocklaw12.TranscriptTags'. -/
def transcriptTagsCard : Claim7 := { stood := { row := transcriptTagsRow, standIns := [], harness := (true, "1fe5c093b637dd044910f0acd73484d515b3fc328fdd27361427a674091e45cb"), looks := true }, kinds := [], alts := [], laidByText := true, laidKinds := [.data, .data, .data, .sentinel, .sentinel], laidTests := true, laidLooks := .later }
def TranscriptTagsCardSaid : Prop := Claim7.holds Tryz.pinned (.plain (OpenSpec.ofChange transcriptTagsSpec)) transcriptTagsCard

/-- THE TIED CARD OF 'cassocklaw12.TranscriptMakes'. -/
def transcriptMakesCard : Claim7 := { stood := { row := transcriptMakesRow, standIns := [], harness := (true, "1fe5c093b637dd044910f0acd73484d515b3fc328fdd27361427a674091e45cb"), looks := true }, kinds := [], alts := [], laidByText := true, laidKinds := [.data, .data, .data, .sentinel, .sentinel], laidTests := true, laidLooks := .later }
def TranscriptMakesCardSaid : Prop := Claim7.holds Tryz.pinned (.plain (OpenSpec.ofChange transcriptMakesSpec)) transcriptMakesCard

/-- THE TIED CARD OF 'cassocklaw12.TranscriptApart'. -/
def transcriptApartCard : Claim7 := { stood := { row := transcriptApartRow, standIns := [], harness := (true, "1fe5c093b637dd044910f0acd73484d515b3fc328fdd27361427a674091e45cb"), looks := true }, kinds := [], alts := [], laidByText := true, laidKinds := [.data, .data, .data, .sentinel, .sentinel], laidTests := true, laidLooks := .later }
def TranscriptApartCardSaid : Prop := Claim7.holds Tryz.pinned (.plain (OpenSpec.ofChange transcriptApartSpec)) transcriptApartCard

/-- THE TIED CARD OF 'cassocklaw12.TranscriptGoes'. -/
def transcriptGoesCard : Claim7 := { stood := { row := transcriptGoesRow, standIns := [], harness := (true, "1fe5c093b637dd044910f0acd73484d515b3fc328fdd27361427a674091e45cb"), looks := true }, kinds := [], alts := [], laidByText := true, laidKinds := [.data, .data, .data, .sentinel, .sentinel], laidTests := true, laidLooks := .later }
def TranscriptGoesCardSaid : Prop := Claim7.holds Tryz.pinned (.plain (OpenSpec.ofChange transcriptGoesSpec)) transcriptGoesCard

/-- THE SECOND FORM's CARD OF 'cassocklaw11.ScheduleJoins'. -/
def scheduleJoinsUptoCard : Claim7 := { stood := { row := scheduleJoinsUptoRow, standIns := [], harness := (true, "1fe5c093b637dd044910f0acd73484d515b3fc328fdd27361427a674091e45cb"), looks := true }, kinds := [], alts := [], laidByText := true, laidKinds := [.data, .data, .data], laidTests := true, laidLooks := .later }
def ScheduleJoinsUptoCardSaid : Prop := Claim7.holds Tryz.pinned (.plain (OpenSpec.upto scheduleJoinsSpec)) scheduleJoinsUptoCard

/-- THE SECOND FORM's CARD OF 'cassocklaw11.SchedulePsk'. -/
def schedulePskUptoCard : Claim7 := { stood := { row := schedulePskUptoRow, standIns := [], harness := (true, "1fe5c093b637dd044910f0acd73484d515b3fc328fdd27361427a674091e45cb"), looks := true }, kinds := [], alts := [], laidByText := true, laidKinds := [.data, .data, .data], laidTests := true, laidLooks := .later }
def SchedulePskUptoCardSaid : Prop := Claim7.holds Tryz.pinned (.plain (OpenSpec.upto schedulePskSpec)) schedulePskUptoCard

/-- THE SECOND FORM's CARD OF 'cassocklaw11.ScheduleApart'. -/
def scheduleApartUptoCard : Claim7 := { stood := { row := scheduleApartUptoRow, standIns := [], harness := (true, "1fe5c093b637dd044910f0acd73484d515b3fc328fdd27361427a674091e45cb"), looks := true }, kinds := [], alts := [], laidByText := true, laidKinds := [.data, .data, .data], laidTests := true, laidLooks := .later }
def ScheduleApartUptoCardSaid : Prop := Claim7.holds Tryz.pinned (.plain (OpenSpec.upto scheduleApartSpec)) scheduleApartUptoCard

/-- THE SECOND FORM's CARD OF 'cassocklaw11.ScheduleDerives'. -/
def scheduleDerivesUptoCard : Claim7 := { stood := { row := scheduleDerivesUptoRow, standIns := [], harness := (true, "1fe5c093b637dd044910f0acd73484d515b3fc328fdd27361427a674091e45cb"), looks := true }, kinds := [], alts := [], laidByText := true, laidKinds := [.data, .data, .data], laidTests := true, laidLooks := .later }
def ScheduleDerivesUptoCardSaid : Prop := Claim7.holds Tryz.pinned (.plain (OpenSpec.upto scheduleDerivesSpec)) scheduleDerivesUptoCard

/-- THE SECOND FORM's CARD OF 'cassocklaw11.ScheduleHides'. -/
def scheduleHidesUptoCard : Claim7 := { stood := { row := scheduleHidesUptoRow, standIns := [], harness := (true, "1fe5c093b637dd044910f0acd73484d515b3fc328fdd27361427a674091e45cb"), looks := true }, kinds := [], alts := [], laidByText := true, laidKinds := [.data, .data, .data], laidTests := true, laidLooks := .later }
def ScheduleHidesUptoCardSaid : Prop := Claim7.holds Tryz.pinned (.plain (OpenSpec.upto scheduleHidesSpec)) scheduleHidesUptoCard

/-- THE SECOND FORM's CARD OF 'cassocklaw12.TranscriptBack'. -/
def transcriptBackUptoCard : Claim7 := { stood := { row := transcriptBackUptoRow, standIns := [], harness := (true, "1fe5c093b637dd044910f0acd73484d515b3fc328fdd27361427a674091e45cb"), looks := true }, kinds := [], alts := [], laidByText := true, laidKinds := [.data, .data, .data, .sentinel, .sentinel], laidTests := true, laidLooks := .later }
def TranscriptBackUptoCardSaid : Prop := Claim7.holds Tryz.pinned (.plain (OpenSpec.upto transcriptBackSpec)) transcriptBackUptoCard

/-- THE SECOND FORM's CARD OF 'cassocklaw12.TranscriptReads'. -/
def transcriptReadsUptoCard : Claim7 := { stood := { row := transcriptReadsUptoRow, standIns := [], harness := (true, "1fe5c093b637dd044910f0acd73484d515b3fc328fdd27361427a674091e45cb"), looks := true }, kinds := [], alts := [], laidByText := true, laidKinds := [.data, .data, .data, .sentinel, .sentinel], laidTests := true, laidLooks := .later }
def TranscriptReadsUptoCardSaid : Prop := Claim7.holds Tryz.pinned (.plain (OpenSpec.upto transcriptReadsSpec)) transcriptReadsUptoCard

/-- THE SECOND FORM's CARD OF 'cassocklaw12.TranscriptTags'. -/
def transcriptTagsUptoCard : Claim7 := { stood := { row := transcriptTagsUptoRow, standIns := [], harness := (true, "1fe5c093b637dd044910f0acd73484d515b3fc328fdd27361427a674091e45cb"), looks := true }, kinds := [], alts := [], laidByText := true, laidKinds := [.data, .data, .data, .sentinel, .sentinel], laidTests := true, laidLooks := .later }
def TranscriptTagsUptoCardSaid : Prop := Claim7.holds Tryz.pinned (.plain (OpenSpec.upto transcriptTagsSpec)) transcriptTagsUptoCard

/-- THE SECOND FORM's CARD OF 'cassocklaw12.TranscriptMakes'. -/
def transcriptMakesUptoCard : Claim7 := { stood := { row := transcriptMakesUptoRow, standIns := [], harness := (true, "1fe5c093b637dd044910f0acd73484d515b3fc328fdd27361427a674091e45cb"), looks := true }, kinds := [], alts := [], laidByText := true, laidKinds := [.data, .data, .data, .sentinel, .sentinel], laidTests := true, laidLooks := .later }
def TranscriptMakesUptoCardSaid : Prop := Claim7.holds Tryz.pinned (.plain (OpenSpec.upto transcriptMakesSpec)) transcriptMakesUptoCard

/-- THE SECOND FORM's CARD OF 'cassocklaw12.TranscriptApart'. -/
def transcriptApartUptoCard : Claim7 := { stood := { row := transcriptApartUptoRow, standIns := [], harness := (true, "1fe5c093b637dd044910f0acd73484d515b3fc328fdd27361427a674091e45cb"), looks := true }, kinds := [], alts := [], laidByText := true, laidKinds := [.data, .data, .data, .sentinel, .sentinel], laidTests := true, laidLooks := .later }
def TranscriptApartUptoCardSaid : Prop := Claim7.holds Tryz.pinned (.plain (OpenSpec.upto transcriptApartSpec)) transcriptApartUptoCard

/-- THE SECOND FORM's CARD OF 'cassocklaw12.TranscriptGoes'. -/
def transcriptGoesUptoCard : Claim7 := { stood := { row := transcriptGoesUptoRow, standIns := [], harness := (true, "1fe5c093b637dd044910f0acd73484d515b3fc328fdd27361427a674091e45cb"), looks := true }, kinds := [], alts := [], laidByText := true, laidKinds := [.data, .data, .data, .sentinel, .sentinel], laidTests := true, laidLooks := .later }
def TranscriptGoesUptoCardSaid : Prop := Claim7.holds Tryz.pinned (.plain (OpenSpec.upto transcriptGoesSpec)) transcriptGoesUptoCard
end Rows
end Go.Proofs.YtkgobglmkhkbbaaGreatDoor
