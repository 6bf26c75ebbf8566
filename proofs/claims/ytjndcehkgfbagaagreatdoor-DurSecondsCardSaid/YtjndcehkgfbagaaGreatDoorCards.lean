/-
  DERIVED. GIVEN WITH THE SEED: THE CARDS: each row of YtjndcehkgfbagaaGreatDoorRows.lean that lists a variable, with what it lists TIED to the program's text (the seventh form; the later family's looks); each row that meets fmt, with fmt's text TOLD by the authors' own Lean function (tested against real Go, not proved from fmt's source: count such statements apart). THE CARD IS WHAT COUNTS. Prove the row's statement (the work); the ties are given (YtjndcehkgfbagaaGreatDoorTie.lean); close each card by the builder's one call (the guide's Derived/Test/ToyasCard.lean, 'card_holds'). Laid BY PROGRAM, IN A SANDBOX (cutbox-door.mjs). By AI agents, Wed Nov 11 2026. No macro, syntax, notation, axiom, sorry.
-/
import Derived.Test.YtjndcehkgfbagaaGreatDoorRows
import GoSem.ClaimSeven
namespace Go.Proofs.YtjndcehkgfbagaaGreatDoor
namespace Rows

/-- THE TIED CARD OF 'chisellaw06.DurMonths'. -/
def durMonthsCard : Claim7 := { stood := { row := durMonthsRow, standIns := [], harness := (true, "c4c19704d514eeab695974161981e4d56f9443a1063f57225ca0f6fd1ca3c238"), looks := true }, kinds := [], alts := [], laidByText := true, laidKinds := [.data, .data, .data, .data, .sentinel, .sentinel, .pinned], laidTests := true, laidLooks := .later }
def DurMonthsCardSaid : Prop := Claim7.holds Tryz.pinned (.plain (OpenSpec.ofChange durMonthsSpec)) durMonthsCard

/-- THE TIED CARD OF 'chisellaw06.DurMonthTexts'. -/
def durMonthTextsCard : Claim7 := { stood := { row := durMonthTextsRow, standIns := [], harness := (true, "c4c19704d514eeab695974161981e4d56f9443a1063f57225ca0f6fd1ca3c238"), looks := true }, kinds := [], alts := [], laidByText := true, laidKinds := [.data, .data, .data, .data, .sentinel, .sentinel, .pinned], laidTests := true, laidLooks := .later }
def DurMonthTextsCardSaid : Prop := Claim7.holds Tryz.pinned (.plain (OpenSpec.ofChange durMonthTextsSpec)) durMonthTextsCard

/-- THE TIED CARD OF 'chisellaw06.DurSeconds'. -/
def durSecondsCard : Claim7 := { stood := { row := durSecondsRow, standIns := [], harness := (true, "c4c19704d514eeab695974161981e4d56f9443a1063f57225ca0f6fd1ca3c238"), looks := true }, kinds := [], alts := [], laidByText := true, laidKinds := [.data, .data, .data, .data, .sentinel, .sentinel, .pinned], laidTests := true, laidLooks := .later }
def DurSecondsCardSaid : Prop := Claim7.holds Tryz.pinned (.plain (OpenSpec.ofChange durSecondsSpec)) durSecondsCard

/-- THE TIED CARD OF 'chisellaw06.DurSecondTexts'. -/
def durSecondTextsCard : Claim7 := { stood := { row := durSecondTextsRow, standIns := [], harness := (true, "c4c19704d514eeab695974161981e4d56f9443a1063f57225ca0f6fd1ca3c238"), looks := true }, kinds := [], alts := [], laidByText := true, laidKinds := [.data, .data, .data, .data, .sentinel, .sentinel, .pinned], laidTests := true, laidLooks := .later }
def DurSecondTextsCardSaid : Prop := Claim7.holds Tryz.pinned (.plain (OpenSpec.ofChange durSecondTextsSpec)) durSecondTextsCard

/-- THE TIED CARD OF 'chisellaw06.DurMonthsBack'. -/
def durMonthsBackCard : Claim7 := { stood := { row := durMonthsBackRow, standIns := [], harness := (true, "c4c19704d514eeab695974161981e4d56f9443a1063f57225ca0f6fd1ca3c238"), looks := true }, kinds := [], alts := [], laidByText := true, laidKinds := [.data, .data, .data, .data, .sentinel, .sentinel, .pinned], laidTests := true, laidLooks := .later }
def DurMonthsBackCardSaid : Prop := Claim7.holds Tryz.pinned (.plain (OpenSpec.ofChange durMonthsBackSpec)) durMonthsBackCard

/-- THE TIED CARD OF 'chisellaw06.DurSecondsBack'. -/
def durSecondsBackCard : Claim7 := { stood := { row := durSecondsBackRow, standIns := [], harness := (true, "c4c19704d514eeab695974161981e4d56f9443a1063f57225ca0f6fd1ca3c238"), looks := true }, kinds := [], alts := [], laidByText := true, laidKinds := [.data, .data, .data, .data, .sentinel, .sentinel, .pinned], laidTests := true, laidLooks := .later }
def DurSecondsBackCardSaid : Prop := Claim7.holds Tryz.pinned (.plain (OpenSpec.ofChange durSecondsBackSpec)) durSecondsBackCard

/-- THE TIED CARD OF 'chisellaw06.DurOne'. -/
def durOneCard : Claim7 := { stood := { row := durOneRow, standIns := [], harness := (true, "c4c19704d514eeab695974161981e4d56f9443a1063f57225ca0f6fd1ca3c238"), looks := true }, kinds := [], alts := [], laidByText := true, laidKinds := [.data, .data, .data, .data, .sentinel, .sentinel, .pinned], laidTests := true, laidLooks := .later }
def DurOneCardSaid : Prop := Claim7.holds Tryz.pinned (.plain (OpenSpec.ofChange durOneSpec)) durOneCard

/-- THE TIED CARD OF 'chisellaw06.DurSigns'. -/
def durSignsCard : Claim7 := { stood := { row := durSignsRow, standIns := [], harness := (true, "c4c19704d514eeab695974161981e4d56f9443a1063f57225ca0f6fd1ca3c238"), looks := true }, kinds := [], alts := [], laidByText := true, laidKinds := [.data, .data, .data, .data, .sentinel, .sentinel, .pinned], laidTests := true, laidLooks := .later }
def DurSignsCardSaid : Prop := Claim7.holds Tryz.pinned (.plain (OpenSpec.ofChange durSignsSpec)) durSignsCard

/-- THE TIED CARD OF 'chisellaw06.DurKnown'. -/
def durKnownCard : Claim7 := { stood := { row := durKnownRow, standIns := [], harness := (true, "c4c19704d514eeab695974161981e4d56f9443a1063f57225ca0f6fd1ca3c238"), looks := true }, kinds := [], alts := [], laidByText := true, laidKinds := [.data, .data, .data, .data, .sentinel, .sentinel, .pinned], laidTests := true, laidLooks := .later }
def DurKnownCardSaid : Prop := Claim7.holds Tryz.pinned (.plain (OpenSpec.ofChange durKnownSpec)) durKnownCard

/-- THE TIED CARD OF 'chisellaw06.DurParts'. -/
def durPartsCard : Claim7 := { stood := { row := durPartsRow, standIns := [], harness := (true, "c4c19704d514eeab695974161981e4d56f9443a1063f57225ca0f6fd1ca3c238"), looks := true }, kinds := [], alts := [], laidByText := true, laidKinds := [.data, .data, .data, .data, .sentinel, .sentinel, .pinned], laidTests := true, laidLooks := .later }
def DurPartsCardSaid : Prop := Claim7.holds Tryz.pinned (.plain (OpenSpec.ofChange durPartsSpec)) durPartsCard

/-- THE SECOND FORM's CARD OF 'chisellaw06.DurMonths'. -/
def durMonthsUptoCard : Claim7 := { stood := { row := durMonthsUptoRow, standIns := [], harness := (true, "c4c19704d514eeab695974161981e4d56f9443a1063f57225ca0f6fd1ca3c238"), looks := true }, kinds := [], alts := [], laidByText := true, laidKinds := [.data, .data, .data, .data, .sentinel, .sentinel, .pinned], laidTests := true, laidLooks := .later }
def DurMonthsUptoCardSaid : Prop := Claim7.holds Tryz.pinned (.plain (OpenSpec.upto durMonthsSpec)) durMonthsUptoCard

/-- THE SECOND FORM's CARD OF 'chisellaw06.DurMonthTexts'. -/
def durMonthTextsUptoCard : Claim7 := { stood := { row := durMonthTextsUptoRow, standIns := [], harness := (true, "c4c19704d514eeab695974161981e4d56f9443a1063f57225ca0f6fd1ca3c238"), looks := true }, kinds := [], alts := [], laidByText := true, laidKinds := [.data, .data, .data, .data, .sentinel, .sentinel, .pinned], laidTests := true, laidLooks := .later }
def DurMonthTextsUptoCardSaid : Prop := Claim7.holds Tryz.pinned (.plain (OpenSpec.upto durMonthTextsSpec)) durMonthTextsUptoCard

/-- THE SECOND FORM's CARD OF 'chisellaw06.DurSeconds'. -/
def durSecondsUptoCard : Claim7 := { stood := { row := durSecondsUptoRow, standIns := [], harness := (true, "c4c19704d514eeab695974161981e4d56f9443a1063f57225ca0f6fd1ca3c238"), looks := true }, kinds := [], alts := [], laidByText := true, laidKinds := [.data, .data, .data, .data, .sentinel, .sentinel, .pinned], laidTests := true, laidLooks := .later }
def DurSecondsUptoCardSaid : Prop := Claim7.holds Tryz.pinned (.plain (OpenSpec.upto durSecondsSpec)) durSecondsUptoCard

/-- THE SECOND FORM's CARD OF 'chisellaw06.DurSecondTexts'. -/
def durSecondTextsUptoCard : Claim7 := { stood := { row := durSecondTextsUptoRow, standIns := [], harness := (true, "c4c19704d514eeab695974161981e4d56f9443a1063f57225ca0f6fd1ca3c238"), looks := true }, kinds := [], alts := [], laidByText := true, laidKinds := [.data, .data, .data, .data, .sentinel, .sentinel, .pinned], laidTests := true, laidLooks := .later }
def DurSecondTextsUptoCardSaid : Prop := Claim7.holds Tryz.pinned (.plain (OpenSpec.upto durSecondTextsSpec)) durSecondTextsUptoCard

/-- THE SECOND FORM's CARD OF 'chisellaw06.DurMonthsBack'. -/
def durMonthsBackUptoCard : Claim7 := { stood := { row := durMonthsBackUptoRow, standIns := [], harness := (true, "c4c19704d514eeab695974161981e4d56f9443a1063f57225ca0f6fd1ca3c238"), looks := true }, kinds := [], alts := [], laidByText := true, laidKinds := [.data, .data, .data, .data, .sentinel, .sentinel, .pinned], laidTests := true, laidLooks := .later }
def DurMonthsBackUptoCardSaid : Prop := Claim7.holds Tryz.pinned (.plain (OpenSpec.upto durMonthsBackSpec)) durMonthsBackUptoCard

/-- THE SECOND FORM's CARD OF 'chisellaw06.DurSecondsBack'. -/
def durSecondsBackUptoCard : Claim7 := { stood := { row := durSecondsBackUptoRow, standIns := [], harness := (true, "c4c19704d514eeab695974161981e4d56f9443a1063f57225ca0f6fd1ca3c238"), looks := true }, kinds := [], alts := [], laidByText := true, laidKinds := [.data, .data, .data, .data, .sentinel, .sentinel, .pinned], laidTests := true, laidLooks := .later }
def DurSecondsBackUptoCardSaid : Prop := Claim7.holds Tryz.pinned (.plain (OpenSpec.upto durSecondsBackSpec)) durSecondsBackUptoCard

/-- THE SECOND FORM's CARD OF 'chisellaw06.DurOne'. -/
def durOneUptoCard : Claim7 := { stood := { row := durOneUptoRow, standIns := [], harness := (true, "c4c19704d514eeab695974161981e4d56f9443a1063f57225ca0f6fd1ca3c238"), looks := true }, kinds := [], alts := [], laidByText := true, laidKinds := [.data, .data, .data, .data, .sentinel, .sentinel, .pinned], laidTests := true, laidLooks := .later }
def DurOneUptoCardSaid : Prop := Claim7.holds Tryz.pinned (.plain (OpenSpec.upto durOneSpec)) durOneUptoCard

/-- THE SECOND FORM's CARD OF 'chisellaw06.DurSigns'. -/
def durSignsUptoCard : Claim7 := { stood := { row := durSignsUptoRow, standIns := [], harness := (true, "c4c19704d514eeab695974161981e4d56f9443a1063f57225ca0f6fd1ca3c238"), looks := true }, kinds := [], alts := [], laidByText := true, laidKinds := [.data, .data, .data, .data, .sentinel, .sentinel, .pinned], laidTests := true, laidLooks := .later }
def DurSignsUptoCardSaid : Prop := Claim7.holds Tryz.pinned (.plain (OpenSpec.upto durSignsSpec)) durSignsUptoCard

/-- THE SECOND FORM's CARD OF 'chisellaw06.DurKnown'. -/
def durKnownUptoCard : Claim7 := { stood := { row := durKnownUptoRow, standIns := [], harness := (true, "c4c19704d514eeab695974161981e4d56f9443a1063f57225ca0f6fd1ca3c238"), looks := true }, kinds := [], alts := [], laidByText := true, laidKinds := [.data, .data, .data, .data, .sentinel, .sentinel, .pinned], laidTests := true, laidLooks := .later }
def DurKnownUptoCardSaid : Prop := Claim7.holds Tryz.pinned (.plain (OpenSpec.upto durKnownSpec)) durKnownUptoCard

/-- THE SECOND FORM's CARD OF 'chisellaw06.DurParts'. -/
def durPartsUptoCard : Claim7 := { stood := { row := durPartsUptoRow, standIns := [], harness := (true, "c4c19704d514eeab695974161981e4d56f9443a1063f57225ca0f6fd1ca3c238"), looks := true }, kinds := [], alts := [], laidByText := true, laidKinds := [.data, .data, .data, .data, .sentinel, .sentinel, .pinned], laidTests := true, laidLooks := .later }
def DurPartsUptoCardSaid : Prop := Claim7.holds Tryz.pinned (.plain (OpenSpec.upto durPartsSpec)) durPartsUptoCard
end Rows
end Go.Proofs.YtjndcehkgfbagaaGreatDoor
