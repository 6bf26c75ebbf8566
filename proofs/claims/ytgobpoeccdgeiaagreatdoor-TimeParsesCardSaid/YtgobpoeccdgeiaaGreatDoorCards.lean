/-
  DERIVED. GIVEN WITH THE SEED: THE CARDS: each row of YtgobpoeccdgeiaaGreatDoorRows.lean that lists a variable, with what it lists TIED to the program's text (the seventh form; the later family's looks); each row that meets fmt, with fmt's text TOLD by the authors' own Lean function (tested against real Go, not proved from fmt's source: count such statements apart). THE CARD IS WHAT COUNTS. Prove the row's statement (the work); the ties are given (YtgobpoeccdgeiaaGreatDoorTie.lean); close each card by the builder's one call (the guide's Derived/Test/ToyasCard.lean, 'card_holds'). Laid BY PROGRAM, IN A SANDBOX (cutbox-door.mjs). By AI agents, Wed Nov 11 2026. No macro, syntax, notation, axiom, sorry.
-/
import Derived.Test.YtgobpoeccdgeiaaGreatDoorRows
import GoSem.ClaimSeven
namespace Go.Proofs.YtgobpoeccdgeiaaGreatDoor
namespace Rows

/-- THE TIED CARD OF 'chisellaw07.TimeParses'. -/
def timeParsesCard : Claim7 := { stood := { row := timeParsesRow, standIns := [], harness := (true, "c070961ec2499e4cf6269109a13666273df21fe47ece1a74b5af7930aa63d8b6"), looks := true }, kinds := [], alts := [], laidByText := true, laidKinds := [.data, .data, .data, .data, .sentinel, .sentinel, .data, .pinned], laidTests := true, laidLooks := .later }
def TimeParsesCardSaid : Prop := Claim7.holds Tryz.pinned (.plain (OpenSpec.ofChange timeParsesSpec)) timeParsesCard

/-- THE TIED CARD OF 'chisellaw07.TimeBack'. -/
def timeBackCard : Claim7 := { stood := { row := timeBackRow, standIns := [], harness := (true, "c070961ec2499e4cf6269109a13666273df21fe47ece1a74b5af7930aa63d8b6"), looks := true }, kinds := [], alts := [], laidByText := true, laidKinds := [.data, .data, .data, .data, .sentinel, .sentinel, .data, .pinned], laidTests := true, laidLooks := .later }
def TimeBackCardSaid : Prop := Claim7.holds Tryz.pinned (.plain (OpenSpec.ofChange timeBackSpec)) timeBackCard

/-- THE TIED CARD OF 'chisellaw07.TimeTexts'. -/
def timeTextsCard : Claim7 := { stood := { row := timeTextsRow, standIns := [], harness := (true, "c070961ec2499e4cf6269109a13666273df21fe47ece1a74b5af7930aa63d8b6"), looks := true }, kinds := [], alts := [], laidByText := true, laidKinds := [.data, .data, .data, .data, .sentinel, .sentinel, .data, .pinned], laidTests := true, laidLooks := .later }
def TimeTextsCardSaid : Prop := Claim7.holds Tryz.pinned (.plain (OpenSpec.ofChange timeTextsSpec)) timeTextsCard

/-- THE TIED CARD OF 'chisellaw07.TimeMonths'. -/
def timeMonthsCard : Claim7 := { stood := { row := timeMonthsRow, standIns := [], harness := (true, "c070961ec2499e4cf6269109a13666273df21fe47ece1a74b5af7930aa63d8b6"), looks := true }, kinds := [], alts := [], laidByText := true, laidKinds := [.data, .data, .data, .data, .sentinel, .sentinel, .data, .pinned], laidTests := true, laidLooks := .later }
def TimeMonthsCardSaid : Prop := Claim7.holds Tryz.pinned (.plain (OpenSpec.ofChange timeMonthsSpec)) timeMonthsCard

/-- THE TIED CARD OF 'chisellaw07.TimeAdjusts'. -/
def timeAdjustsCard : Claim7 := { stood := { row := timeAdjustsRow, standIns := [], harness := (true, "c070961ec2499e4cf6269109a13666273df21fe47ece1a74b5af7930aa63d8b6"), looks := true }, kinds := [], alts := [], laidByText := true, laidKinds := [.data, .data, .data, .data, .sentinel, .sentinel, .data, .pinned], laidTests := true, laidLooks := .later }
def TimeAdjustsCardSaid : Prop := Claim7.holds Tryz.pinned (.plain (OpenSpec.ofChange timeAdjustsSpec)) timeAdjustsCard

/-- THE TIED CARD OF 'chisellaw07.TimeZones'. -/
def timeZonesCard : Claim7 := { stood := { row := timeZonesRow, standIns := [], harness := (true, "c070961ec2499e4cf6269109a13666273df21fe47ece1a74b5af7930aa63d8b6"), looks := true }, kinds := [], alts := [], laidByText := true, laidKinds := [.data, .data, .data, .data, .sentinel, .sentinel, .data, .pinned], laidTests := true, laidLooks := .later }
def TimeZonesCardSaid : Prop := Claim7.holds Tryz.pinned (.plain (OpenSpec.ofChange timeZonesSpec)) timeZonesCard

/-- THE TIED CARD OF 'chisellaw07.TimeAdds'. -/
def timeAddsCard : Claim7 := { stood := { row := timeAddsRow, standIns := [], harness := (true, "c070961ec2499e4cf6269109a13666273df21fe47ece1a74b5af7930aa63d8b6"), looks := true }, kinds := [], alts := [], laidByText := true, laidKinds := [.data, .data, .data, .data, .sentinel, .sentinel, .data, .pinned], laidTests := true, laidLooks := .later }
def TimeAddsCardSaid : Prop := Claim7.holds Tryz.pinned (.plain (OpenSpec.ofChange timeAddsSpec)) timeAddsCard

/-- THE TIED CARD OF 'chisellaw07.TimeDays'. -/
def timeDaysCard : Claim7 := { stood := { row := timeDaysRow, standIns := [], harness := (true, "c070961ec2499e4cf6269109a13666273df21fe47ece1a74b5af7930aa63d8b6"), looks := true }, kinds := [], alts := [], laidByText := true, laidKinds := [.data, .data, .data, .data, .sentinel, .sentinel, .data, .pinned], laidTests := true, laidLooks := .later }
def TimeDaysCardSaid : Prop := Claim7.holds Tryz.pinned (.plain (OpenSpec.ofChange timeDaysSpec)) timeDaysCard

/-- THE TIED CARD OF 'chisellaw07.TimeOrder'. -/
def timeOrderCard : Claim7 := { stood := { row := timeOrderRow, standIns := [], harness := (true, "c070961ec2499e4cf6269109a13666273df21fe47ece1a74b5af7930aa63d8b6"), looks := true }, kinds := [], alts := [], laidByText := true, laidKinds := [.data, .data, .data, .data, .sentinel, .sentinel, .data, .pinned], laidTests := true, laidLooks := .later }
def TimeOrderCardSaid : Prop := Claim7.holds Tryz.pinned (.plain (OpenSpec.ofChange timeOrderSpec)) timeOrderCard

/-- THE TIED CARD OF 'chisellaw07.TimeKnown'. -/
def timeKnownCard : Claim7 := { stood := { row := timeKnownRow, standIns := [], harness := (true, "c070961ec2499e4cf6269109a13666273df21fe47ece1a74b5af7930aa63d8b6"), looks := true }, kinds := [], alts := [], laidByText := true, laidKinds := [.data, .data, .data, .data, .sentinel, .sentinel, .data, .pinned], laidTests := true, laidLooks := .later }
def TimeKnownCardSaid : Prop := Claim7.holds Tryz.pinned (.plain (OpenSpec.ofChange timeKnownSpec)) timeKnownCard

/-- THE TIED CARD OF 'chisellaw07.TimeSums'. -/
def timeSumsCard : Claim7 := { stood := { row := timeSumsRow, standIns := [], harness := (true, "c070961ec2499e4cf6269109a13666273df21fe47ece1a74b5af7930aa63d8b6"), looks := true }, kinds := [], alts := [], laidByText := true, laidKinds := [.data, .data, .data, .data, .sentinel, .sentinel, .data, .pinned], laidTests := true, laidLooks := .later }
def TimeSumsCardSaid : Prop := Claim7.holds Tryz.pinned (.plain (OpenSpec.ofChange timeSumsSpec)) timeSumsCard

/-- THE SECOND FORM's CARD OF 'chisellaw07.TimeParses'. -/
def timeParsesUptoCard : Claim7 := { stood := { row := timeParsesUptoRow, standIns := [], harness := (true, "c070961ec2499e4cf6269109a13666273df21fe47ece1a74b5af7930aa63d8b6"), looks := true }, kinds := [], alts := [], laidByText := true, laidKinds := [.data, .data, .data, .data, .sentinel, .sentinel, .data, .pinned], laidTests := true, laidLooks := .later }
def TimeParsesUptoCardSaid : Prop := Claim7.holds Tryz.pinned (.plain (OpenSpec.upto timeParsesSpec)) timeParsesUptoCard

/-- THE SECOND FORM's CARD OF 'chisellaw07.TimeBack'. -/
def timeBackUptoCard : Claim7 := { stood := { row := timeBackUptoRow, standIns := [], harness := (true, "c070961ec2499e4cf6269109a13666273df21fe47ece1a74b5af7930aa63d8b6"), looks := true }, kinds := [], alts := [], laidByText := true, laidKinds := [.data, .data, .data, .data, .sentinel, .sentinel, .data, .pinned], laidTests := true, laidLooks := .later }
def TimeBackUptoCardSaid : Prop := Claim7.holds Tryz.pinned (.plain (OpenSpec.upto timeBackSpec)) timeBackUptoCard

/-- THE SECOND FORM's CARD OF 'chisellaw07.TimeTexts'. -/
def timeTextsUptoCard : Claim7 := { stood := { row := timeTextsUptoRow, standIns := [], harness := (true, "c070961ec2499e4cf6269109a13666273df21fe47ece1a74b5af7930aa63d8b6"), looks := true }, kinds := [], alts := [], laidByText := true, laidKinds := [.data, .data, .data, .data, .sentinel, .sentinel, .data, .pinned], laidTests := true, laidLooks := .later }
def TimeTextsUptoCardSaid : Prop := Claim7.holds Tryz.pinned (.plain (OpenSpec.upto timeTextsSpec)) timeTextsUptoCard

/-- THE SECOND FORM's CARD OF 'chisellaw07.TimeMonths'. -/
def timeMonthsUptoCard : Claim7 := { stood := { row := timeMonthsUptoRow, standIns := [], harness := (true, "c070961ec2499e4cf6269109a13666273df21fe47ece1a74b5af7930aa63d8b6"), looks := true }, kinds := [], alts := [], laidByText := true, laidKinds := [.data, .data, .data, .data, .sentinel, .sentinel, .data, .pinned], laidTests := true, laidLooks := .later }
def TimeMonthsUptoCardSaid : Prop := Claim7.holds Tryz.pinned (.plain (OpenSpec.upto timeMonthsSpec)) timeMonthsUptoCard

/-- THE SECOND FORM's CARD OF 'chisellaw07.TimeAdjusts'. -/
def timeAdjustsUptoCard : Claim7 := { stood := { row := timeAdjustsUptoRow, standIns := [], harness := (true, "c070961ec2499e4cf6269109a13666273df21fe47ece1a74b5af7930aa63d8b6"), looks := true }, kinds := [], alts := [], laidByText := true, laidKinds := [.data, .data, .data, .data, .sentinel, .sentinel, .data, .pinned], laidTests := true, laidLooks := .later }
def TimeAdjustsUptoCardSaid : Prop := Claim7.holds Tryz.pinned (.plain (OpenSpec.upto timeAdjustsSpec)) timeAdjustsUptoCard

/-- THE SECOND FORM's CARD OF 'chisellaw07.TimeZones'. -/
def timeZonesUptoCard : Claim7 := { stood := { row := timeZonesUptoRow, standIns := [], harness := (true, "c070961ec2499e4cf6269109a13666273df21fe47ece1a74b5af7930aa63d8b6"), looks := true }, kinds := [], alts := [], laidByText := true, laidKinds := [.data, .data, .data, .data, .sentinel, .sentinel, .data, .pinned], laidTests := true, laidLooks := .later }
def TimeZonesUptoCardSaid : Prop := Claim7.holds Tryz.pinned (.plain (OpenSpec.upto timeZonesSpec)) timeZonesUptoCard

/-- THE SECOND FORM's CARD OF 'chisellaw07.TimeAdds'. -/
def timeAddsUptoCard : Claim7 := { stood := { row := timeAddsUptoRow, standIns := [], harness := (true, "c070961ec2499e4cf6269109a13666273df21fe47ece1a74b5af7930aa63d8b6"), looks := true }, kinds := [], alts := [], laidByText := true, laidKinds := [.data, .data, .data, .data, .sentinel, .sentinel, .data, .pinned], laidTests := true, laidLooks := .later }
def TimeAddsUptoCardSaid : Prop := Claim7.holds Tryz.pinned (.plain (OpenSpec.upto timeAddsSpec)) timeAddsUptoCard

/-- THE SECOND FORM's CARD OF 'chisellaw07.TimeDays'. -/
def timeDaysUptoCard : Claim7 := { stood := { row := timeDaysUptoRow, standIns := [], harness := (true, "c070961ec2499e4cf6269109a13666273df21fe47ece1a74b5af7930aa63d8b6"), looks := true }, kinds := [], alts := [], laidByText := true, laidKinds := [.data, .data, .data, .data, .sentinel, .sentinel, .data, .pinned], laidTests := true, laidLooks := .later }
def TimeDaysUptoCardSaid : Prop := Claim7.holds Tryz.pinned (.plain (OpenSpec.upto timeDaysSpec)) timeDaysUptoCard

/-- THE SECOND FORM's CARD OF 'chisellaw07.TimeOrder'. -/
def timeOrderUptoCard : Claim7 := { stood := { row := timeOrderUptoRow, standIns := [], harness := (true, "c070961ec2499e4cf6269109a13666273df21fe47ece1a74b5af7930aa63d8b6"), looks := true }, kinds := [], alts := [], laidByText := true, laidKinds := [.data, .data, .data, .data, .sentinel, .sentinel, .data, .pinned], laidTests := true, laidLooks := .later }
def TimeOrderUptoCardSaid : Prop := Claim7.holds Tryz.pinned (.plain (OpenSpec.upto timeOrderSpec)) timeOrderUptoCard

/-- THE SECOND FORM's CARD OF 'chisellaw07.TimeKnown'. -/
def timeKnownUptoCard : Claim7 := { stood := { row := timeKnownUptoRow, standIns := [], harness := (true, "c070961ec2499e4cf6269109a13666273df21fe47ece1a74b5af7930aa63d8b6"), looks := true }, kinds := [], alts := [], laidByText := true, laidKinds := [.data, .data, .data, .data, .sentinel, .sentinel, .data, .pinned], laidTests := true, laidLooks := .later }
def TimeKnownUptoCardSaid : Prop := Claim7.holds Tryz.pinned (.plain (OpenSpec.upto timeKnownSpec)) timeKnownUptoCard

/-- THE SECOND FORM's CARD OF 'chisellaw07.TimeSums'. -/
def timeSumsUptoCard : Claim7 := { stood := { row := timeSumsUptoRow, standIns := [], harness := (true, "c070961ec2499e4cf6269109a13666273df21fe47ece1a74b5af7930aa63d8b6"), looks := true }, kinds := [], alts := [], laidByText := true, laidKinds := [.data, .data, .data, .data, .sentinel, .sentinel, .data, .pinned], laidTests := true, laidLooks := .later }
def TimeSumsUptoCardSaid : Prop := Claim7.holds Tryz.pinned (.plain (OpenSpec.upto timeSumsSpec)) timeSumsUptoCard
end Rows
end Go.Proofs.YtgobpoeccdgeiaaGreatDoor
