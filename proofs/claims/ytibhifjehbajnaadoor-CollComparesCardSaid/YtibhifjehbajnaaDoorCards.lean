/-
  DERIVED. GIVEN WITH THE SEED: THE CARDS: each row of YtibhifjehbajnaaDoorRows.lean that lists a variable, with what it lists TIED to the program's text (the seventh form; the later family's looks); each row that meets fmt, with fmt's text TOLD by the authors' own Lean function (tested against real Go, not proved from fmt's source: count such statements apart). THE CARD IS WHAT COUNTS. Prove the row's statement (the work); the ties are given (YtibhifjehbajnaaDoorTie.lean); close each card by the builder's one call (the guide's Derived/Test/ToyasCard.lean, 'card_holds'). Laid BY PROGRAM, IN A SANDBOX (cutbox-door.mjs). By AI agents, Wed Nov 11 2026. No macro, syntax, notation, axiom, sorry.
-/
import Derived.Test.YtibhifjehbajnaaDoorRows
import GoSem.ClaimSeven
namespace Go.Proofs.YtibhifjehbajnaaDoor
namespace Rows

/-- THE TIED CARD OF 'chisellaw03.CollParses'. -/
def collParsesCard : Claim7 := { stood := { row := collParsesRow, standIns := [], harness := (true, "5e7d19991e824f65e2736d005c35549d8dd54fdc3d9893cef1702ed0ce0355c8"), looks := true }, kinds := [], alts := [], laidByText := true, laidKinds := [.data, .data, .data, .data, .sentinel, .sentinel, .pinned], laidTests := true, laidLooks := .later }
def CollParsesCardSaid : Prop := Claim7.holds Tryd.pinned (.plain (OpenSpec.ofChange collParsesSpec)) collParsesCard

/-- THE TIED CARD OF 'chisellaw03.CollKeys'. -/
def collKeysCard : Claim7 := { stood := { row := collKeysRow, standIns := [], harness := (true, "5e7d19991e824f65e2736d005c35549d8dd54fdc3d9893cef1702ed0ce0355c8"), looks := true }, kinds := [], alts := [], laidByText := true, laidKinds := [.data, .data, .data, .data, .sentinel, .sentinel, .pinned], laidTests := true, laidLooks := .later }
def CollKeysCardSaid : Prop := Claim7.holds Tryd.pinned (.plain (OpenSpec.ofChange collKeysSpec)) collKeysCard

/-- THE TIED CARD OF 'chisellaw03.CollCompares'. -/
def collComparesCard : Claim7 := { stood := { row := collComparesRow, standIns := [], harness := (true, "5e7d19991e824f65e2736d005c35549d8dd54fdc3d9893cef1702ed0ce0355c8"), looks := true }, kinds := [], alts := [], laidByText := true, laidKinds := [.data, .data, .data, .data, .sentinel, .sentinel, .pinned], laidTests := true, laidLooks := .later }
def CollComparesCardSaid : Prop := Claim7.holds Tryd.pinned (.plain (OpenSpec.ofChange collComparesSpec)) collComparesCard

/-- THE TIED CARD OF 'chisellaw03.CollOrder'. -/
def collOrderCard : Claim7 := { stood := { row := collOrderRow, standIns := [], harness := (true, "5e7d19991e824f65e2736d005c35549d8dd54fdc3d9893cef1702ed0ce0355c8"), looks := true }, kinds := [], alts := [], laidByText := true, laidKinds := [.data, .data, .data, .data, .sentinel, .sentinel, .pinned], laidTests := true, laidLooks := .later }
def CollOrderCardSaid : Prop := Claim7.holds Tryd.pinned (.plain (OpenSpec.ofChange collOrderSpec)) collOrderCard

/-- THE TIED CARD OF 'chisellaw03.CollPrefixes'. -/
def collPrefixesCard : Claim7 := { stood := { row := collPrefixesRow, standIns := [], harness := (true, "5e7d19991e824f65e2736d005c35549d8dd54fdc3d9893cef1702ed0ce0355c8"), looks := true }, kinds := [], alts := [], laidByText := true, laidKinds := [.data, .data, .data, .data, .sentinel, .sentinel, .pinned], laidTests := true, laidLooks := .later }
def CollPrefixesCardSaid : Prop := Claim7.holds Tryd.pinned (.plain (OpenSpec.ofChange collPrefixesSpec)) collPrefixesCard

/-- THE TIED CARD OF 'chisellaw03.CollNil'. -/
def collNilCard : Claim7 := { stood := { row := collNilRow, standIns := [], harness := (true, "5e7d19991e824f65e2736d005c35549d8dd54fdc3d9893cef1702ed0ce0355c8"), looks := true }, kinds := [], alts := [], laidByText := true, laidKinds := [.data, .data, .data, .data, .sentinel, .sentinel, .pinned], laidTests := true, laidLooks := .later }
def CollNilCardSaid : Prop := Claim7.holds Tryd.pinned (.plain (OpenSpec.ofChange collNilSpec)) collNilCard

/-- THE TIED CARD OF 'chisellaw03.CollKnown'. -/
def collKnownCard : Claim7 := { stood := { row := collKnownRow, standIns := [], harness := (true, "5e7d19991e824f65e2736d005c35549d8dd54fdc3d9893cef1702ed0ce0355c8"), looks := true }, kinds := [], alts := [], laidByText := true, laidKinds := [.data, .data, .data, .data, .sentinel, .sentinel, .pinned], laidTests := true, laidLooks := .later }
def CollKnownCardSaid : Prop := Claim7.holds Tryd.pinned (.plain (OpenSpec.ofChange collKnownSpec)) collKnownCard

/-- THE TIED CARD OF 'chisellaw03.CollLevels'. -/
def collLevelsCard : Claim7 := { stood := { row := collLevelsRow, standIns := [], harness := (true, "5e7d19991e824f65e2736d005c35549d8dd54fdc3d9893cef1702ed0ce0355c8"), looks := true }, kinds := [], alts := [], laidByText := true, laidKinds := [.data, .data, .data, .data, .sentinel, .sentinel, .pinned], laidTests := true, laidLooks := .later }
def CollLevelsCardSaid : Prop := Claim7.holds Tryd.pinned (.plain (OpenSpec.ofChange collLevelsSpec)) collLevelsCard

/-- THE TIED CARD OF 'chisellaw03.CollIgnored'. -/
def collIgnoredCard : Claim7 := { stood := { row := collIgnoredRow, standIns := [], harness := (true, "5e7d19991e824f65e2736d005c35549d8dd54fdc3d9893cef1702ed0ce0355c8"), looks := true }, kinds := [], alts := [], laidByText := true, laidKinds := [.data, .data, .data, .data, .sentinel, .sentinel, .pinned], laidTests := true, laidLooks := .later }
def CollIgnoredCardSaid : Prop := Claim7.holds Tryd.pinned (.plain (OpenSpec.ofChange collIgnoredSpec)) collIgnoredCard

/-- THE TIED CARD OF 'chisellaw03.CollLong'. -/
def collLongCard : Claim7 := { stood := { row := collLongRow, standIns := [], harness := (true, "5e7d19991e824f65e2736d005c35549d8dd54fdc3d9893cef1702ed0ce0355c8"), looks := true }, kinds := [], alts := [], laidByText := true, laidKinds := [.data, .data, .data, .data, .sentinel, .sentinel, .pinned], laidTests := true, laidLooks := .later }
def CollLongCardSaid : Prop := Claim7.holds Tryd.pinned (.plain (OpenSpec.ofChange collLongSpec)) collLongCard

/-- THE TIED CARD OF 'chisellaw03.CollPoints'. -/
def collPointsCard : Claim7 := { stood := { row := collPointsRow, standIns := [], harness := (true, "5e7d19991e824f65e2736d005c35549d8dd54fdc3d9893cef1702ed0ce0355c8"), looks := true }, kinds := [], alts := [], laidByText := true, laidKinds := [.data, .data, .data, .data, .sentinel, .sentinel, .pinned], laidTests := true, laidLooks := .later }
def CollPointsCardSaid : Prop := Claim7.holds Tryd.pinned (.plain (OpenSpec.ofChange collPointsSpec)) collPointsCard

/-- THE SECOND FORM's CARD OF 'chisellaw03.CollParses'. -/
def collParsesUptoCard : Claim7 := { stood := { row := collParsesUptoRow, standIns := [], harness := (true, "5e7d19991e824f65e2736d005c35549d8dd54fdc3d9893cef1702ed0ce0355c8"), looks := true }, kinds := [], alts := [], laidByText := true, laidKinds := [.data, .data, .data, .data, .sentinel, .sentinel, .pinned], laidTests := true, laidLooks := .later }
def CollParsesUptoCardSaid : Prop := Claim7.holds Tryd.pinned (.plain (OpenSpec.upto collParsesSpec)) collParsesUptoCard

/-- THE SECOND FORM's CARD OF 'chisellaw03.CollKeys'. -/
def collKeysUptoCard : Claim7 := { stood := { row := collKeysUptoRow, standIns := [], harness := (true, "5e7d19991e824f65e2736d005c35549d8dd54fdc3d9893cef1702ed0ce0355c8"), looks := true }, kinds := [], alts := [], laidByText := true, laidKinds := [.data, .data, .data, .data, .sentinel, .sentinel, .pinned], laidTests := true, laidLooks := .later }
def CollKeysUptoCardSaid : Prop := Claim7.holds Tryd.pinned (.plain (OpenSpec.upto collKeysSpec)) collKeysUptoCard

/-- THE SECOND FORM's CARD OF 'chisellaw03.CollCompares'. -/
def collComparesUptoCard : Claim7 := { stood := { row := collComparesUptoRow, standIns := [], harness := (true, "5e7d19991e824f65e2736d005c35549d8dd54fdc3d9893cef1702ed0ce0355c8"), looks := true }, kinds := [], alts := [], laidByText := true, laidKinds := [.data, .data, .data, .data, .sentinel, .sentinel, .pinned], laidTests := true, laidLooks := .later }
def CollComparesUptoCardSaid : Prop := Claim7.holds Tryd.pinned (.plain (OpenSpec.upto collComparesSpec)) collComparesUptoCard

/-- THE SECOND FORM's CARD OF 'chisellaw03.CollOrder'. -/
def collOrderUptoCard : Claim7 := { stood := { row := collOrderUptoRow, standIns := [], harness := (true, "5e7d19991e824f65e2736d005c35549d8dd54fdc3d9893cef1702ed0ce0355c8"), looks := true }, kinds := [], alts := [], laidByText := true, laidKinds := [.data, .data, .data, .data, .sentinel, .sentinel, .pinned], laidTests := true, laidLooks := .later }
def CollOrderUptoCardSaid : Prop := Claim7.holds Tryd.pinned (.plain (OpenSpec.upto collOrderSpec)) collOrderUptoCard

/-- THE SECOND FORM's CARD OF 'chisellaw03.CollPrefixes'. -/
def collPrefixesUptoCard : Claim7 := { stood := { row := collPrefixesUptoRow, standIns := [], harness := (true, "5e7d19991e824f65e2736d005c35549d8dd54fdc3d9893cef1702ed0ce0355c8"), looks := true }, kinds := [], alts := [], laidByText := true, laidKinds := [.data, .data, .data, .data, .sentinel, .sentinel, .pinned], laidTests := true, laidLooks := .later }
def CollPrefixesUptoCardSaid : Prop := Claim7.holds Tryd.pinned (.plain (OpenSpec.upto collPrefixesSpec)) collPrefixesUptoCard

/-- THE SECOND FORM's CARD OF 'chisellaw03.CollNil'. -/
def collNilUptoCard : Claim7 := { stood := { row := collNilUptoRow, standIns := [], harness := (true, "5e7d19991e824f65e2736d005c35549d8dd54fdc3d9893cef1702ed0ce0355c8"), looks := true }, kinds := [], alts := [], laidByText := true, laidKinds := [.data, .data, .data, .data, .sentinel, .sentinel, .pinned], laidTests := true, laidLooks := .later }
def CollNilUptoCardSaid : Prop := Claim7.holds Tryd.pinned (.plain (OpenSpec.upto collNilSpec)) collNilUptoCard

/-- THE SECOND FORM's CARD OF 'chisellaw03.CollKnown'. -/
def collKnownUptoCard : Claim7 := { stood := { row := collKnownUptoRow, standIns := [], harness := (true, "5e7d19991e824f65e2736d005c35549d8dd54fdc3d9893cef1702ed0ce0355c8"), looks := true }, kinds := [], alts := [], laidByText := true, laidKinds := [.data, .data, .data, .data, .sentinel, .sentinel, .pinned], laidTests := true, laidLooks := .later }
def CollKnownUptoCardSaid : Prop := Claim7.holds Tryd.pinned (.plain (OpenSpec.upto collKnownSpec)) collKnownUptoCard

/-- THE SECOND FORM's CARD OF 'chisellaw03.CollLevels'. -/
def collLevelsUptoCard : Claim7 := { stood := { row := collLevelsUptoRow, standIns := [], harness := (true, "5e7d19991e824f65e2736d005c35549d8dd54fdc3d9893cef1702ed0ce0355c8"), looks := true }, kinds := [], alts := [], laidByText := true, laidKinds := [.data, .data, .data, .data, .sentinel, .sentinel, .pinned], laidTests := true, laidLooks := .later }
def CollLevelsUptoCardSaid : Prop := Claim7.holds Tryd.pinned (.plain (OpenSpec.upto collLevelsSpec)) collLevelsUptoCard

/-- THE SECOND FORM's CARD OF 'chisellaw03.CollIgnored'. -/
def collIgnoredUptoCard : Claim7 := { stood := { row := collIgnoredUptoRow, standIns := [], harness := (true, "5e7d19991e824f65e2736d005c35549d8dd54fdc3d9893cef1702ed0ce0355c8"), looks := true }, kinds := [], alts := [], laidByText := true, laidKinds := [.data, .data, .data, .data, .sentinel, .sentinel, .pinned], laidTests := true, laidLooks := .later }
def CollIgnoredUptoCardSaid : Prop := Claim7.holds Tryd.pinned (.plain (OpenSpec.upto collIgnoredSpec)) collIgnoredUptoCard

/-- THE SECOND FORM's CARD OF 'chisellaw03.CollLong'. -/
def collLongUptoCard : Claim7 := { stood := { row := collLongUptoRow, standIns := [], harness := (true, "5e7d19991e824f65e2736d005c35549d8dd54fdc3d9893cef1702ed0ce0355c8"), looks := true }, kinds := [], alts := [], laidByText := true, laidKinds := [.data, .data, .data, .data, .sentinel, .sentinel, .pinned], laidTests := true, laidLooks := .later }
def CollLongUptoCardSaid : Prop := Claim7.holds Tryd.pinned (.plain (OpenSpec.upto collLongSpec)) collLongUptoCard

/-- THE SECOND FORM's CARD OF 'chisellaw03.CollPoints'. -/
def collPointsUptoCard : Claim7 := { stood := { row := collPointsUptoRow, standIns := [], harness := (true, "5e7d19991e824f65e2736d005c35549d8dd54fdc3d9893cef1702ed0ce0355c8"), looks := true }, kinds := [], alts := [], laidByText := true, laidKinds := [.data, .data, .data, .data, .sentinel, .sentinel, .pinned], laidTests := true, laidLooks := .later }
def CollPointsUptoCardSaid : Prop := Claim7.holds Tryd.pinned (.plain (OpenSpec.upto collPointsSpec)) collPointsUptoCard
end Rows
end Go.Proofs.YtibhifjehbajnaaDoor
