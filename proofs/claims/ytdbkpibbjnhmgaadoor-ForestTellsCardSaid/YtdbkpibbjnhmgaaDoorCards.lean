/-
  DERIVED. GIVEN WITH THE SEED: THE CARDS: each row of YtdbkpibbjnhmgaaDoorRows.lean that lists a variable, with what it lists TIED to the program's text (the seventh form; the later family's looks); each row that meets fmt, with fmt's text TOLD by the authors' own Lean function (tested against real Go, not proved from fmt's source: count such statements apart). THE CARD IS WHAT COUNTS. Prove the row's statement (the work); the ties are given (YtdbkpibbjnhmgaaDoorTie.lean); close each card by the builder's one call (the guide's Derived/Test/ToyasCard.lean, 'card_holds'). Laid BY PROGRAM, IN A SANDBOX (cutbox-door.mjs). By AI agents, Wed Nov 11 2026. No macro, syntax, notation, axiom, sorry.
-/
import Derived.Test.YtdbkpibbjnhmgaaDoorRows
import GoSem.ClaimSeven
namespace Go.Proofs.YtdbkpibbjnhmgaaDoor
namespace Rows

/-- THE TIED CARD OF 'boulterlaw37.ForestStops'. -/
def forestStopsCard : Claim7 := { stood := { row := forestStopsRow, standIns := [], harness := (true, "6645c67ec871f605561ad7fce00d153f5aa43c5e4cb75b0d5264c4b160ae4ae8"), looks := false }, kinds := [], alts := [], laidByText := true, laidKinds := [.data, .pinned], laidTests := true, laidLooks := .later }
def ForestStopsCardSaid : Prop := Claim7.holds Tryd.pinned (.plain (OpenSpec.ofChange forestStopsSpec)) forestStopsCard

/-- THE TIED CARD OF 'boulterlaw37.ForestTells'. -/
def forestTellsCard : Claim7 := { stood := { row := forestTellsRow, standIns := [], harness := (true, "6645c67ec871f605561ad7fce00d153f5aa43c5e4cb75b0d5264c4b160ae4ae8"), looks := false }, kinds := [], alts := [], laidByText := true, laidKinds := [.data, .pinned], laidTests := true, laidLooks := .later }
def ForestTellsCardSaid : Prop := Claim7.holds Tryd.pinned (.plain (OpenSpec.ofChange forestTellsSpec)) forestTellsCard

/-- THE TIED CARD OF 'boulterlaw37.ForestFinds'. -/
def forestFindsCard : Claim7 := { stood := { row := forestFindsRow, standIns := [], harness := (true, "6645c67ec871f605561ad7fce00d153f5aa43c5e4cb75b0d5264c4b160ae4ae8"), looks := false }, kinds := [], alts := [], laidByText := true, laidKinds := [.data, .pinned], laidTests := true, laidLooks := .later }
def ForestFindsCardSaid : Prop := Claim7.holds Tryd.pinned (.plain (OpenSpec.ofChange forestFindsSpec)) forestFindsCard

/-- THE SECOND FORM's CARD OF 'boulterlaw37.ForestStops'. -/
def forestStopsUptoCard : Claim7 := { stood := { row := forestStopsUptoRow, standIns := [], harness := (true, "6645c67ec871f605561ad7fce00d153f5aa43c5e4cb75b0d5264c4b160ae4ae8"), looks := false }, kinds := [], alts := [], laidByText := true, laidKinds := [.data, .pinned], laidTests := true, laidLooks := .later }
def ForestStopsUptoCardSaid : Prop := Claim7.holds Tryd.pinned (.plain (OpenSpec.upto forestStopsSpec)) forestStopsUptoCard

/-- THE SECOND FORM's CARD OF 'boulterlaw37.ForestTells'. -/
def forestTellsUptoCard : Claim7 := { stood := { row := forestTellsUptoRow, standIns := [], harness := (true, "6645c67ec871f605561ad7fce00d153f5aa43c5e4cb75b0d5264c4b160ae4ae8"), looks := false }, kinds := [], alts := [], laidByText := true, laidKinds := [.data, .pinned], laidTests := true, laidLooks := .later }
def ForestTellsUptoCardSaid : Prop := Claim7.holds Tryd.pinned (.plain (OpenSpec.upto forestTellsSpec)) forestTellsUptoCard

/-- THE SECOND FORM's CARD OF 'boulterlaw37.ForestFinds'. -/
def forestFindsUptoCard : Claim7 := { stood := { row := forestFindsUptoRow, standIns := [], harness := (true, "6645c67ec871f605561ad7fce00d153f5aa43c5e4cb75b0d5264c4b160ae4ae8"), looks := false }, kinds := [], alts := [], laidByText := true, laidKinds := [.data, .pinned], laidTests := true, laidLooks := .later }
def ForestFindsUptoCardSaid : Prop := Claim7.holds Tryd.pinned (.plain (OpenSpec.upto forestFindsSpec)) forestFindsUptoCard
end Rows
end Go.Proofs.YtdbkpibbjnhmgaaDoor
