/-
  DERIVED. GIVEN WITH THE SEED: THE CARDS: each row of YthnnciphldbmeaaGreatDoorRows.lean that lists a variable, with what it lists TIED to the program's text (the seventh form; the later family's looks); each row that meets fmt, with fmt's text TOLD by the authors' own Lean function (tested against real Go, not proved from fmt's source: count such statements apart). THE CARD IS WHAT COUNTS. Prove the row's statement (the work); the ties are given (YthnnciphldbmeaaGreatDoorTie.lean); close each card by the builder's one call (the guide's Derived/Test/ToyasCard.lean, 'card_holds'). Laid BY PROGRAM, IN A SANDBOX (cutbox-door.mjs). By AI agents, Wed Nov 11 2026. No macro, syntax, notation, axiom, sorry.
-/
import Derived.Test.YthnnciphldbmeaaGreatDoorRows
import GoSem.ClaimSeven
namespace Go.Proofs.YthnnciphldbmeaaGreatDoor
namespace Rows

/-- THE TIED CARD OF 'boulterlaw33.ChooseNew'. -/
def chooseNewCard : Claim7 := { stood := { row := chooseNewRow, standIns := [], harness := (true, "66be120664c934bb36c6f688611b4e06e08322bfad9a3e3d3055be5f3bb3164c"), looks := true }, kinds := [], alts := [], laidByText := true, laidKinds := [.data, .data, .data, .data, .sentinel, .sentinel, .pinned], laidTests := true, laidLooks := .later }
def ChooseNewCardSaid : Prop := Claim7.holds Tryz.pinned (.plain (OpenSpec.ofChange chooseNewSpec)) chooseNewCard

/-- THE TIED CARD OF 'boulterlaw33.ChooseAll'. -/
def chooseAllCard : Claim7 := { stood := { row := chooseAllRow, standIns := [], harness := (true, "66be120664c934bb36c6f688611b4e06e08322bfad9a3e3d3055be5f3bb3164c"), looks := true }, kinds := [], alts := [], laidByText := true, laidKinds := [.data, .data, .data, .data, .sentinel, .sentinel, .pinned], laidTests := true, laidLooks := .later }
def ChooseAllCardSaid : Prop := Claim7.holds Tryz.pinned (.plain (OpenSpec.ofChange chooseAllSpec)) chooseAllCard

/-- THE TIED CARD OF 'boulterlaw34.FilterStays'. -/
def filterStaysCard : Claim7 := { stood := { row := filterStaysRow, standIns := [], harness := (true, "66be120664c934bb36c6f688611b4e06e08322bfad9a3e3d3055be5f3bb3164c"), looks := true }, kinds := [], alts := [], laidByText := true, laidKinds := [.data, .data, .data, .data, .sentinel, .sentinel, .pinned], laidTests := true, laidLooks := .later }
def FilterStaysCardSaid : Prop := Claim7.holds Tryz.pinned (.plain (OpenSpec.ofChange filterStaysSpec)) filterStaysCard

/-- THE TIED CARD OF 'boulterlaw34.FilterIndex'. -/
def filterIndexCard : Claim7 := { stood := { row := filterIndexRow, standIns := [], harness := (true, "66be120664c934bb36c6f688611b4e06e08322bfad9a3e3d3055be5f3bb3164c"), looks := true }, kinds := [], alts := [], laidByText := true, laidKinds := [.data, .data, .data, .data, .sentinel, .sentinel, .pinned], laidTests := true, laidLooks := .later }
def FilterIndexCardSaid : Prop := Claim7.holds Tryz.pinned (.plain (OpenSpec.ofChange filterIndexSpec)) filterIndexCard

/-- THE SECOND FORM's CARD OF 'boulterlaw33.ChooseNew'. -/
def chooseNewUptoCard : Claim7 := { stood := { row := chooseNewUptoRow, standIns := [], harness := (true, "66be120664c934bb36c6f688611b4e06e08322bfad9a3e3d3055be5f3bb3164c"), looks := true }, kinds := [], alts := [], laidByText := true, laidKinds := [.data, .data, .data, .data, .sentinel, .sentinel, .pinned], laidTests := true, laidLooks := .later }
def ChooseNewUptoCardSaid : Prop := Claim7.holds Tryz.pinned (.plain (OpenSpec.upto chooseNewSpec)) chooseNewUptoCard

/-- THE SECOND FORM's CARD OF 'boulterlaw33.ChooseAll'. -/
def chooseAllUptoCard : Claim7 := { stood := { row := chooseAllUptoRow, standIns := [], harness := (true, "66be120664c934bb36c6f688611b4e06e08322bfad9a3e3d3055be5f3bb3164c"), looks := true }, kinds := [], alts := [], laidByText := true, laidKinds := [.data, .data, .data, .data, .sentinel, .sentinel, .pinned], laidTests := true, laidLooks := .later }
def ChooseAllUptoCardSaid : Prop := Claim7.holds Tryz.pinned (.plain (OpenSpec.upto chooseAllSpec)) chooseAllUptoCard

/-- THE SECOND FORM's CARD OF 'boulterlaw34.FilterStays'. -/
def filterStaysUptoCard : Claim7 := { stood := { row := filterStaysUptoRow, standIns := [], harness := (true, "66be120664c934bb36c6f688611b4e06e08322bfad9a3e3d3055be5f3bb3164c"), looks := true }, kinds := [], alts := [], laidByText := true, laidKinds := [.data, .data, .data, .data, .sentinel, .sentinel, .pinned], laidTests := true, laidLooks := .later }
def FilterStaysUptoCardSaid : Prop := Claim7.holds Tryz.pinned (.plain (OpenSpec.upto filterStaysSpec)) filterStaysUptoCard

/-- THE SECOND FORM's CARD OF 'boulterlaw34.FilterIndex'. -/
def filterIndexUptoCard : Claim7 := { stood := { row := filterIndexUptoRow, standIns := [], harness := (true, "66be120664c934bb36c6f688611b4e06e08322bfad9a3e3d3055be5f3bb3164c"), looks := true }, kinds := [], alts := [], laidByText := true, laidKinds := [.data, .data, .data, .data, .sentinel, .sentinel, .pinned], laidTests := true, laidLooks := .later }
def FilterIndexUptoCardSaid : Prop := Claim7.holds Tryz.pinned (.plain (OpenSpec.upto filterIndexSpec)) filterIndexUptoCard
end Rows
end Go.Proofs.YthnnciphldbmeaaGreatDoor
