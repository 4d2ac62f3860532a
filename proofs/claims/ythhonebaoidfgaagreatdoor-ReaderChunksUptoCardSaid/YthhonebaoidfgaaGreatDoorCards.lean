/-
  DERIVED. GIVEN WITH THE SEED: THE CARDS: each row of YthhonebaoidfgaaGreatDoorRows.lean that lists a variable, with what it lists TIED to the program's text (the seventh form; the later family's looks); each row that meets fmt, with fmt's text TOLD by the authors' own Lean function (tested against real Go, not proved from fmt's source: count such statements apart). THE CARD IS WHAT COUNTS. Prove the row's statement (the work); the ties are given (YthhonebaoidfgaaGreatDoorTie.lean); close each card by the builder's one call (the guide's Derived/Test/ToyasCard.lean, 'card_holds'). Laid BY PROGRAM, IN A SANDBOX (cutbox-door.mjs). By AI agents, Wed Nov 11 2026. No macro, syntax, notation, axiom, sorry.
-/
import Derived.Test.YthhonebaoidfgaaGreatDoorRows
import GoSem.ClaimSeven
namespace Go.Proofs.YthhonebaoidfgaaGreatDoor
namespace Rows

/-- THE TIED CARD OF 'boulterlaw10.ReaderParts'. -/
def readerPartsCard : Claim7 := { stood := { row := readerPartsRow, standIns := [], harness := (true, "0c3e95fb60d25b46ca15adf24ac27f0d2f2aa071886e9d770347fcf731f418bd"), looks := false }, kinds := [], alts := [], laidByText := true, laidKinds := [.data, .data, .data, .data, .pinned], laidTests := true, laidLooks := .later }
def ReaderPartsCardSaid : Prop := Claim7.holds Tryz.pinned (.plain (OpenSpec.ofChange readerPartsSpec)) readerPartsCard

/-- THE TIED CARD OF 'boulterlaw10.ReaderChunks'. -/
def readerChunksCard : Claim7 := { stood := { row := readerChunksRow, standIns := [], harness := (true, "0c3e95fb60d25b46ca15adf24ac27f0d2f2aa071886e9d770347fcf731f418bd"), looks := false }, kinds := [], alts := [], laidByText := true, laidKinds := [.data, .data, .data, .data, .pinned], laidTests := true, laidLooks := .later }
def ReaderChunksCardSaid : Prop := Claim7.holds Tryz.pinned (.plain (OpenSpec.ofChange readerChunksSpec)) readerChunksCard

/-- THE TIED CARD OF 'boulterlaw12.ArchiveBack'. -/
def archiveBackCard : Claim7 := { stood := { row := archiveBackRow, standIns := [], harness := (true, "0c3e95fb60d25b46ca15adf24ac27f0d2f2aa071886e9d770347fcf731f418bd"), looks := false }, kinds := [], alts := [], laidByText := true, laidKinds := [.data, .data, .data, .data, .pinned], laidTests := true, laidLooks := .later }
def ArchiveBackCardSaid : Prop := Claim7.holds Tryz.pinned (.plain (OpenSpec.ofChange archiveBackSpec)) archiveBackCard

/-- THE SECOND FORM's CARD OF 'boulterlaw10.ReaderParts'. -/
def readerPartsUptoCard : Claim7 := { stood := { row := readerPartsUptoRow, standIns := [], harness := (true, "0c3e95fb60d25b46ca15adf24ac27f0d2f2aa071886e9d770347fcf731f418bd"), looks := false }, kinds := [], alts := [], laidByText := true, laidKinds := [.data, .data, .data, .data, .pinned], laidTests := true, laidLooks := .later }
def ReaderPartsUptoCardSaid : Prop := Claim7.holds Tryz.pinned (.plain (OpenSpec.upto readerPartsSpec)) readerPartsUptoCard

/-- THE SECOND FORM's CARD OF 'boulterlaw10.ReaderChunks'. -/
def readerChunksUptoCard : Claim7 := { stood := { row := readerChunksUptoRow, standIns := [], harness := (true, "0c3e95fb60d25b46ca15adf24ac27f0d2f2aa071886e9d770347fcf731f418bd"), looks := false }, kinds := [], alts := [], laidByText := true, laidKinds := [.data, .data, .data, .data, .pinned], laidTests := true, laidLooks := .later }
def ReaderChunksUptoCardSaid : Prop := Claim7.holds Tryz.pinned (.plain (OpenSpec.upto readerChunksSpec)) readerChunksUptoCard

/-- THE SECOND FORM's CARD OF 'boulterlaw12.ArchiveBack'. -/
def archiveBackUptoCard : Claim7 := { stood := { row := archiveBackUptoRow, standIns := [], harness := (true, "0c3e95fb60d25b46ca15adf24ac27f0d2f2aa071886e9d770347fcf731f418bd"), looks := false }, kinds := [], alts := [], laidByText := true, laidKinds := [.data, .data, .data, .data, .pinned], laidTests := true, laidLooks := .later }
def ArchiveBackUptoCardSaid : Prop := Claim7.holds Tryz.pinned (.plain (OpenSpec.upto archiveBackSpec)) archiveBackUptoCard
end Rows
end Go.Proofs.YthhonebaoidfgaaGreatDoor
