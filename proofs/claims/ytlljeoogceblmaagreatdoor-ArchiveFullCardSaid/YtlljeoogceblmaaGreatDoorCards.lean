/-
  DERIVED. GIVEN WITH THE SEED: THE CARDS: each row of YtlljeoogceblmaaGreatDoorRows.lean that lists a variable, with what it lists TIED to the program's text (the seventh form; the later family's looks); each row that meets fmt, with fmt's text TOLD by the authors' own Lean function (tested against real Go, not proved from fmt's source: count such statements apart). THE CARD IS WHAT COUNTS. Prove the row's statement (the work); the ties are given (YtlljeoogceblmaaGreatDoorTie.lean); close each card by the builder's one call (the guide's Derived/Test/ToyasCard.lean, 'card_holds'). Laid BY PROGRAM, IN A SANDBOX (cutbox-door.mjs). By AI agents, Wed Nov 11 2026. No macro, syntax, notation, axiom, sorry.
-/
import Derived.Test.YtlljeoogceblmaaGreatDoorRows
import GoSem.ClaimSeven
namespace Go.Proofs.YtlljeoogceblmaaGreatDoor
namespace Rows

/-- THE TIED CARD OF 'boulterlaw11.WriterHeads'. -/
def writerHeadsCard : Claim7 := { stood := { row := writerHeadsRow, standIns := [], harness := (true, "1be8b2e845b7919ab17b85d9aa2f272a981ea58142ffae90ca8d26d05c9241d4"), looks := false }, kinds := [], alts := [], laidByText := true, laidKinds := [.data, .data, .data, .data, .pinned], laidTests := true, laidLooks := .later }
def WriterHeadsCardSaid : Prop := Claim7.holds Tryz.pinned (.plain (OpenSpec.ofChange writerHeadsSpec)) writerHeadsCard

/-- THE TIED CARD OF 'boulterlaw11.WriterArchive'. -/
def writerArchiveCard : Claim7 := { stood := { row := writerArchiveRow, standIns := [], harness := (true, "1be8b2e845b7919ab17b85d9aa2f272a981ea58142ffae90ca8d26d05c9241d4"), looks := false }, kinds := [], alts := [], laidByText := true, laidKinds := [.data, .data, .data, .data, .pinned], laidTests := true, laidLooks := .later }
def WriterArchiveCardSaid : Prop := Claim7.holds Tryz.pinned (.plain (OpenSpec.ofChange writerArchiveSpec)) writerArchiveCard

/-- THE TIED CARD OF 'boulterlaw11.WriterPlays'. -/
def writerPlaysCard : Claim7 := { stood := { row := writerPlaysRow, standIns := [], harness := (true, "1be8b2e845b7919ab17b85d9aa2f272a981ea58142ffae90ca8d26d05c9241d4"), looks := false }, kinds := [], alts := [], laidByText := true, laidKinds := [.data, .data, .data, .data, .pinned], laidTests := true, laidLooks := .later }
def WriterPlaysCardSaid : Prop := Claim7.holds Tryz.pinned (.plain (OpenSpec.ofChange writerPlaysSpec)) writerPlaysCard

/-- THE TIED CARD OF 'boulterlaw07.AttrsBack'. -/
def attrsBackCard : Claim7 := { stood := { row := attrsBackRow, standIns := [], harness := (true, "1be8b2e845b7919ab17b85d9aa2f272a981ea58142ffae90ca8d26d05c9241d4"), looks := false }, kinds := [], alts := [], laidByText := true, laidKinds := [.data, .data, .data, .data, .pinned], laidTests := true, laidLooks := .later }
def AttrsBackCardSaid : Prop := Claim7.holds Tryz.pinned (.plain (OpenSpec.ofChange attrsBackSpec)) attrsBackCard

/-- THE TIED CARD OF 'boulterlaw10.ReaderParts'. -/
def readerPartsCard : Claim7 := { stood := { row := readerPartsRow, standIns := [], harness := (true, "1be8b2e845b7919ab17b85d9aa2f272a981ea58142ffae90ca8d26d05c9241d4"), looks := false }, kinds := [], alts := [], laidByText := true, laidKinds := [.data, .data, .data, .data, .pinned], laidTests := true, laidLooks := .later }
def ReaderPartsCardSaid : Prop := Claim7.holds Tryz.pinned (.plain (OpenSpec.ofChange readerPartsSpec)) readerPartsCard

/-- THE TIED CARD OF 'boulterlaw10.ReaderChunks'. -/
def readerChunksCard : Claim7 := { stood := { row := readerChunksRow, standIns := [], harness := (true, "1be8b2e845b7919ab17b85d9aa2f272a981ea58142ffae90ca8d26d05c9241d4"), looks := false }, kinds := [], alts := [], laidByText := true, laidKinds := [.data, .data, .data, .data, .pinned], laidTests := true, laidLooks := .later }
def ReaderChunksCardSaid : Prop := Claim7.holds Tryz.pinned (.plain (OpenSpec.ofChange readerChunksSpec)) readerChunksCard

/-- THE TIED CARD OF 'boulterlaw12.ArchiveFull'. -/
def archiveFullCard : Claim7 := { stood := { row := archiveFullRow, standIns := [], harness := (true, "1be8b2e845b7919ab17b85d9aa2f272a981ea58142ffae90ca8d26d05c9241d4"), looks := false }, kinds := [], alts := [], laidByText := true, laidKinds := [.data, .data, .data, .data, .pinned], laidTests := true, laidLooks := .later }
def ArchiveFullCardSaid : Prop := Claim7.holds Tryz.pinned (.plain (OpenSpec.ofChange archiveFullSpec)) archiveFullCard

/-- THE TIED CARD OF 'boulterlaw12.ArchiveBack'. -/
def archiveBackCard : Claim7 := { stood := { row := archiveBackRow, standIns := [], harness := (true, "1be8b2e845b7919ab17b85d9aa2f272a981ea58142ffae90ca8d26d05c9241d4"), looks := false }, kinds := [], alts := [], laidByText := true, laidKinds := [.data, .data, .data, .data, .pinned], laidTests := true, laidLooks := .later }
def ArchiveBackCardSaid : Prop := Claim7.holds Tryz.pinned (.plain (OpenSpec.ofChange archiveBackSpec)) archiveBackCard

/-- THE SECOND FORM's CARD OF 'boulterlaw11.WriterHeads'. -/
def writerHeadsUptoCard : Claim7 := { stood := { row := writerHeadsUptoRow, standIns := [], harness := (true, "1be8b2e845b7919ab17b85d9aa2f272a981ea58142ffae90ca8d26d05c9241d4"), looks := false }, kinds := [], alts := [], laidByText := true, laidKinds := [.data, .data, .data, .data, .pinned], laidTests := true, laidLooks := .later }
def WriterHeadsUptoCardSaid : Prop := Claim7.holds Tryz.pinned (.plain (OpenSpec.upto writerHeadsSpec)) writerHeadsUptoCard

/-- THE SECOND FORM's CARD OF 'boulterlaw11.WriterArchive'. -/
def writerArchiveUptoCard : Claim7 := { stood := { row := writerArchiveUptoRow, standIns := [], harness := (true, "1be8b2e845b7919ab17b85d9aa2f272a981ea58142ffae90ca8d26d05c9241d4"), looks := false }, kinds := [], alts := [], laidByText := true, laidKinds := [.data, .data, .data, .data, .pinned], laidTests := true, laidLooks := .later }
def WriterArchiveUptoCardSaid : Prop := Claim7.holds Tryz.pinned (.plain (OpenSpec.upto writerArchiveSpec)) writerArchiveUptoCard

/-- THE SECOND FORM's CARD OF 'boulterlaw11.WriterPlays'. -/
def writerPlaysUptoCard : Claim7 := { stood := { row := writerPlaysUptoRow, standIns := [], harness := (true, "1be8b2e845b7919ab17b85d9aa2f272a981ea58142ffae90ca8d26d05c9241d4"), looks := false }, kinds := [], alts := [], laidByText := true, laidKinds := [.data, .data, .data, .data, .pinned], laidTests := true, laidLooks := .later }
def WriterPlaysUptoCardSaid : Prop := Claim7.holds Tryz.pinned (.plain (OpenSpec.upto writerPlaysSpec)) writerPlaysUptoCard

/-- THE SECOND FORM's CARD OF 'boulterlaw07.AttrsBack'. -/
def attrsBackUptoCard : Claim7 := { stood := { row := attrsBackUptoRow, standIns := [], harness := (true, "1be8b2e845b7919ab17b85d9aa2f272a981ea58142ffae90ca8d26d05c9241d4"), looks := false }, kinds := [], alts := [], laidByText := true, laidKinds := [.data, .data, .data, .data, .pinned], laidTests := true, laidLooks := .later }
def AttrsBackUptoCardSaid : Prop := Claim7.holds Tryz.pinned (.plain (OpenSpec.upto attrsBackSpec)) attrsBackUptoCard

/-- THE SECOND FORM's CARD OF 'boulterlaw10.ReaderParts'. -/
def readerPartsUptoCard : Claim7 := { stood := { row := readerPartsUptoRow, standIns := [], harness := (true, "1be8b2e845b7919ab17b85d9aa2f272a981ea58142ffae90ca8d26d05c9241d4"), looks := false }, kinds := [], alts := [], laidByText := true, laidKinds := [.data, .data, .data, .data, .pinned], laidTests := true, laidLooks := .later }
def ReaderPartsUptoCardSaid : Prop := Claim7.holds Tryz.pinned (.plain (OpenSpec.upto readerPartsSpec)) readerPartsUptoCard

/-- THE SECOND FORM's CARD OF 'boulterlaw10.ReaderChunks'. -/
def readerChunksUptoCard : Claim7 := { stood := { row := readerChunksUptoRow, standIns := [], harness := (true, "1be8b2e845b7919ab17b85d9aa2f272a981ea58142ffae90ca8d26d05c9241d4"), looks := false }, kinds := [], alts := [], laidByText := true, laidKinds := [.data, .data, .data, .data, .pinned], laidTests := true, laidLooks := .later }
def ReaderChunksUptoCardSaid : Prop := Claim7.holds Tryz.pinned (.plain (OpenSpec.upto readerChunksSpec)) readerChunksUptoCard

/-- THE SECOND FORM's CARD OF 'boulterlaw12.ArchiveFull'. -/
def archiveFullUptoCard : Claim7 := { stood := { row := archiveFullUptoRow, standIns := [], harness := (true, "1be8b2e845b7919ab17b85d9aa2f272a981ea58142ffae90ca8d26d05c9241d4"), looks := false }, kinds := [], alts := [], laidByText := true, laidKinds := [.data, .data, .data, .data, .pinned], laidTests := true, laidLooks := .later }
def ArchiveFullUptoCardSaid : Prop := Claim7.holds Tryz.pinned (.plain (OpenSpec.upto archiveFullSpec)) archiveFullUptoCard

/-- THE SECOND FORM's CARD OF 'boulterlaw12.ArchiveBack'. -/
def archiveBackUptoCard : Claim7 := { stood := { row := archiveBackUptoRow, standIns := [], harness := (true, "1be8b2e845b7919ab17b85d9aa2f272a981ea58142ffae90ca8d26d05c9241d4"), looks := false }, kinds := [], alts := [], laidByText := true, laidKinds := [.data, .data, .data, .data, .pinned], laidTests := true, laidLooks := .later }
def ArchiveBackUptoCardSaid : Prop := Claim7.holds Tryz.pinned (.plain (OpenSpec.upto archiveBackSpec)) archiveBackUptoCard
end Rows
end Go.Proofs.YtlljeoogceblmaaGreatDoor
