/-
  DERIVED. GIVEN WITH THE SEED: THE CARDS: each row of YtoaelbgmaicdhaaGreatDoorRows.lean that lists a variable, with what it lists TIED to the program's text (the seventh form; the later family's looks); each row that meets fmt, with fmt's text TOLD by the authors' own Lean function (tested against real Go, not proved from fmt's source: count such statements apart). THE CARD IS WHAT COUNTS. Prove the row's statement (the work); the ties are given (YtoaelbgmaicdhaaGreatDoorTie.lean); close each card by the builder's one call (the guide's Derived/Test/ToyasCard.lean, 'card_holds'). Laid BY PROGRAM, IN A SANDBOX (cutbox-door.mjs). By AI agents, Wed Nov 11 2026. No macro, syntax, notation, axiom, sorry.
-/
import Derived.Test.YtoaelbgmaicdhaaGreatDoorRows
import GoSem.ClaimSeven
namespace Go.Proofs.YtoaelbgmaicdhaaGreatDoor
namespace Rows

/-- THE TIED CARD OF 'boulterlaw07.AttrsApply'. -/
def attrsApplyCard : Claim7 := { stood := { row := attrsApplyRow, standIns := [], harness := (true, "4171d03bc955b798746776de865ff7299c3b44debee5797ea8613754664316a8"), looks := false }, kinds := [], alts := [], laidByText := true, laidKinds := [.data, .data, .data, .data, .pinned], laidTests := true, laidLooks := .later }
def AttrsApplyCardSaid : Prop := Claim7.holds Tryz.pinned (.plain (OpenSpec.ofChange attrsApplySpec)) attrsApplyCard

/-- THE TIED CARD OF 'boulterlaw07.AttrsMerge'. -/
def attrsMergeCard : Claim7 := { stood := { row := attrsMergeRow, standIns := [], harness := (true, "4171d03bc955b798746776de865ff7299c3b44debee5797ea8613754664316a8"), looks := false }, kinds := [], alts := [], laidByText := true, laidKinds := [.data, .data, .data, .data, .pinned], laidTests := true, laidLooks := .later }
def AttrsMergeCardSaid : Prop := Claim7.holds Tryz.pinned (.plain (OpenSpec.ofChange attrsMergeSpec)) attrsMergeCard

/-- THE TIED CARD OF 'boulterlaw12.ArchiveSame'. -/
def archiveSameCard : Claim7 := { stood := { row := archiveSameRow, standIns := [], harness := (true, "4171d03bc955b798746776de865ff7299c3b44debee5797ea8613754664316a8"), looks := false }, kinds := [], alts := [], laidByText := true, laidKinds := [.data, .data, .data, .data, .pinned], laidTests := true, laidLooks := .later }
def ArchiveSameCardSaid : Prop := Claim7.holds Tryz.pinned (.plain (OpenSpec.ofChange archiveSameSpec)) archiveSameCard

/-- THE SECOND FORM's CARD OF 'boulterlaw07.AttrsApply'. -/
def attrsApplyUptoCard : Claim7 := { stood := { row := attrsApplyUptoRow, standIns := [], harness := (true, "4171d03bc955b798746776de865ff7299c3b44debee5797ea8613754664316a8"), looks := false }, kinds := [], alts := [], laidByText := true, laidKinds := [.data, .data, .data, .data, .pinned], laidTests := true, laidLooks := .later }
def AttrsApplyUptoCardSaid : Prop := Claim7.holds Tryz.pinned (.plain (OpenSpec.upto attrsApplySpec)) attrsApplyUptoCard

/-- THE SECOND FORM's CARD OF 'boulterlaw07.AttrsMerge'. -/
def attrsMergeUptoCard : Claim7 := { stood := { row := attrsMergeUptoRow, standIns := [], harness := (true, "4171d03bc955b798746776de865ff7299c3b44debee5797ea8613754664316a8"), looks := false }, kinds := [], alts := [], laidByText := true, laidKinds := [.data, .data, .data, .data, .pinned], laidTests := true, laidLooks := .later }
def AttrsMergeUptoCardSaid : Prop := Claim7.holds Tryz.pinned (.plain (OpenSpec.upto attrsMergeSpec)) attrsMergeUptoCard

/-- THE SECOND FORM's CARD OF 'boulterlaw12.ArchiveSame'. -/
def archiveSameUptoCard : Claim7 := { stood := { row := archiveSameUptoRow, standIns := [], harness := (true, "4171d03bc955b798746776de865ff7299c3b44debee5797ea8613754664316a8"), looks := false }, kinds := [], alts := [], laidByText := true, laidKinds := [.data, .data, .data, .data, .pinned], laidTests := true, laidLooks := .later }
def ArchiveSameUptoCardSaid : Prop := Claim7.holds Tryz.pinned (.plain (OpenSpec.upto archiveSameSpec)) archiveSameUptoCard
end Rows
end Go.Proofs.YtoaelbgmaicdhaaGreatDoor
