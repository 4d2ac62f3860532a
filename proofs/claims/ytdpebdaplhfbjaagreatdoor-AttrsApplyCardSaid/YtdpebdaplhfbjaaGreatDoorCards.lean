/-
  DERIVED. GIVEN WITH THE SEED: THE CARDS: each row of YtdpebdaplhfbjaaGreatDoorRows.lean that lists a variable, with what it lists TIED to the program's text (the seventh form; the later family's looks); each row that meets fmt, with fmt's text TOLD by the authors' own Lean function (tested against real Go, not proved from fmt's source: count such statements apart). THE CARD IS WHAT COUNTS. Prove the row's statement (the work); the ties are given (YtdpebdaplhfbjaaGreatDoorTie.lean); close each card by the builder's one call (the guide's Derived/Test/ToyasCard.lean, 'card_holds'). Laid BY PROGRAM, IN A SANDBOX (cutbox-door.mjs). By AI agents, Wed Nov 11 2026. No macro, syntax, notation, axiom, sorry.
-/
import Derived.Test.YtdpebdaplhfbjaaGreatDoorRows
import GoSem.ClaimSeven
namespace Go.Proofs.YtdpebdaplhfbjaaGreatDoor
namespace Rows

/-- THE TIED CARD OF 'boulterlaw07.AttrsApply'. -/
def attrsApplyCard : Claim7 := { stood := { row := attrsApplyRow, standIns := [], harness := (true, "ced6908fd7ddbcbc2613d5f81f947dcfa427804ae4fdeb4ce56c58ae5d52270a"), looks := false }, kinds := [], alts := [], laidByText := true, laidKinds := [.data, .data, .data, .data, .pinned], laidTests := true, laidLooks := .later }
def AttrsApplyCardSaid : Prop := Claim7.holds Tryz.pinned (.plain (OpenSpec.ofChange attrsApplySpec)) attrsApplyCard

/-- THE TIED CARD OF 'boulterlaw07.AttrsMerge'. -/
def attrsMergeCard : Claim7 := { stood := { row := attrsMergeRow, standIns := [], harness := (true, "ced6908fd7ddbcbc2613d5f81f947dcfa427804ae4fdeb4ce56c58ae5d52270a"), looks := false }, kinds := [], alts := [], laidByText := true, laidKinds := [.data, .data, .data, .data, .pinned], laidTests := true, laidLooks := .later }
def AttrsMergeCardSaid : Prop := Claim7.holds Tryz.pinned (.plain (OpenSpec.ofChange attrsMergeSpec)) attrsMergeCard

/-- THE SECOND FORM's CARD OF 'boulterlaw07.AttrsApply'. -/
def attrsApplyUptoCard : Claim7 := { stood := { row := attrsApplyUptoRow, standIns := [], harness := (true, "ced6908fd7ddbcbc2613d5f81f947dcfa427804ae4fdeb4ce56c58ae5d52270a"), looks := false }, kinds := [], alts := [], laidByText := true, laidKinds := [.data, .data, .data, .data, .pinned], laidTests := true, laidLooks := .later }
def AttrsApplyUptoCardSaid : Prop := Claim7.holds Tryz.pinned (.plain (OpenSpec.upto attrsApplySpec)) attrsApplyUptoCard

/-- THE SECOND FORM's CARD OF 'boulterlaw07.AttrsMerge'. -/
def attrsMergeUptoCard : Claim7 := { stood := { row := attrsMergeUptoRow, standIns := [], harness := (true, "ced6908fd7ddbcbc2613d5f81f947dcfa427804ae4fdeb4ce56c58ae5d52270a"), looks := false }, kinds := [], alts := [], laidByText := true, laidKinds := [.data, .data, .data, .data, .pinned], laidTests := true, laidLooks := .later }
def AttrsMergeUptoCardSaid : Prop := Claim7.holds Tryz.pinned (.plain (OpenSpec.upto attrsMergeSpec)) attrsMergeUptoCard
end Rows
end Go.Proofs.YtdpebdaplhfbjaaGreatDoor
