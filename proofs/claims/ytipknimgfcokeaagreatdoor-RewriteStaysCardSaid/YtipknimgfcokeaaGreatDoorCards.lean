/-
  DERIVED. GIVEN WITH THE SEED: THE CARDS: each row of YtipknimgfcokeaaGreatDoorRows.lean that lists a variable, with what it lists TIED to the program's text (the seventh form; the later family's looks); each row that meets fmt, with fmt's text TOLD by the authors' own Lean function (tested against real Go, not proved from fmt's source: count such statements apart). THE CARD IS WHAT COUNTS. Prove the row's statement (the work); the ties are given (YtipknimgfcokeaaGreatDoorTie.lean); close each card by the builder's one call (the guide's Derived/Test/ToyasCard.lean, 'card_holds'). Laid BY PROGRAM, IN A SANDBOX (cutbox-door.mjs). By AI agents, Wed Nov 11 2026. No macro, syntax, notation, axiom, sorry.
-/
import Derived.Test.YtipknimgfcokeaaGreatDoorRows
import GoSem.ClaimSeven
namespace Go.Proofs.YtipknimgfcokeaaGreatDoor
namespace Rows

/-- THE TIED CARD OF 'boulterlaw24.RewriteStays'. -/
def rewriteStaysCard : Claim7 := { stood := { row := rewriteStaysRow, standIns := [], harness := (true, "959bea662260be67b610e483cc41a0f6149d6f7eca92f7ab108a5eef469c4107"), looks := true }, kinds := [], alts := [], laidByText := true, laidKinds := [.data, .data, .data, .sentinel, .sentinel], laidTests := true, laidLooks := .later }
def RewriteStaysCardSaid : Prop := Claim7.holds Tryz.pinned (.plain (OpenSpec.ofChange rewriteStaysSpec)) rewriteStaysCard

/-- THE SECOND FORM's CARD OF 'boulterlaw24.RewriteStays'. -/
def rewriteStaysUptoCard : Claim7 := { stood := { row := rewriteStaysUptoRow, standIns := [], harness := (true, "959bea662260be67b610e483cc41a0f6149d6f7eca92f7ab108a5eef469c4107"), looks := true }, kinds := [], alts := [], laidByText := true, laidKinds := [.data, .data, .data, .sentinel, .sentinel], laidTests := true, laidLooks := .later }
def RewriteStaysUptoCardSaid : Prop := Claim7.holds Tryz.pinned (.plain (OpenSpec.upto rewriteStaysSpec)) rewriteStaysUptoCard
end Rows
end Go.Proofs.YtipknimgfcokeaaGreatDoor
