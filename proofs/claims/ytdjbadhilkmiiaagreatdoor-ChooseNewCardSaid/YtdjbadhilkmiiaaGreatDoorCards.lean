/-
  DERIVED. GIVEN WITH THE SEED: THE CARDS: each row of YtdjbadhilkmiiaaGreatDoorRows.lean that lists a variable, with what it lists TIED to the program's text (the seventh form; the later family's looks); each row that meets fmt, with fmt's text TOLD by the authors' own Lean function (tested against real Go, not proved from fmt's source: count such statements apart). THE CARD IS WHAT COUNTS. Prove the row's statement (the work); the ties are given (YtdjbadhilkmiiaaGreatDoorTie.lean); close each card by the builder's one call (the guide's Derived/Test/ToyasCard.lean, 'card_holds'). Laid BY PROGRAM, IN A SANDBOX (cutbox-door.mjs). By AI agents, Wed Nov 11 2026. No macro, syntax, notation, axiom, sorry.
-/
import Derived.Test.YtdjbadhilkmiiaaGreatDoorRows
import GoSem.ClaimSeven
namespace Go.Proofs.YtdjbadhilkmiiaaGreatDoor
namespace Rows

/-- THE TIED CARD OF 'boulterlaw33.ChooseNew'. -/
def chooseNewCard : Claim7 := { stood := { row := chooseNewRow, standIns := [], harness := (true, "e79863a0cb88ade8a4e382228c22e1ddca294f2b38a80f405a670bb7852cf845"), looks := true }, kinds := [], alts := [], laidByText := true, laidKinds := [.data, .data, .data, .data, .sentinel, .sentinel, .pinned], laidTests := true, laidLooks := .later }
def ChooseNewCardSaid : Prop := Claim7.holds Tryz.pinned (.plain (OpenSpec.ofChange chooseNewSpec)) chooseNewCard

/-- THE SECOND FORM's CARD OF 'boulterlaw33.ChooseNew'. -/
def chooseNewUptoCard : Claim7 := { stood := { row := chooseNewUptoRow, standIns := [], harness := (true, "e79863a0cb88ade8a4e382228c22e1ddca294f2b38a80f405a670bb7852cf845"), looks := true }, kinds := [], alts := [], laidByText := true, laidKinds := [.data, .data, .data, .data, .sentinel, .sentinel, .pinned], laidTests := true, laidLooks := .later }
def ChooseNewUptoCardSaid : Prop := Claim7.holds Tryz.pinned (.plain (OpenSpec.upto chooseNewSpec)) chooseNewUptoCard
end Rows
end Go.Proofs.YtdjbadhilkmiiaaGreatDoor
