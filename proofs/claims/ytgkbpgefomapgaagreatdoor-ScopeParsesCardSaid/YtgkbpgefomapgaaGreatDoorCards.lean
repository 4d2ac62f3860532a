/-
  DERIVED. GIVEN WITH THE SEED: THE CARDS: each row of YtgkbpgefomapgaaGreatDoorRows.lean that lists a variable, with what it lists TIED to the program's text (the seventh form; the later family's looks); each row that meets fmt, with fmt's text TOLD by the authors' own Lean function (tested against real Go, not proved from fmt's source: count such statements apart). THE CARD IS WHAT COUNTS. Prove the row's statement (the work); the ties are given (YtgkbpgefomapgaaGreatDoorTie.lean); close each card by the builder's one call (the guide's Derived/Test/ToyasCard.lean, 'card_holds'). Laid BY PROGRAM, IN A SANDBOX (cutbox-door.mjs). By AI agents, Wed Nov 11 2026. No macro, syntax, notation, axiom, sorry.
-/
import Derived.Test.YtgkbpgefomapgaaGreatDoorRows
import GoSem.ClaimSeven
namespace Go.Proofs.YtgkbpgefomapgaaGreatDoor
namespace Rows

/-- THE TIED CARD OF 'boulterlaw25.ScopeParses'. -/
def scopeParsesCard : Claim7 := { stood := { row := scopeParsesRow, standIns := [], harness := (true, "d46c3e2dea7c798a79a31c0473bdcf8bbb4e5cd3252d74a0cdfcc3232eb63171"), looks := true }, kinds := [], alts := [], laidByText := true, laidKinds := [.data, .data, .data, .sentinel, .sentinel], laidTests := true, laidLooks := .later }
def ScopeParsesCardSaid : Prop := Claim7.holds Tryz.pinned (.plain (OpenSpec.ofChange scopeParsesSpec)) scopeParsesCard

/-- THE SECOND FORM's CARD OF 'boulterlaw25.ScopeParses'. -/
def scopeParsesUptoCard : Claim7 := { stood := { row := scopeParsesUptoRow, standIns := [], harness := (true, "d46c3e2dea7c798a79a31c0473bdcf8bbb4e5cd3252d74a0cdfcc3232eb63171"), looks := true }, kinds := [], alts := [], laidByText := true, laidKinds := [.data, .data, .data, .sentinel, .sentinel], laidTests := true, laidLooks := .later }
def ScopeParsesUptoCardSaid : Prop := Claim7.holds Tryz.pinned (.plain (OpenSpec.upto scopeParsesSpec)) scopeParsesUptoCard
end Rows
end Go.Proofs.YtgkbpgefomapgaaGreatDoor
