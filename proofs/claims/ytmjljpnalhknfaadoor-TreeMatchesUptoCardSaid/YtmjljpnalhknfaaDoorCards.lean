/-
  DERIVED. GIVEN WITH THE SEED: THE CARDS: each row of YtmjljpnalhknfaaDoorRows.lean that lists a variable, with what it lists TIED to the program's text (the seventh form; the later family's looks); each row that meets fmt, with fmt's text TOLD by the authors' own Lean function (tested against real Go, not proved from fmt's source: count such statements apart). THE CARD IS WHAT COUNTS. Prove the row's statement (the work); the ties are given (YtmjljpnalhknfaaDoorTie.lean); close each card by the builder's one call (the guide's Derived/Test/ToyasCard.lean, 'card_holds'). Laid BY PROGRAM, IN A SANDBOX (cutbox-door.mjs). By AI agents, Wed Nov 11 2026. No macro, syntax, notation, axiom, sorry.
-/
import Derived.Test.YtmjljpnalhknfaaDoorRows
import GoSem.ClaimSeven
namespace Go.Proofs.YtmjljpnalhknfaaDoor
namespace Rows

/-- THE TIED CARD OF 'boulterlaw18.TreeAdds'. -/
def treeAddsCard : Claim7 := { stood := { row := treeAddsRow, standIns := [], harness := (true, "c55a6d93147a8548aa4571c27d4635d0f35dd918e2bf0cec644def595071c1a4"), looks := false }, kinds := [], alts := [], laidByText := true, laidKinds := [.data, .data, .data], laidTests := true, laidLooks := .later }
def TreeAddsCardSaid : Prop := Claim7.holds Tryd.pinned (.plain (OpenSpec.ofChange treeAddsSpec)) treeAddsCard

/-- THE TIED CARD OF 'boulterlaw18.TreeMatches'. -/
def treeMatchesCard : Claim7 := { stood := { row := treeMatchesRow, standIns := [], harness := (true, "c55a6d93147a8548aa4571c27d4635d0f35dd918e2bf0cec644def595071c1a4"), looks := false }, kinds := [], alts := [], laidByText := true, laidKinds := [.data, .data, .data], laidTests := true, laidLooks := .later }
def TreeMatchesCardSaid : Prop := Claim7.holds Tryd.pinned (.plain (OpenSpec.ofChange treeMatchesSpec)) treeMatchesCard

/-- THE TIED CARD OF 'boulterlaw18.TreeFull'. -/
def treeFullCard : Claim7 := { stood := { row := treeFullRow, standIns := [], harness := (true, "c55a6d93147a8548aa4571c27d4635d0f35dd918e2bf0cec644def595071c1a4"), looks := false }, kinds := [], alts := [], laidByText := true, laidKinds := [.data, .data, .data], laidTests := true, laidLooks := .later }
def TreeFullCardSaid : Prop := Claim7.holds Tryd.pinned (.plain (OpenSpec.ofChange treeFullSpec)) treeFullCard

/-- THE TIED CARD OF 'boulterlaw18.TreeFolds'. -/
def treeFoldsCard : Claim7 := { stood := { row := treeFoldsRow, standIns := [], harness := (true, "c55a6d93147a8548aa4571c27d4635d0f35dd918e2bf0cec644def595071c1a4"), looks := false }, kinds := [], alts := [], laidByText := true, laidKinds := [.data, .data, .data], laidTests := true, laidLooks := .later }
def TreeFoldsCardSaid : Prop := Claim7.holds Tryd.pinned (.plain (OpenSpec.ofChange treeFoldsSpec)) treeFoldsCard

/-- THE SECOND FORM's CARD OF 'boulterlaw18.TreeAdds'. -/
def treeAddsUptoCard : Claim7 := { stood := { row := treeAddsUptoRow, standIns := [], harness := (true, "c55a6d93147a8548aa4571c27d4635d0f35dd918e2bf0cec644def595071c1a4"), looks := false }, kinds := [], alts := [], laidByText := true, laidKinds := [.data, .data, .data], laidTests := true, laidLooks := .later }
def TreeAddsUptoCardSaid : Prop := Claim7.holds Tryd.pinned (.plain (OpenSpec.upto treeAddsSpec)) treeAddsUptoCard

/-- THE SECOND FORM's CARD OF 'boulterlaw18.TreeMatches'. -/
def treeMatchesUptoCard : Claim7 := { stood := { row := treeMatchesUptoRow, standIns := [], harness := (true, "c55a6d93147a8548aa4571c27d4635d0f35dd918e2bf0cec644def595071c1a4"), looks := false }, kinds := [], alts := [], laidByText := true, laidKinds := [.data, .data, .data], laidTests := true, laidLooks := .later }
def TreeMatchesUptoCardSaid : Prop := Claim7.holds Tryd.pinned (.plain (OpenSpec.upto treeMatchesSpec)) treeMatchesUptoCard

/-- THE SECOND FORM's CARD OF 'boulterlaw18.TreeFull'. -/
def treeFullUptoCard : Claim7 := { stood := { row := treeFullUptoRow, standIns := [], harness := (true, "c55a6d93147a8548aa4571c27d4635d0f35dd918e2bf0cec644def595071c1a4"), looks := false }, kinds := [], alts := [], laidByText := true, laidKinds := [.data, .data, .data], laidTests := true, laidLooks := .later }
def TreeFullUptoCardSaid : Prop := Claim7.holds Tryd.pinned (.plain (OpenSpec.upto treeFullSpec)) treeFullUptoCard

/-- THE SECOND FORM's CARD OF 'boulterlaw18.TreeFolds'. -/
def treeFoldsUptoCard : Claim7 := { stood := { row := treeFoldsUptoRow, standIns := [], harness := (true, "c55a6d93147a8548aa4571c27d4635d0f35dd918e2bf0cec644def595071c1a4"), looks := false }, kinds := [], alts := [], laidByText := true, laidKinds := [.data, .data, .data], laidTests := true, laidLooks := .later }
def TreeFoldsUptoCardSaid : Prop := Claim7.holds Tryd.pinned (.plain (OpenSpec.upto treeFoldsSpec)) treeFoldsUptoCard
end Rows
end Go.Proofs.YtmjljpnalhknfaaDoor
