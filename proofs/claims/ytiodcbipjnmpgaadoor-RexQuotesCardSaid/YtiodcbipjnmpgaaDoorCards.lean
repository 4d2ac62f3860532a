/-
  DERIVED. GIVEN WITH THE SEED: THE CARDS: each row of YtiodcbipjnmpgaaDoorRows.lean that lists a variable, with what it lists TIED to the program's text (the seventh form; the later family's looks); each row that meets fmt, with fmt's text TOLD by the authors' own Lean function (tested against real Go, not proved from fmt's source: count such statements apart). THE CARD IS WHAT COUNTS. Prove the row's statement (the work); the ties are given (YtiodcbipjnmpgaaDoorTie.lean); close each card by the builder's one call (the guide's Derived/Test/ToyasCard.lean, 'card_holds'). Laid BY PROGRAM, IN A SANDBOX (cutbox-door.mjs). By AI agents, Wed Nov 11 2026. No macro, syntax, notation, axiom, sorry.
-/
import Derived.Test.YtiodcbipjnmpgaaDoorRows
import GoSem.ClaimSeven
namespace Go.Proofs.YtiodcbipjnmpgaaDoor
namespace Rows

/-- THE TIED CARD OF 'boulterlaw19.RexFull'. -/
def rexFullCard : Claim7 := { stood := { row := rexFullRow, standIns := [], harness := (true, "4844b9cd9340e5dc52902f8b0f5e8cbf60f825f7853bb541fb5d7e470fc0535e"), looks := false }, kinds := [], alts := [], laidByText := true, laidKinds := [.data, .data, .data], laidTests := true, laidLooks := .later }
def RexFullCardSaid : Prop := Claim7.holds Tryd.pinned (.plain (OpenSpec.ofChange rexFullSpec)) rexFullCard

/-- THE TIED CARD OF 'boulterlaw19.RexGroups'. -/
def rexGroupsCard : Claim7 := { stood := { row := rexGroupsRow, standIns := [], harness := (true, "4844b9cd9340e5dc52902f8b0f5e8cbf60f825f7853bb541fb5d7e470fc0535e"), looks := false }, kinds := [], alts := [], laidByText := true, laidKinds := [.data, .data, .data], laidTests := true, laidLooks := .later }
def RexGroupsCardSaid : Prop := Claim7.holds Tryd.pinned (.plain (OpenSpec.ofChange rexGroupsSpec)) rexGroupsCard

/-- THE TIED CARD OF 'boulterlaw19.RexQuotes'. -/
def rexQuotesCard : Claim7 := { stood := { row := rexQuotesRow, standIns := [], harness := (true, "4844b9cd9340e5dc52902f8b0f5e8cbf60f825f7853bb541fb5d7e470fc0535e"), looks := false }, kinds := [], alts := [], laidByText := true, laidKinds := [.data, .data, .data], laidTests := true, laidLooks := .later }
def RexQuotesCardSaid : Prop := Claim7.holds Tryd.pinned (.plain (OpenSpec.ofChange rexQuotesSpec)) rexQuotesCard

/-- THE SECOND FORM's CARD OF 'boulterlaw19.RexFull'. -/
def rexFullUptoCard : Claim7 := { stood := { row := rexFullUptoRow, standIns := [], harness := (true, "4844b9cd9340e5dc52902f8b0f5e8cbf60f825f7853bb541fb5d7e470fc0535e"), looks := false }, kinds := [], alts := [], laidByText := true, laidKinds := [.data, .data, .data], laidTests := true, laidLooks := .later }
def RexFullUptoCardSaid : Prop := Claim7.holds Tryd.pinned (.plain (OpenSpec.upto rexFullSpec)) rexFullUptoCard

/-- THE SECOND FORM's CARD OF 'boulterlaw19.RexGroups'. -/
def rexGroupsUptoCard : Claim7 := { stood := { row := rexGroupsUptoRow, standIns := [], harness := (true, "4844b9cd9340e5dc52902f8b0f5e8cbf60f825f7853bb541fb5d7e470fc0535e"), looks := false }, kinds := [], alts := [], laidByText := true, laidKinds := [.data, .data, .data], laidTests := true, laidLooks := .later }
def RexGroupsUptoCardSaid : Prop := Claim7.holds Tryd.pinned (.plain (OpenSpec.upto rexGroupsSpec)) rexGroupsUptoCard

/-- THE SECOND FORM's CARD OF 'boulterlaw19.RexQuotes'. -/
def rexQuotesUptoCard : Claim7 := { stood := { row := rexQuotesUptoRow, standIns := [], harness := (true, "4844b9cd9340e5dc52902f8b0f5e8cbf60f825f7853bb541fb5d7e470fc0535e"), looks := false }, kinds := [], alts := [], laidByText := true, laidKinds := [.data, .data, .data], laidTests := true, laidLooks := .later }
def RexQuotesUptoCardSaid : Prop := Claim7.holds Tryd.pinned (.plain (OpenSpec.upto rexQuotesSpec)) rexQuotesUptoCard
end Rows
end Go.Proofs.YtiodcbipjnmpgaaDoor
