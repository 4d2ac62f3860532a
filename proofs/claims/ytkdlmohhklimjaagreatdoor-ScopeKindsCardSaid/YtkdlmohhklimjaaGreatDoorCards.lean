/-
  DERIVED. GIVEN WITH THE SEED: THE CARDS: each row of YtkdlmohhklimjaaGreatDoorRows.lean that lists a variable, with what it lists TIED to the program's text (the seventh form; the later family's looks); each row that meets fmt, with fmt's text TOLD by the authors' own Lean function (tested against real Go, not proved from fmt's source: count such statements apart). THE CARD IS WHAT COUNTS. Prove the row's statement (the work); the ties are given (YtkdlmohhklimjaaGreatDoorTie.lean); close each card by the builder's one call (the guide's Derived/Test/ToyasCard.lean, 'card_holds'). Laid BY PROGRAM, IN A SANDBOX (cutbox-door.mjs). By AI agents, Wed Nov 11 2026. No macro, syntax, notation, axiom, sorry.
-/
import Derived.Test.YtkdlmohhklimjaaGreatDoorRows
import GoSem.ClaimSeven
namespace Go.Proofs.YtkdlmohhklimjaaGreatDoor
namespace Rows

/-- THE TIED CARD OF 'boulterlaw24.RewriteParses'. -/
def rewriteParsesCard : Claim7 := { stood := { row := rewriteParsesRow, standIns := [], harness := (true, "34e652381d5aae6ddedaa49a250d6f45bcb719657300e67a17f6659da5bddfce"), looks := true }, kinds := [], alts := [], laidByText := true, laidKinds := [.data, .data, .data, .sentinel, .sentinel], laidTests := true, laidLooks := .later }
def RewriteParsesCardSaid : Prop := Claim7.holds Tryz.pinned (.plain (OpenSpec.ofChange rewriteParsesSpec)) rewriteParsesCard

/-- THE TIED CARD OF 'boulterlaw24.RewriteList'. -/
def rewriteListCard : Claim7 := { stood := { row := rewriteListRow, standIns := [], harness := (true, "34e652381d5aae6ddedaa49a250d6f45bcb719657300e67a17f6659da5bddfce"), looks := true }, kinds := [], alts := [], laidByText := true, laidKinds := [.data, .data, .data, .sentinel, .sentinel], laidTests := true, laidLooks := .later }
def RewriteListCardSaid : Prop := Claim7.holds Tryz.pinned (.plain (OpenSpec.ofChange rewriteListSpec)) rewriteListCard

/-- THE TIED CARD OF 'boulterlaw25.ScopeKinds'. -/
def scopeKindsCard : Claim7 := { stood := { row := scopeKindsRow, standIns := [], harness := (true, "34e652381d5aae6ddedaa49a250d6f45bcb719657300e67a17f6659da5bddfce"), looks := true }, kinds := [], alts := [], laidByText := true, laidKinds := [.data, .data, .data, .sentinel, .sentinel], laidTests := true, laidLooks := .later }
def ScopeKindsCardSaid : Prop := Claim7.holds Tryz.pinned (.plain (OpenSpec.ofChange scopeKindsSpec)) scopeKindsCard

/-- THE TIED CARD OF 'boulterlaw32.OptionLimits'. -/
def optionLimitsCard : Claim7 := { stood := { row := optionLimitsRow, standIns := [], harness := (true, "34e652381d5aae6ddedaa49a250d6f45bcb719657300e67a17f6659da5bddfce"), looks := true }, kinds := [], alts := [], laidByText := true, laidKinds := [.data, .data, .data, .sentinel, .sentinel], laidTests := true, laidLooks := .later }
def OptionLimitsCardSaid : Prop := Claim7.holds Tryz.pinned (.plain (OpenSpec.ofChange optionLimitsSpec)) optionLimitsCard

/-- THE TIED CARD OF 'boulterlaw32.OptionDefault'. -/
def optionDefaultCard : Claim7 := { stood := { row := optionDefaultRow, standIns := [], harness := (true, "34e652381d5aae6ddedaa49a250d6f45bcb719657300e67a17f6659da5bddfce"), looks := true }, kinds := [], alts := [], laidByText := true, laidKinds := [.data, .data, .data, .sentinel, .sentinel], laidTests := true, laidLooks := .later }
def OptionDefaultCardSaid : Prop := Claim7.holds Tryz.pinned (.plain (OpenSpec.ofChange optionDefaultSpec)) optionDefaultCard

/-- THE SECOND FORM's CARD OF 'boulterlaw24.RewriteParses'. -/
def rewriteParsesUptoCard : Claim7 := { stood := { row := rewriteParsesUptoRow, standIns := [], harness := (true, "34e652381d5aae6ddedaa49a250d6f45bcb719657300e67a17f6659da5bddfce"), looks := true }, kinds := [], alts := [], laidByText := true, laidKinds := [.data, .data, .data, .sentinel, .sentinel], laidTests := true, laidLooks := .later }
def RewriteParsesUptoCardSaid : Prop := Claim7.holds Tryz.pinned (.plain (OpenSpec.upto rewriteParsesSpec)) rewriteParsesUptoCard

/-- THE SECOND FORM's CARD OF 'boulterlaw24.RewriteList'. -/
def rewriteListUptoCard : Claim7 := { stood := { row := rewriteListUptoRow, standIns := [], harness := (true, "34e652381d5aae6ddedaa49a250d6f45bcb719657300e67a17f6659da5bddfce"), looks := true }, kinds := [], alts := [], laidByText := true, laidKinds := [.data, .data, .data, .sentinel, .sentinel], laidTests := true, laidLooks := .later }
def RewriteListUptoCardSaid : Prop := Claim7.holds Tryz.pinned (.plain (OpenSpec.upto rewriteListSpec)) rewriteListUptoCard

/-- THE SECOND FORM's CARD OF 'boulterlaw25.ScopeKinds'. -/
def scopeKindsUptoCard : Claim7 := { stood := { row := scopeKindsUptoRow, standIns := [], harness := (true, "34e652381d5aae6ddedaa49a250d6f45bcb719657300e67a17f6659da5bddfce"), looks := true }, kinds := [], alts := [], laidByText := true, laidKinds := [.data, .data, .data, .sentinel, .sentinel], laidTests := true, laidLooks := .later }
def ScopeKindsUptoCardSaid : Prop := Claim7.holds Tryz.pinned (.plain (OpenSpec.upto scopeKindsSpec)) scopeKindsUptoCard

/-- THE SECOND FORM's CARD OF 'boulterlaw32.OptionLimits'. -/
def optionLimitsUptoCard : Claim7 := { stood := { row := optionLimitsUptoRow, standIns := [], harness := (true, "34e652381d5aae6ddedaa49a250d6f45bcb719657300e67a17f6659da5bddfce"), looks := true }, kinds := [], alts := [], laidByText := true, laidKinds := [.data, .data, .data, .sentinel, .sentinel], laidTests := true, laidLooks := .later }
def OptionLimitsUptoCardSaid : Prop := Claim7.holds Tryz.pinned (.plain (OpenSpec.upto optionLimitsSpec)) optionLimitsUptoCard

/-- THE SECOND FORM's CARD OF 'boulterlaw32.OptionDefault'. -/
def optionDefaultUptoCard : Claim7 := { stood := { row := optionDefaultUptoRow, standIns := [], harness := (true, "34e652381d5aae6ddedaa49a250d6f45bcb719657300e67a17f6659da5bddfce"), looks := true }, kinds := [], alts := [], laidByText := true, laidKinds := [.data, .data, .data, .sentinel, .sentinel], laidTests := true, laidLooks := .later }
def OptionDefaultUptoCardSaid : Prop := Claim7.holds Tryz.pinned (.plain (OpenSpec.upto optionDefaultSpec)) optionDefaultUptoCard
end Rows
end Go.Proofs.YtkdlmohhklimjaaGreatDoor
