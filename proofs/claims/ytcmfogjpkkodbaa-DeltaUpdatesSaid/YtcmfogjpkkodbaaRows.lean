/-
  No cell of these rows narrows 'for every input' (looked for: loops, veiled, ifaces, maps, wideKeys, modest, calm, conditions, laid).
  DERIVED. THE GIVEN ROWS OF THIS SEAT. 6 by the template 'for every input the law returns true; each argument reads behind the call as it read before'; 0 by the template 'total and deterministic' (their statements: YtcmfogjpkkodbaaTotals.lean).
  GIVEN WITH THE SEED: the statements are not yours to turn. If you find one false, say at which input.
  Laid BY PROGRAM, IN A SANDBOX (cutbox-rows.mjs): the forced cells as the released guide's own fill.sh prints them over the translation bf3165bc236a5804… (all of the seat's roots in one cut). By AI agents, Wed Nov 11 2026. No macro, syntax, notation, axiom, sorry.
-/
import Derived.Test.YtcmfogjpkkodbaaChecked
import GoSem.Claim
import GoSem.ClaimJoined
import GoSem.ClaimMapViews
import Derived.JoinedTies
import Derived.KernelRfl
namespace Go.Proofs.Ytcmfogjpkkodbaa
/- THE CELL 'sum', in the pinned program and in every row, IS THE sha256 OF THE DUMP (.gsa) THAT YtcmfogjpkkodbaaProg.lean LOADS. Nothing in Lean hashes anything: it is a label: what it is worth is what the hold of that sum in a sandbox is worth. -/
noncomputable def Try.pinned : Pinned := { name := "ytcmfogjpkkodbaa", sum := "bf3165bc236a5804914d0d5727e79f1381ec655fac5d73179573d0095994a054", checked := Try.checked }
namespace Rows
def none {H : Type} : Left H := { results := [], args := [] }

/-- 'boulterlaw31.ExfileCuts': WHATEVER THE INPUT: true; the input reads as it did. -/
def exfileCutsSpec : ChangeSpec := { name := "exfileCuts", fn := fun _ => fun
  | [d1, d2] => { results := [.lit (.bool true)], args := [d1, d2] }
  | _ => none }
def exfileCutsRow : OpenClaim := { program := "ytcmfogjpkkodbaa", sum := "bf3165bc236a5804914d0d5727e79f1381ec655fac5d73179573d0095994a054", func := "boulter/boulterlaw31.ExfileCuts", spec := "exfileCuts", inPlace := ["internal/bytealg.IndexByteString"], unfollowed := true, recurses := true, apart := false }
def ExfileCutsSaid : Prop := exfileCutsRow.holds Try.pinned (OpenSpec.ofChange exfileCutsSpec)

/-- ITS FALSE NEIGHBOUR: 'it returns false'. Refute it at one input. -/
def exfileCutsWrong : ChangeSpec := { name := "exfileCuts", fn := fun _ => fun
  | [d1, d2] => { results := [.lit (.bool false)], args := [d1, d2] }
  | _ => none }
def ExfileCutsWrongFalsely : Prop := exfileCutsRow.holds Try.pinned (OpenSpec.ofChange exfileCutsWrong)

/-- 'boulterlaw31.ExfileTexts': WHATEVER THE INPUT: true; the input reads as it did. -/
def exfileTextsSpec : ChangeSpec := { name := "exfileTexts", fn := fun _ => fun
  | [d] => { results := [.lit (.bool true)], args := [d] }
  | _ => none }
def exfileTextsRow : OpenClaim := { program := "ytcmfogjpkkodbaa", sum := "bf3165bc236a5804914d0d5727e79f1381ec655fac5d73179573d0095994a054", func := "boulter/boulterlaw31.ExfileTexts", spec := "exfileTexts", inPlace := ["internal/bytealg.IndexByteString", "internal/bytealg.IndexString"], unfollowed := true, recurses := true, named := ["internal/bytealg.MaxLen"], apart := false }
def ExfileTextsSaid : Prop := exfileTextsRow.holds Try.pinned (OpenSpec.ofChange exfileTextsSpec)

/-- ITS FALSE NEIGHBOUR: 'it returns false'. Refute it at one input. -/
def exfileTextsWrong : ChangeSpec := { name := "exfileTexts", fn := fun _ => fun
  | [d] => { results := [.lit (.bool false)], args := [d] }
  | _ => none }
def ExfileTextsWrongFalsely : Prop := exfileTextsRow.holds Try.pinned (OpenSpec.ofChange exfileTextsWrong)

/-- 'boulterlaw38.DeltaUpdates': WHATEVER THE INPUT: true; the input reads as it did. -/
def deltaUpdatesSpec : ChangeSpec := { name := "deltaUpdates", fn := fun _ => fun
  | [d1, d2] => { results := [.lit (.bool true)], args := [d1, d2] }
  | _ => none }
def deltaUpdatesRow : OpenClaim := { program := "ytcmfogjpkkodbaa", sum := "bf3165bc236a5804914d0d5727e79f1381ec655fac5d73179573d0095994a054", func := "boulter/boulterlaw38.DeltaUpdates", spec := "deltaUpdates", unfollowed := true, recurses := true, apart := false }
def DeltaUpdatesSaid : Prop := deltaUpdatesRow.holds Try.pinned (OpenSpec.ofChange deltaUpdatesSpec)

/-- ITS FALSE NEIGHBOUR: 'it returns false'. Refute it at one input. -/
def deltaUpdatesWrong : ChangeSpec := { name := "deltaUpdates", fn := fun _ => fun
  | [d1, d2] => { results := [.lit (.bool false)], args := [d1, d2] }
  | _ => none }
def DeltaUpdatesWrongFalsely : Prop := deltaUpdatesRow.holds Try.pinned (OpenSpec.ofChange deltaUpdatesWrong)

/-- 'boulterlaw38.DeltaTells': WHATEVER THE INPUT: true; the input reads as it did. -/
def deltaTellsSpec : ChangeSpec := { name := "deltaTells", fn := fun _ => fun
  | [d1, d2] => { results := [.lit (.bool true)], args := [d1, d2] }
  | _ => none }
def deltaTellsRow : OpenClaim := { program := "ytcmfogjpkkodbaa", sum := "bf3165bc236a5804914d0d5727e79f1381ec655fac5d73179573d0095994a054", func := "boulter/boulterlaw38.DeltaTells", spec := "deltaTells", inPlace := ["internal/bytealg.abigen_runtime_cmpstring"], unfollowed := true, recurses := true, apart := false }
def DeltaTellsSaid : Prop := deltaTellsRow.holds Try.pinned (OpenSpec.ofChange deltaTellsSpec)

/-- ITS FALSE NEIGHBOUR: 'it returns false'. Refute it at one input. -/
def deltaTellsWrong : ChangeSpec := { name := "deltaTells", fn := fun _ => fun
  | [d1, d2] => { results := [.lit (.bool false)], args := [d1, d2] }
  | _ => none }
def DeltaTellsWrongFalsely : Prop := deltaTellsRow.holds Try.pinned (OpenSpec.ofChange deltaTellsWrong)

/-- 'boulterlaw38.DeltaApplies': WHATEVER THE INPUT: true; the input reads as it did. -/
def deltaAppliesSpec : ChangeSpec := { name := "deltaApplies", fn := fun _ => fun
  | [d1, d2, d3] => { results := [.lit (.bool true)], args := [d1, d2, d3] }
  | _ => none }
def deltaAppliesRow : OpenClaim := { program := "ytcmfogjpkkodbaa", sum := "bf3165bc236a5804914d0d5727e79f1381ec655fac5d73179573d0095994a054", func := "boulter/boulterlaw38.DeltaApplies", spec := "deltaApplies", inPlace := ["internal/bytealg.abigen_runtime_cmpstring"], unfollowed := true, recurses := true, apart := false }
def DeltaAppliesSaid : Prop := deltaAppliesRow.holds Try.pinned (OpenSpec.ofChange deltaAppliesSpec)

/-- ITS FALSE NEIGHBOUR: 'it returns false'. Refute it at one input. -/
def deltaAppliesWrong : ChangeSpec := { name := "deltaApplies", fn := fun _ => fun
  | [d1, d2, d3] => { results := [.lit (.bool false)], args := [d1, d2, d3] }
  | _ => none }
def DeltaAppliesWrongFalsely : Prop := deltaAppliesRow.holds Try.pinned (OpenSpec.ofChange deltaAppliesWrong)

/-- 'boulterlaw38.DeltaLists': WHATEVER THE INPUT: true; the input reads as it did. -/
def deltaListsSpec : ChangeSpec := { name := "deltaLists", fn := fun _ => fun
  | [d1, d2] => { results := [.lit (.bool true)], args := [d1, d2] }
  | _ => none }
def deltaListsRow : OpenClaim := { program := "ytcmfogjpkkodbaa", sum := "bf3165bc236a5804914d0d5727e79f1381ec655fac5d73179573d0095994a054", func := "boulter/boulterlaw38.DeltaLists", spec := "deltaLists", inPlace := ["internal/bytealg.abigen_runtime_cmpstring"], unfollowed := true, recurses := true, apart := false }
def DeltaListsSaid : Prop := deltaListsRow.holds Try.pinned (OpenSpec.ofChange deltaListsSpec)

/-- ITS FALSE NEIGHBOUR: 'it returns false'. Refute it at one input. -/
def deltaListsWrong : ChangeSpec := { name := "deltaLists", fn := fun _ => fun
  | [d1, d2] => { results := [.lit (.bool false)], args := [d1, d2] }
  | _ => none }
def DeltaListsWrongFalsely : Prop := deltaListsRow.holds Try.pinned (OpenSpec.ofChange deltaListsWrong)

/- THE SECOND FORM. 'bulk': how many values and letters a reading holds, each counted each time it is reached (what is shared counts as often as it is met; a slice's spare places count too). A statement '..UptoSaid' is the law's where the arguments, and the package variables that the reading takes, are together of bulk at most 1048576: NARROWER than '..Said'. Prove '..Said' where nothing that the law and all that it calls make is longer than what came in: it says more and counts as full. Else prove '..UptoSaid'. A law counts once. -/
mutual
def uptoBulk {H : Type} : DataW H → Nat
  | .lit (.string bytes) => bytes.length + 1
  | .lit _ => 1
  | .nil => 1
  | .ptr d => uptoBulk d + 1
  | .slice elems spare => uptoBulkAll elems + uptoBulkAll spare + 1
  | .agg parts => uptoBulkAll parts + 1
  | .iface _ d => uptoBulk d + 1
  | .map entries => uptoBulkEntries entries + 1
  | .held _ => 1
def uptoBulkAll {H : Type} : List (DataW H) → Nat
  | [] => 0
  | d :: r => uptoBulk d + uptoBulkAll r
def uptoBulkEntries {H : Type} : List (Lit × DataW H) → Nat
  | [] => 0
  | x :: r => uptoBulkEntry x + uptoBulkEntries r
def uptoBulkEntry {H : Type} : Lit × DataW H → Nat
  | (.string bytes, d) => bytes.length + uptoBulk d + 1
  | (_, d) => uptoBulk d + 1
 end
def uptoSmall : (H : Type) → List (DataW H) → Bool := fun _ ds => decide (uptoBulkAll ds ≤ 1048576)
def OpenSpec.upto (s : _root_.Go.ChangeSpec) : _root_.Go.OpenSpec := { _root_.Go.OpenSpec.ofChange s with cond := some uptoSmall }

/-- 'boulterlaw31.ExfileCuts', WHERE WHAT IT READS IS OF BULK AT MOST 1048576: true; the input reads as it did. -/
def exfileCutsUptoRow : OpenClaim := { program := "ytcmfogjpkkodbaa", sum := "bf3165bc236a5804914d0d5727e79f1381ec655fac5d73179573d0095994a054", func := "boulter/boulterlaw31.ExfileCuts", spec := "exfileCuts", inPlace := ["internal/bytealg.IndexByteString"], unfollowed := true, recurses := true, apart := false, narrowed := true }
def ExfileCutsUptoSaid : Prop := exfileCutsUptoRow.holds Try.pinned (OpenSpec.upto exfileCutsSpec)

/-- 'boulterlaw31.ExfileTexts', WHERE WHAT IT READS IS OF BULK AT MOST 1048576: true; the input reads as it did. -/
def exfileTextsUptoRow : OpenClaim := { program := "ytcmfogjpkkodbaa", sum := "bf3165bc236a5804914d0d5727e79f1381ec655fac5d73179573d0095994a054", func := "boulter/boulterlaw31.ExfileTexts", spec := "exfileTexts", inPlace := ["internal/bytealg.IndexByteString", "internal/bytealg.IndexString"], unfollowed := true, recurses := true, named := ["internal/bytealg.MaxLen"], apart := false, narrowed := true }
def ExfileTextsUptoSaid : Prop := exfileTextsUptoRow.holds Try.pinned (OpenSpec.upto exfileTextsSpec)

/-- 'boulterlaw38.DeltaUpdates', WHERE WHAT IT READS IS OF BULK AT MOST 1048576: true; the input reads as it did. -/
def deltaUpdatesUptoRow : OpenClaim := { program := "ytcmfogjpkkodbaa", sum := "bf3165bc236a5804914d0d5727e79f1381ec655fac5d73179573d0095994a054", func := "boulter/boulterlaw38.DeltaUpdates", spec := "deltaUpdates", unfollowed := true, recurses := true, apart := false, narrowed := true }
def DeltaUpdatesUptoSaid : Prop := deltaUpdatesUptoRow.holds Try.pinned (OpenSpec.upto deltaUpdatesSpec)

/-- 'boulterlaw38.DeltaTells', WHERE WHAT IT READS IS OF BULK AT MOST 1048576: true; the input reads as it did. -/
def deltaTellsUptoRow : OpenClaim := { program := "ytcmfogjpkkodbaa", sum := "bf3165bc236a5804914d0d5727e79f1381ec655fac5d73179573d0095994a054", func := "boulter/boulterlaw38.DeltaTells", spec := "deltaTells", inPlace := ["internal/bytealg.abigen_runtime_cmpstring"], unfollowed := true, recurses := true, apart := false, narrowed := true }
def DeltaTellsUptoSaid : Prop := deltaTellsUptoRow.holds Try.pinned (OpenSpec.upto deltaTellsSpec)

/-- 'boulterlaw38.DeltaApplies', WHERE WHAT IT READS IS OF BULK AT MOST 1048576: true; the input reads as it did. -/
def deltaAppliesUptoRow : OpenClaim := { program := "ytcmfogjpkkodbaa", sum := "bf3165bc236a5804914d0d5727e79f1381ec655fac5d73179573d0095994a054", func := "boulter/boulterlaw38.DeltaApplies", spec := "deltaApplies", inPlace := ["internal/bytealg.abigen_runtime_cmpstring"], unfollowed := true, recurses := true, apart := false, narrowed := true }
def DeltaAppliesUptoSaid : Prop := deltaAppliesUptoRow.holds Try.pinned (OpenSpec.upto deltaAppliesSpec)

/-- 'boulterlaw38.DeltaLists', WHERE WHAT IT READS IS OF BULK AT MOST 1048576: true; the input reads as it did. -/
def deltaListsUptoRow : OpenClaim := { program := "ytcmfogjpkkodbaa", sum := "bf3165bc236a5804914d0d5727e79f1381ec655fac5d73179573d0095994a054", func := "boulter/boulterlaw38.DeltaLists", spec := "deltaLists", inPlace := ["internal/bytealg.abigen_runtime_cmpstring"], unfollowed := true, recurses := true, apart := false, narrowed := true }
def DeltaListsUptoSaid : Prop := deltaListsUptoRow.holds Try.pinned (OpenSpec.upto deltaListsSpec)

end Rows
end Go.Proofs.Ytcmfogjpkkodbaa
