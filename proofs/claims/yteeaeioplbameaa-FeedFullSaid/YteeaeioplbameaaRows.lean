/-
  No cell of these rows narrows 'for every input' (looked for: loops, veiled, ifaces, maps, wideKeys, modest, calm, conditions, laid).
  DERIVED. THE GIVEN ROWS OF THIS SEAT. 3 by the template 'for every input the law returns true; each argument reads behind the call as it read before'; 0 by the template 'total and deterministic' (their statements: YteeaeioplbameaaTotals.lean).
  GIVEN WITH THE SEED: the statements are not yours to turn. If you find one false, say at which input.
  Laid BY PROGRAM, IN A SANDBOX (cutbox-rows.mjs): the forced cells as the released guide's own fill.sh prints them over the translation 0387e260796adf4e… (all of the seat's roots in one cut). By AI agents, Wed Nov 11 2026. No macro, syntax, notation, axiom, sorry.
-/
import Derived.Test.YteeaeioplbameaaChecked
import GoSem.Claim
import GoSem.ClaimJoined
import GoSem.ClaimMapViews
import Derived.JoinedTies
import Derived.KernelRfl
namespace Go.Proofs.Yteeaeioplbameaa
/- THE CELL 'sum', in the pinned program and in every row, IS THE sha256 OF THE DUMP (.gsa) THAT YteeaeioplbameaaProg.lean LOADS. Nothing in Lean hashes anything: it is a label: what it is worth is what the hold of that sum in a sandbox is worth. -/
noncomputable def Try.pinned : Pinned := { name := "yteeaeioplbameaa", sum := "0387e260796adf4eefcf90701ef1ec61396b5b395a9b4077a264f5b86d8a7200", checked := Try.checked }
namespace Rows
def none {H : Type} : Left H := { results := [], args := [] }

/-- 'boulterlaw08.FeedSame': WHATEVER THE INPUT: true; the input reads as it did. -/
def feedSameSpec : ChangeSpec := { name := "feedSame", fn := fun _ => fun
  | [d1, d2, d3] => { results := [.lit (.bool true)], args := [d1, d2, d3] }
  | _ => none }
def feedSameRow : OpenClaim := { program := "yteeaeioplbameaa", sum := "0387e260796adf4eefcf90701ef1ec61396b5b395a9b4077a264f5b86d8a7200", func := "boulter/boulterlaw08.FeedSame", spec := "feedSame", apart := false }
def FeedSameSaid : Prop := feedSameRow.holds Try.pinned (OpenSpec.ofChange feedSameSpec)

/-- ITS FALSE NEIGHBOUR: 'it returns false'. Refute it at one input. -/
def feedSameWrong : ChangeSpec := { name := "feedSame", fn := fun _ => fun
  | [d1, d2, d3] => { results := [.lit (.bool false)], args := [d1, d2, d3] }
  | _ => none }
def FeedSameWrongFalsely : Prop := feedSameRow.holds Try.pinned (OpenSpec.ofChange feedSameWrong)

/-- 'boulterlaw08.FeedFull': WHATEVER THE INPUT: true; the input reads as it did. -/
def feedFullSpec : ChangeSpec := { name := "feedFull", fn := fun _ => fun
  | [d1, d2] => { results := [.lit (.bool true)], args := [d1, d2] }
  | _ => none }
def feedFullRow : OpenClaim := { program := "yteeaeioplbameaa", sum := "0387e260796adf4eefcf90701ef1ec61396b5b395a9b4077a264f5b86d8a7200", func := "boulter/boulterlaw08.FeedFull", spec := "feedFull", apart := false }
def FeedFullSaid : Prop := feedFullRow.holds Try.pinned (OpenSpec.ofChange feedFullSpec)

/-- ITS FALSE NEIGHBOUR: 'it returns false'. Refute it at one input. -/
def feedFullWrong : ChangeSpec := { name := "feedFull", fn := fun _ => fun
  | [d1, d2] => { results := [.lit (.bool false)], args := [d1, d2] }
  | _ => none }
def FeedFullWrongFalsely : Prop := feedFullRow.holds Try.pinned (OpenSpec.ofChange feedFullWrong)

/-- 'boulterlaw08.FeedPlays': WHATEVER THE INPUT: true; the input reads as it did. -/
def feedPlaysSpec : ChangeSpec := { name := "feedPlays", fn := fun _ => fun
  | [d] => { results := [.lit (.bool true)], args := [d] }
  | _ => none }
def feedPlaysRow : OpenClaim := { program := "yteeaeioplbameaa", sum := "0387e260796adf4eefcf90701ef1ec61396b5b395a9b4077a264f5b86d8a7200", func := "boulter/boulterlaw08.FeedPlays", spec := "feedPlays", apart := false }
def FeedPlaysSaid : Prop := feedPlaysRow.holds Try.pinned (OpenSpec.ofChange feedPlaysSpec)

/-- ITS FALSE NEIGHBOUR: 'it returns false'. Refute it at one input. -/
def feedPlaysWrong : ChangeSpec := { name := "feedPlays", fn := fun _ => fun
  | [d] => { results := [.lit (.bool false)], args := [d] }
  | _ => none }
def FeedPlaysWrongFalsely : Prop := feedPlaysRow.holds Try.pinned (OpenSpec.ofChange feedPlaysWrong)

/- THE SECOND FORM. 'bulk': how many values and letters a reading holds, each counted each time it is reached (what is shared counts as often as it is met; a slice's spare places count too). A statement '..UptoSaid' is the law's where the arguments, and the package variables that the reading takes, are together of bulk at most 1048576: NARROWER than '..Said'. Prove '..Said' where nothing that the law and all that it calls make is longer than what came in: it says more and counts as full. Else prove '..UptoSaid'. A law counts once. -/
mutual
def uptoBulk {H : Type} : DataW H → Nat
  | .lit (.string bytes) => bytes.length + 1
  | .lit _ => 1
  | .nil => 1
  | .ptr d => uptoBulk d + 1
  | .slice elems spare => uptoBulkAll elems + uptoBulkAll spare + 1
  | .agg parts => uptoBulkAll parts + 1
  | .iface _ d => uptoBulk d + 1
  | .map entries => uptoBulkEntries entries + 1
  | .held _ => 1
def uptoBulkAll {H : Type} : List (DataW H) → Nat
  | [] => 0
  | d :: r => uptoBulk d + uptoBulkAll r
def uptoBulkEntries {H : Type} : List (Lit × DataW H) → Nat
  | [] => 0
  | x :: r => uptoBulkEntry x + uptoBulkEntries r
def uptoBulkEntry {H : Type} : Lit × DataW H → Nat
  | (.string bytes, d) => bytes.length + uptoBulk d + 1
  | (_, d) => uptoBulk d + 1
 end
def uptoSmall : (H : Type) → List (DataW H) → Bool := fun _ ds => decide (uptoBulkAll ds ≤ 1048576)
def OpenSpec.upto (s : _root_.Go.ChangeSpec) : _root_.Go.OpenSpec := { _root_.Go.OpenSpec.ofChange s with cond := some uptoSmall }

/-- 'boulterlaw08.FeedSame', WHERE WHAT IT READS IS OF BULK AT MOST 1048576: true; the input reads as it did. -/
def feedSameUptoRow : OpenClaim := { program := "yteeaeioplbameaa", sum := "0387e260796adf4eefcf90701ef1ec61396b5b395a9b4077a264f5b86d8a7200", func := "boulter/boulterlaw08.FeedSame", spec := "feedSame", apart := false, narrowed := true }
def FeedSameUptoSaid : Prop := feedSameUptoRow.holds Try.pinned (OpenSpec.upto feedSameSpec)

/-- 'boulterlaw08.FeedFull', WHERE WHAT IT READS IS OF BULK AT MOST 1048576: true; the input reads as it did. -/
def feedFullUptoRow : OpenClaim := { program := "yteeaeioplbameaa", sum := "0387e260796adf4eefcf90701ef1ec61396b5b395a9b4077a264f5b86d8a7200", func := "boulter/boulterlaw08.FeedFull", spec := "feedFull", apart := false, narrowed := true }
def FeedFullUptoSaid : Prop := feedFullUptoRow.holds Try.pinned (OpenSpec.upto feedFullSpec)

/-- 'boulterlaw08.FeedPlays', WHERE WHAT IT READS IS OF BULK AT MOST 1048576: true; the input reads as it did. -/
def feedPlaysUptoRow : OpenClaim := { program := "yteeaeioplbameaa", sum := "0387e260796adf4eefcf90701ef1ec61396b5b395a9b4077a264f5b86d8a7200", func := "boulter/boulterlaw08.FeedPlays", spec := "feedPlays", apart := false, narrowed := true }
def FeedPlaysUptoSaid : Prop := feedPlaysUptoRow.holds Try.pinned (OpenSpec.upto feedPlaysSpec)

end Rows
end Go.Proofs.Yteeaeioplbameaa
