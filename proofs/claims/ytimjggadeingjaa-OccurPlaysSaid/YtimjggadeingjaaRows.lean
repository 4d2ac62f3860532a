/-
  No cell of these rows narrows 'for every input' (looked for: loops, veiled, ifaces, maps, wideKeys, modest, calm, conditions, laid).
  DERIVED. THE GIVEN ROWS OF THIS SEAT. 3 by the template 'for every input the law returns true; each argument reads behind the call as it read before'; 0 by the template 'total and deterministic' (their statements: YtimjggadeingjaaTotals.lean).
  GIVEN WITH THE SEED: the statements are not yours to turn. If you find one false, say at which input.
  Laid BY PROGRAM, IN A SANDBOX (cutbox-rows.mjs): the forced cells as the released guide's own fill.sh prints them over the translation 51bc6512398dd3cd… (all of the seat's roots in one cut). By AI agents, Wed Nov 11 2026. No macro, syntax, notation, axiom, sorry.
-/
import Derived.Test.YtimjggadeingjaaChecked
import GoSem.Claim
import GoSem.ClaimJoined
import GoSem.ClaimMapViews
import Derived.JoinedTies
import Derived.KernelRfl
namespace Go.Proofs.Ytimjggadeingjaa
/- THE CELL 'sum', in the pinned program and in every row, IS THE sha256 OF THE DUMP (.gsa) THAT YtimjggadeingjaaProg.lean LOADS. Nothing in Lean hashes anything: it is a label: what it is worth is what the hold of that sum in a sandbox is worth. -/
noncomputable def Try.pinned : Pinned := { name := "ytimjggadeingjaa", sum := "51bc6512398dd3cdc3c25ff989f1e0c69730a252d8b54f33fa4cbd8310ccde72", checked := Try.checked }
namespace Rows
def none {H : Type} : Left H := { results := [], args := [] }

/-- 'boulterlaw30.OccurOnce': WHATEVER THE INPUT: true; the input reads as it did. -/
def occurOnceSpec : ChangeSpec := { name := "occurOnce", fn := fun _ => fun
  | [d1, d2] => { results := [.lit (.bool true)], args := [d1, d2] }
  | _ => none }
def occurOnceRow : OpenClaim := { program := "ytimjggadeingjaa", sum := "51bc6512398dd3cdc3c25ff989f1e0c69730a252d8b54f33fa4cbd8310ccde72", func := "boulter/boulterlaw30.OccurOnce", spec := "occurOnce", apart := false }
def OccurOnceSaid : Prop := occurOnceRow.holds Try.pinned (OpenSpec.ofChange occurOnceSpec)

/-- ITS FALSE NEIGHBOUR: 'it returns false'. Refute it at one input. -/
def occurOnceWrong : ChangeSpec := { name := "occurOnce", fn := fun _ => fun
  | [d1, d2] => { results := [.lit (.bool false)], args := [d1, d2] }
  | _ => none }
def OccurOnceWrongFalsely : Prop := occurOnceRow.holds Try.pinned (OpenSpec.ofChange occurOnceWrong)

/-- 'boulterlaw30.OccurAll': WHATEVER THE INPUT: true; the input reads as it did. -/
def occurAllSpec : ChangeSpec := { name := "occurAll", fn := fun _ => fun
  | [d1, d2] => { results := [.lit (.bool true)], args := [d1, d2] }
  | _ => none }
def occurAllRow : OpenClaim := { program := "ytimjggadeingjaa", sum := "51bc6512398dd3cdc3c25ff989f1e0c69730a252d8b54f33fa4cbd8310ccde72", func := "boulter/boulterlaw30.OccurAll", spec := "occurAll", apart := false }
def OccurAllSaid : Prop := occurAllRow.holds Try.pinned (OpenSpec.ofChange occurAllSpec)

/-- ITS FALSE NEIGHBOUR: 'it returns false'. Refute it at one input. -/
def occurAllWrong : ChangeSpec := { name := "occurAll", fn := fun _ => fun
  | [d1, d2] => { results := [.lit (.bool false)], args := [d1, d2] }
  | _ => none }
def OccurAllWrongFalsely : Prop := occurAllRow.holds Try.pinned (OpenSpec.ofChange occurAllWrong)

/-- 'boulterlaw30.OccurPlays': WHATEVER THE INPUT: true; the input reads as it did. -/
def occurPlaysSpec : ChangeSpec := { name := "occurPlays", fn := fun _ => fun
  | [d1, d2, d3] => { results := [.lit (.bool true)], args := [d1, d2, d3] }
  | _ => none }
def occurPlaysRow : OpenClaim := { program := "ytimjggadeingjaa", sum := "51bc6512398dd3cdc3c25ff989f1e0c69730a252d8b54f33fa4cbd8310ccde72", func := "boulter/boulterlaw30.OccurPlays", spec := "occurPlays", apart := false }
def OccurPlaysSaid : Prop := occurPlaysRow.holds Try.pinned (OpenSpec.ofChange occurPlaysSpec)

/-- ITS FALSE NEIGHBOUR: 'it returns false'. Refute it at one input. -/
def occurPlaysWrong : ChangeSpec := { name := "occurPlays", fn := fun _ => fun
  | [d1, d2, d3] => { results := [.lit (.bool false)], args := [d1, d2, d3] }
  | _ => none }
def OccurPlaysWrongFalsely : Prop := occurPlaysRow.holds Try.pinned (OpenSpec.ofChange occurPlaysWrong)

/- THE SECOND FORM. 'bulk': how many values and letters a reading holds, each counted each time it is reached (what is shared counts as often as it is met; a slice's spare places count too). A statement '..UptoSaid' is the law's where the arguments, and the package variables that the reading takes, are together of bulk at most 1048576: NARROWER than '..Said'. Prove '..Said' where nothing that the law and all that it calls make is longer than what came in: it says more and counts as full. Else prove '..UptoSaid'. A law counts once. -/
mutual
def uptoBulk {H : Type} : DataW H → Nat
  | .lit (.string bytes) => bytes.length + 1
  | .lit _ => 1
  | .nil => 1
  | .ptr d => uptoBulk d + 1
  | .slice elems spare => uptoBulkAll elems + uptoBulkAll spare + 1
  | .agg parts => uptoBulkAll parts + 1
  | .iface _ d => uptoBulk d + 1
  | .map entries => uptoBulkEntries entries + 1
  | .held _ => 1
def uptoBulkAll {H : Type} : List (DataW H) → Nat
  | [] => 0
  | d :: r => uptoBulk d + uptoBulkAll r
def uptoBulkEntries {H : Type} : List (Lit × DataW H) → Nat
  | [] => 0
  | x :: r => uptoBulkEntry x + uptoBulkEntries r
def uptoBulkEntry {H : Type} : Lit × DataW H → Nat
  | (.string bytes, d) => bytes.length + uptoBulk d + 1
  | (_, d) => uptoBulk d + 1
 end
def uptoSmall : (H : Type) → List (DataW H) → Bool := fun _ ds => decide (uptoBulkAll ds ≤ 1048576)
def OpenSpec.upto (s : _root_.Go.ChangeSpec) : _root_.Go.OpenSpec := { _root_.Go.OpenSpec.ofChange s with cond := some uptoSmall }

/-- 'boulterlaw30.OccurOnce', WHERE WHAT IT READS IS OF BULK AT MOST 1048576: true; the input reads as it did. -/
def occurOnceUptoRow : OpenClaim := { program := "ytimjggadeingjaa", sum := "51bc6512398dd3cdc3c25ff989f1e0c69730a252d8b54f33fa4cbd8310ccde72", func := "boulter/boulterlaw30.OccurOnce", spec := "occurOnce", apart := false, narrowed := true }
def OccurOnceUptoSaid : Prop := occurOnceUptoRow.holds Try.pinned (OpenSpec.upto occurOnceSpec)

/-- 'boulterlaw30.OccurAll', WHERE WHAT IT READS IS OF BULK AT MOST 1048576: true; the input reads as it did. -/
def occurAllUptoRow : OpenClaim := { program := "ytimjggadeingjaa", sum := "51bc6512398dd3cdc3c25ff989f1e0c69730a252d8b54f33fa4cbd8310ccde72", func := "boulter/boulterlaw30.OccurAll", spec := "occurAll", apart := false, narrowed := true }
def OccurAllUptoSaid : Prop := occurAllUptoRow.holds Try.pinned (OpenSpec.upto occurAllSpec)

/-- 'boulterlaw30.OccurPlays', WHERE WHAT IT READS IS OF BULK AT MOST 1048576: true; the input reads as it did. -/
def occurPlaysUptoRow : OpenClaim := { program := "ytimjggadeingjaa", sum := "51bc6512398dd3cdc3c25ff989f1e0c69730a252d8b54f33fa4cbd8310ccde72", func := "boulter/boulterlaw30.OccurPlays", spec := "occurPlays", apart := false, narrowed := true }
def OccurPlaysUptoSaid : Prop := occurPlaysUptoRow.holds Try.pinned (OpenSpec.upto occurPlaysSpec)

end Rows
end Go.Proofs.Ytimjggadeingjaa
