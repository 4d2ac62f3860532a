/-
  No cell of these rows narrows 'for every input' (looked for: loops, veiled, ifaces, maps, wideKeys, modest, calm, conditions, laid).
  DERIVED. THE GIVEN ROWS OF THIS SEAT. 15 by the template 'for every input the law returns true; each argument reads behind the call as it read before'; 0 by the template 'total and deterministic' (their statements: YtklabpnclemmoaaTotals.lean).
  GIVEN WITH THE SEED: the statements are not yours to turn. If you find one false, say at which input.
  Laid BY PROGRAM, IN A SANDBOX (cutbox-rows.mjs): the forced cells as the released guide's own fill.sh prints them over the translation 96971456ccd59fd7… (all of the seat's roots in one cut). By AI agents, Wed Nov 11 2026. No macro, syntax, notation, axiom, sorry.
-/
import Derived.Test.YtklabpnclemmoaaChecked
import GoSem.Claim
import GoSem.ClaimJoined
import GoSem.ClaimMapViews
import Derived.JoinedTies
import Derived.KernelRfl
namespace Go.Proofs.Ytklabpnclemmoaa
/- THE CELL 'sum', in the pinned program and in every row, IS THE sha256 OF THE DUMP (.gsa) THAT YtklabpnclemmoaaProg.lean LOADS. Nothing in Lean hashes anything: it is a label: what it is worth is what the hold of that sum in a sandbox is worth. -/
noncomputable def Try.pinned : Pinned := { name := "ytklabpnclemmoaa", sum := "96971456ccd59fd7bb89dba20d0bb092ac278c51e60ea769466fe6b7158e0c06", checked := Try.checked }
namespace Rows
def none {H : Type} : Left H := { results := [], args := [] }

/-- 'boulterlaw08.FeedSame': WHATEVER THE INPUT: true; the input reads as it did. -/
def feedSameSpec : ChangeSpec := { name := "feedSame", fn := fun _ => fun
  | [d1, d2, d3] => { results := [.lit (.bool true)], args := [d1, d2, d3] }
  | _ => none }
def feedSameRow : OpenClaim := { program := "ytklabpnclemmoaa", sum := "96971456ccd59fd7bb89dba20d0bb092ac278c51e60ea769466fe6b7158e0c06", func := "boulter/boulterlaw08.FeedSame", spec := "feedSame", apart := false }
def FeedSameSaid : Prop := feedSameRow.holds Try.pinned (OpenSpec.ofChange feedSameSpec)

/-- ITS FALSE NEIGHBOUR: 'it returns false'. Refute it at one input. -/
def feedSameWrong : ChangeSpec := { name := "feedSame", fn := fun _ => fun
  | [d1, d2, d3] => { results := [.lit (.bool false)], args := [d1, d2, d3] }
  | _ => none }
def FeedSameWrongFalsely : Prop := feedSameRow.holds Try.pinned (OpenSpec.ofChange feedSameWrong)

/-- 'boulterlaw08.FeedFull': WHATEVER THE INPUT: true; the input reads as it did. -/
def feedFullSpec : ChangeSpec := { name := "feedFull", fn := fun _ => fun
  | [d1, d2] => { results := [.lit (.bool true)], args := [d1, d2] }
  | _ => none }
def feedFullRow : OpenClaim := { program := "ytklabpnclemmoaa", sum := "96971456ccd59fd7bb89dba20d0bb092ac278c51e60ea769466fe6b7158e0c06", func := "boulter/boulterlaw08.FeedFull", spec := "feedFull", apart := false }
def FeedFullSaid : Prop := feedFullRow.holds Try.pinned (OpenSpec.ofChange feedFullSpec)

/-- ITS FALSE NEIGHBOUR: 'it returns false'. Refute it at one input. -/
def feedFullWrong : ChangeSpec := { name := "feedFull", fn := fun _ => fun
  | [d1, d2] => { results := [.lit (.bool false)], args := [d1, d2] }
  | _ => none }
def FeedFullWrongFalsely : Prop := feedFullRow.holds Try.pinned (OpenSpec.ofChange feedFullWrong)

/-- 'boulterlaw08.FeedPlays': WHATEVER THE INPUT: true; the input reads as it did. -/
def feedPlaysSpec : ChangeSpec := { name := "feedPlays", fn := fun _ => fun
  | [d] => { results := [.lit (.bool true)], args := [d] }
  | _ => none }
def feedPlaysRow : OpenClaim := { program := "ytklabpnclemmoaa", sum := "96971456ccd59fd7bb89dba20d0bb092ac278c51e60ea769466fe6b7158e0c06", func := "boulter/boulterlaw08.FeedPlays", spec := "feedPlays", apart := false }
def FeedPlaysSaid : Prop := feedPlaysRow.holds Try.pinned (OpenSpec.ofChange feedPlaysSpec)

/-- ITS FALSE NEIGHBOUR: 'it returns false'. Refute it at one input. -/
def feedPlaysWrong : ChangeSpec := { name := "feedPlays", fn := fun _ => fun
  | [d] => { results := [.lit (.bool false)], args := [d] }
  | _ => none }
def FeedPlaysWrongFalsely : Prop := feedPlaysRow.holds Try.pinned (OpenSpec.ofChange feedPlaysWrong)

/-- 'boulterlaw31.ExfileCuts': WHATEVER THE INPUT: true; the input reads as it did. -/
def exfileCutsSpec : ChangeSpec := { name := "exfileCuts", fn := fun _ => fun
  | [d1, d2] => { results := [.lit (.bool true)], args := [d1, d2] }
  | _ => none }
def exfileCutsRow : OpenClaim := { program := "ytklabpnclemmoaa", sum := "96971456ccd59fd7bb89dba20d0bb092ac278c51e60ea769466fe6b7158e0c06", func := "boulter/boulterlaw31.ExfileCuts", spec := "exfileCuts", inPlace := ["internal/bytealg.IndexByteString"], unfollowed := true, recurses := true, apart := false }
def ExfileCutsSaid : Prop := exfileCutsRow.holds Try.pinned (OpenSpec.ofChange exfileCutsSpec)

/-- ITS FALSE NEIGHBOUR: 'it returns false'. Refute it at one input. -/
def exfileCutsWrong : ChangeSpec := { name := "exfileCuts", fn := fun _ => fun
  | [d1, d2] => { results := [.lit (.bool false)], args := [d1, d2] }
  | _ => none }
def ExfileCutsWrongFalsely : Prop := exfileCutsRow.holds Try.pinned (OpenSpec.ofChange exfileCutsWrong)

/-- 'boulterlaw23.SubstExpands': WHATEVER THE INPUT: true; the input reads as it did. -/
def substExpandsSpec : ChangeSpec := { name := "substExpands", fn := fun _ => fun
  | [d1, d2, d3] => { results := [.lit (.bool true)], args := [d1, d2, d3] }
  | _ => none }
def substExpandsRow : OpenClaim := { program := "ytklabpnclemmoaa", sum := "96971456ccd59fd7bb89dba20d0bb092ac278c51e60ea769466fe6b7158e0c06", func := "boulter/boulterlaw23.SubstExpands", spec := "substExpands", apart := false }
def SubstExpandsSaid : Prop := substExpandsRow.holds Try.pinned (OpenSpec.ofChange substExpandsSpec)

/-- ITS FALSE NEIGHBOUR: 'it returns false'. Refute it at one input. -/
def substExpandsWrong : ChangeSpec := { name := "substExpands", fn := fun _ => fun
  | [d1, d2, d3] => { results := [.lit (.bool false)], args := [d1, d2, d3] }
  | _ => none }
def SubstExpandsWrongFalsely : Prop := substExpandsRow.holds Try.pinned (OpenSpec.ofChange substExpandsWrong)

/-- 'boulterlaw01.OctalReads': WHATEVER THE INPUT: true; the input reads as it did. -/
def octalReadsSpec : ChangeSpec := { name := "octalReads", fn := fun _ => fun
  | [d] => { results := [.lit (.bool true)], args := [d] }
  | _ => none }
def octalReadsRow : OpenClaim := { program := "ytklabpnclemmoaa", sum := "96971456ccd59fd7bb89dba20d0bb092ac278c51e60ea769466fe6b7158e0c06", func := "boulter/boulterlaw01.OctalReads", spec := "octalReads", apart := false }
def OctalReadsSaid : Prop := octalReadsRow.holds Try.pinned (OpenSpec.ofChange octalReadsSpec)

/-- ITS FALSE NEIGHBOUR: 'it returns false'. Refute it at one input. -/
def octalReadsWrong : ChangeSpec := { name := "octalReads", fn := fun _ => fun
  | [d] => { results := [.lit (.bool false)], args := [d] }
  | _ => none }
def OctalReadsWrongFalsely : Prop := octalReadsRow.holds Try.pinned (OpenSpec.ofChange octalReadsWrong)

/-- 'boulterlaw01.OctalWrites': WHATEVER THE INPUT: true; the input reads as it did. -/
def octalWritesSpec : ChangeSpec := { name := "octalWrites", fn := fun _ => fun
  | [d1, d2] => { results := [.lit (.bool true)], args := [d1, d2] }
  | _ => none }
def octalWritesRow : OpenClaim := { program := "ytklabpnclemmoaa", sum := "96971456ccd59fd7bb89dba20d0bb092ac278c51e60ea769466fe6b7158e0c06", func := "boulter/boulterlaw01.OctalWrites", spec := "octalWrites", apart := false }
def OctalWritesSaid : Prop := octalWritesRow.holds Try.pinned (OpenSpec.ofChange octalWritesSpec)

/-- ITS FALSE NEIGHBOUR: 'it returns false'. Refute it at one input. -/
def octalWritesWrong : ChangeSpec := { name := "octalWrites", fn := fun _ => fun
  | [d1, d2] => { results := [.lit (.bool false)], args := [d1, d2] }
  | _ => none }
def OctalWritesWrongFalsely : Prop := octalWritesRow.holds Try.pinned (OpenSpec.ofChange octalWritesWrong)

/-- 'boulterlaw01.OctalForms': WHATEVER THE INPUT: true; the input reads as it did. -/
def octalFormsSpec : ChangeSpec := { name := "octalForms", fn := fun _ => fun
  | [d1, d2] => { results := [.lit (.bool true)], args := [d1, d2] }
  | _ => none }
def octalFormsRow : OpenClaim := { program := "ytklabpnclemmoaa", sum := "96971456ccd59fd7bb89dba20d0bb092ac278c51e60ea769466fe6b7158e0c06", func := "boulter/boulterlaw01.OctalForms", spec := "octalForms", apart := false }
def OctalFormsSaid : Prop := octalFormsRow.holds Try.pinned (OpenSpec.ofChange octalFormsSpec)

/-- ITS FALSE NEIGHBOUR: 'it returns false'. Refute it at one input. -/
def octalFormsWrong : ChangeSpec := { name := "octalForms", fn := fun _ => fun
  | [d1, d2] => { results := [.lit (.bool false)], args := [d1, d2] }
  | _ => none }
def OctalFormsWrongFalsely : Prop := octalFormsRow.holds Try.pinned (OpenSpec.ofChange octalFormsWrong)

/-- 'boulterlaw01.OctalBlanks': WHATEVER THE INPUT: true; the input reads as it did. -/
def octalBlanksSpec : ChangeSpec := { name := "octalBlanks", fn := fun _ => fun
  | [d1, d2, d3] => { results := [.lit (.bool true)], args := [d1, d2, d3] }
  | _ => none }
def octalBlanksRow : OpenClaim := { program := "ytklabpnclemmoaa", sum := "96971456ccd59fd7bb89dba20d0bb092ac278c51e60ea769466fe6b7158e0c06", func := "boulter/boulterlaw01.OctalBlanks", spec := "octalBlanks", apart := false }
def OctalBlanksSaid : Prop := octalBlanksRow.holds Try.pinned (OpenSpec.ofChange octalBlanksSpec)

/-- ITS FALSE NEIGHBOUR: 'it returns false'. Refute it at one input. -/
def octalBlanksWrong : ChangeSpec := { name := "octalBlanks", fn := fun _ => fun
  | [d1, d2, d3] => { results := [.lit (.bool false)], args := [d1, d2, d3] }
  | _ => none }
def OctalBlanksWrongFalsely : Prop := octalBlanksRow.holds Try.pinned (OpenSpec.ofChange octalBlanksWrong)

/-- 'boulterlaw23.SubstParses': WHATEVER THE INPUT: true; the input reads as it did. -/
def substParsesSpec : ChangeSpec := { name := "substParses", fn := fun _ => fun
  | [d] => { results := [.lit (.bool true)], args := [d] }
  | _ => none }
def substParsesRow : OpenClaim := { program := "ytklabpnclemmoaa", sum := "96971456ccd59fd7bb89dba20d0bb092ac278c51e60ea769466fe6b7158e0c06", func := "boulter/boulterlaw23.SubstParses", spec := "substParses", apart := false }
def SubstParsesSaid : Prop := substParsesRow.holds Try.pinned (OpenSpec.ofChange substParsesSpec)

/-- ITS FALSE NEIGHBOUR: 'it returns false'. Refute it at one input. -/
def substParsesWrong : ChangeSpec := { name := "substParses", fn := fun _ => fun
  | [d] => { results := [.lit (.bool false)], args := [d] }
  | _ => none }
def SubstParsesWrongFalsely : Prop := substParsesRow.holds Try.pinned (OpenSpec.ofChange substParsesWrong)

/-- 'boulterlaw23.SubstQuotes': WHATEVER THE INPUT: true; the input reads as it did. -/
def substQuotesSpec : ChangeSpec := { name := "substQuotes", fn := fun _ => fun
  | [d1, d2] => { results := [.lit (.bool true)], args := [d1, d2] }
  | _ => none }
def substQuotesRow : OpenClaim := { program := "ytklabpnclemmoaa", sum := "96971456ccd59fd7bb89dba20d0bb092ac278c51e60ea769466fe6b7158e0c06", func := "boulter/boulterlaw23.SubstQuotes", spec := "substQuotes", apart := false }
def SubstQuotesSaid : Prop := substQuotesRow.holds Try.pinned (OpenSpec.ofChange substQuotesSpec)

/-- ITS FALSE NEIGHBOUR: 'it returns false'. Refute it at one input. -/
def substQuotesWrong : ChangeSpec := { name := "substQuotes", fn := fun _ => fun
  | [d1, d2] => { results := [.lit (.bool false)], args := [d1, d2] }
  | _ => none }
def SubstQuotesWrongFalsely : Prop := substQuotesRow.holds Try.pinned (OpenSpec.ofChange substQuotesWrong)

/-- 'boulterlaw03.SumsSeal': WHATEVER THE INPUT: true; the input reads as it did. -/
def sumsSealSpec : ChangeSpec := { name := "sumsSeal", fn := fun _ => fun
  | [d1, d2] => { results := [.lit (.bool true)], args := [d1, d2] }
  | _ => none }
def sumsSealRow : OpenClaim := { program := "ytklabpnclemmoaa", sum := "96971456ccd59fd7bb89dba20d0bb092ac278c51e60ea769466fe6b7158e0c06", func := "boulter/boulterlaw03.SumsSeal", spec := "sumsSeal", apart := false }
def SumsSealSaid : Prop := sumsSealRow.holds Try.pinned (OpenSpec.ofChange sumsSealSpec)

/-- ITS FALSE NEIGHBOUR: 'it returns false'. Refute it at one input. -/
def sumsSealWrong : ChangeSpec := { name := "sumsSeal", fn := fun _ => fun
  | [d1, d2] => { results := [.lit (.bool false)], args := [d1, d2] }
  | _ => none }
def SumsSealWrongFalsely : Prop := sumsSealRow.holds Try.pinned (OpenSpec.ofChange sumsSealWrong)

/-- 'boulterlaw03.SumsSpoilt': WHATEVER THE INPUT: true; the input reads as it did. -/
def sumsSpoiltSpec : ChangeSpec := { name := "sumsSpoilt", fn := fun _ => fun
  | [d1, d2, d3] => { results := [.lit (.bool true)], args := [d1, d2, d3] }
  | _ => none }
def sumsSpoiltRow : OpenClaim := { program := "ytklabpnclemmoaa", sum := "96971456ccd59fd7bb89dba20d0bb092ac278c51e60ea769466fe6b7158e0c06", func := "boulter/boulterlaw03.SumsSpoilt", spec := "sumsSpoilt", apart := false }
def SumsSpoiltSaid : Prop := sumsSpoiltRow.holds Try.pinned (OpenSpec.ofChange sumsSpoiltSpec)

/-- ITS FALSE NEIGHBOUR: 'it returns false'. Refute it at one input. -/
def sumsSpoiltWrong : ChangeSpec := { name := "sumsSpoilt", fn := fun _ => fun
  | [d1, d2, d3] => { results := [.lit (.bool false)], args := [d1, d2, d3] }
  | _ => none }
def SumsSpoiltWrongFalsely : Prop := sumsSpoiltRow.holds Try.pinned (OpenSpec.ofChange sumsSpoiltWrong)

/-- 'boulterlaw03.SumsTell': WHATEVER THE INPUT: true; the input reads as it did. -/
def sumsTellSpec : ChangeSpec := { name := "sumsTell", fn := fun _ => fun
  | [d1, d2] => { results := [.lit (.bool true)], args := [d1, d2] }
  | _ => none }
def sumsTellRow : OpenClaim := { program := "ytklabpnclemmoaa", sum := "96971456ccd59fd7bb89dba20d0bb092ac278c51e60ea769466fe6b7158e0c06", func := "boulter/boulterlaw03.SumsTell", spec := "sumsTell", apart := false }
def SumsTellSaid : Prop := sumsTellRow.holds Try.pinned (OpenSpec.ofChange sumsTellSpec)

/-- ITS FALSE NEIGHBOUR: 'it returns false'. Refute it at one input. -/
def sumsTellWrong : ChangeSpec := { name := "sumsTell", fn := fun _ => fun
  | [d1, d2] => { results := [.lit (.bool false)], args := [d1, d2] }
  | _ => none }
def SumsTellWrongFalsely : Prop := sumsTellRow.holds Try.pinned (OpenSpec.ofChange sumsTellWrong)

/-- 'boulterlaw31.ExfileTexts': WHATEVER THE INPUT: true; the input reads as it did. -/
def exfileTextsSpec : ChangeSpec := { name := "exfileTexts", fn := fun _ => fun
  | [d] => { results := [.lit (.bool true)], args := [d] }
  | _ => none }
def exfileTextsRow : OpenClaim := { program := "ytklabpnclemmoaa", sum := "96971456ccd59fd7bb89dba20d0bb092ac278c51e60ea769466fe6b7158e0c06", func := "boulter/boulterlaw31.ExfileTexts", spec := "exfileTexts", inPlace := ["internal/bytealg.IndexByteString", "internal/bytealg.IndexString"], unfollowed := true, recurses := true, named := ["internal/bytealg.MaxLen"], apart := false }
def ExfileTextsSaid : Prop := exfileTextsRow.holds Try.pinned (OpenSpec.ofChange exfileTextsSpec)

/-- ITS FALSE NEIGHBOUR: 'it returns false'. Refute it at one input. -/
def exfileTextsWrong : ChangeSpec := { name := "exfileTexts", fn := fun _ => fun
  | [d] => { results := [.lit (.bool false)], args := [d] }
  | _ => none }
def ExfileTextsWrongFalsely : Prop := exfileTextsRow.holds Try.pinned (OpenSpec.ofChange exfileTextsWrong)

/- THE SECOND FORM. 'bulk': how many values and letters a reading holds, each counted each time it is reached (what is shared counts as often as it is met; a slice's spare places count too). A statement '..UptoSaid' is the law's where the arguments, and the package variables that the reading takes, are together of bulk at most 1048576: NARROWER than '..Said'. Prove '..Said' where nothing that the law and all that it calls make is longer than what came in: it says more and counts as full. Else prove '..UptoSaid'. A law counts once. -/
mutual
def uptoBulk {H : Type} : DataW H → Nat
  | .lit (.string bytes) => bytes.length + 1
  | .lit _ => 1
  | .nil => 1
  | .ptr d => uptoBulk d + 1
  | .slice elems spare => uptoBulkAll elems + uptoBulkAll spare + 1
  | .agg parts => uptoBulkAll parts + 1
  | .iface _ d => uptoBulk d + 1
  | .map entries => uptoBulkEntries entries + 1
  | .held _ => 1
def uptoBulkAll {H : Type} : List (DataW H) → Nat
  | [] => 0
  | d :: r => uptoBulk d + uptoBulkAll r
def uptoBulkEntries {H : Type} : List (Lit × DataW H) → Nat
  | [] => 0
  | x :: r => uptoBulkEntry x + uptoBulkEntries r
def uptoBulkEntry {H : Type} : Lit × DataW H → Nat
  | (.string bytes, d) => bytes.length + uptoBulk d + 1
  | (_, d) => uptoBulk d + 1
 end
def uptoSmall : (H : Type) → List (DataW H) → Bool := fun _ ds => decide (uptoBulkAll ds ≤ 1048576)
def OpenSpec.upto (s : _root_.Go.ChangeSpec) : _root_.Go.OpenSpec := { _root_.Go.OpenSpec.ofChange s with cond := some uptoSmall }

/-- 'boulterlaw08.FeedSame', WHERE WHAT IT READS IS OF BULK AT MOST 1048576: true; the input reads as it did. -/
def feedSameUptoRow : OpenClaim := { program := "ytklabpnclemmoaa", sum := "96971456ccd59fd7bb89dba20d0bb092ac278c51e60ea769466fe6b7158e0c06", func := "boulter/boulterlaw08.FeedSame", spec := "feedSame", apart := false, narrowed := true }
def FeedSameUptoSaid : Prop := feedSameUptoRow.holds Try.pinned (OpenSpec.upto feedSameSpec)

/-- 'boulterlaw08.FeedFull', WHERE WHAT IT READS IS OF BULK AT MOST 1048576: true; the input reads as it did. -/
def feedFullUptoRow : OpenClaim := { program := "ytklabpnclemmoaa", sum := "96971456ccd59fd7bb89dba20d0bb092ac278c51e60ea769466fe6b7158e0c06", func := "boulter/boulterlaw08.FeedFull", spec := "feedFull", apart := false, narrowed := true }
def FeedFullUptoSaid : Prop := feedFullUptoRow.holds Try.pinned (OpenSpec.upto feedFullSpec)

/-- 'boulterlaw08.FeedPlays', WHERE WHAT IT READS IS OF BULK AT MOST 1048576: true; the input reads as it did. -/
def feedPlaysUptoRow : OpenClaim := { program := "ytklabpnclemmoaa", sum := "96971456ccd59fd7bb89dba20d0bb092ac278c51e60ea769466fe6b7158e0c06", func := "boulter/boulterlaw08.FeedPlays", spec := "feedPlays", apart := false, narrowed := true }
def FeedPlaysUptoSaid : Prop := feedPlaysUptoRow.holds Try.pinned (OpenSpec.upto feedPlaysSpec)

/-- 'boulterlaw31.ExfileCuts', WHERE WHAT IT READS IS OF BULK AT MOST 1048576: true; the input reads as it did. -/
def exfileCutsUptoRow : OpenClaim := { program := "ytklabpnclemmoaa", sum := "96971456ccd59fd7bb89dba20d0bb092ac278c51e60ea769466fe6b7158e0c06", func := "boulter/boulterlaw31.ExfileCuts", spec := "exfileCuts", inPlace := ["internal/bytealg.IndexByteString"], unfollowed := true, recurses := true, apart := false, narrowed := true }
def ExfileCutsUptoSaid : Prop := exfileCutsUptoRow.holds Try.pinned (OpenSpec.upto exfileCutsSpec)

/-- 'boulterlaw23.SubstExpands', WHERE WHAT IT READS IS OF BULK AT MOST 1048576: true; the input reads as it did. -/
def substExpandsUptoRow : OpenClaim := { program := "ytklabpnclemmoaa", sum := "96971456ccd59fd7bb89dba20d0bb092ac278c51e60ea769466fe6b7158e0c06", func := "boulter/boulterlaw23.SubstExpands", spec := "substExpands", apart := false, narrowed := true }
def SubstExpandsUptoSaid : Prop := substExpandsUptoRow.holds Try.pinned (OpenSpec.upto substExpandsSpec)

/-- 'boulterlaw01.OctalReads', WHERE WHAT IT READS IS OF BULK AT MOST 1048576: true; the input reads as it did. -/
def octalReadsUptoRow : OpenClaim := { program := "ytklabpnclemmoaa", sum := "96971456ccd59fd7bb89dba20d0bb092ac278c51e60ea769466fe6b7158e0c06", func := "boulter/boulterlaw01.OctalReads", spec := "octalReads", apart := false, narrowed := true }
def OctalReadsUptoSaid : Prop := octalReadsUptoRow.holds Try.pinned (OpenSpec.upto octalReadsSpec)

/-- 'boulterlaw01.OctalWrites', WHERE WHAT IT READS IS OF BULK AT MOST 1048576: true; the input reads as it did. -/
def octalWritesUptoRow : OpenClaim := { program := "ytklabpnclemmoaa", sum := "96971456ccd59fd7bb89dba20d0bb092ac278c51e60ea769466fe6b7158e0c06", func := "boulter/boulterlaw01.OctalWrites", spec := "octalWrites", apart := false, narrowed := true }
def OctalWritesUptoSaid : Prop := octalWritesUptoRow.holds Try.pinned (OpenSpec.upto octalWritesSpec)

/-- 'boulterlaw01.OctalForms', WHERE WHAT IT READS IS OF BULK AT MOST 1048576: true; the input reads as it did. -/
def octalFormsUptoRow : OpenClaim := { program := "ytklabpnclemmoaa", sum := "96971456ccd59fd7bb89dba20d0bb092ac278c51e60ea769466fe6b7158e0c06", func := "boulter/boulterlaw01.OctalForms", spec := "octalForms", apart := false, narrowed := true }
def OctalFormsUptoSaid : Prop := octalFormsUptoRow.holds Try.pinned (OpenSpec.upto octalFormsSpec)

/-- 'boulterlaw01.OctalBlanks', WHERE WHAT IT READS IS OF BULK AT MOST 1048576: true; the input reads as it did. -/
def octalBlanksUptoRow : OpenClaim := { program := "ytklabpnclemmoaa", sum := "96971456ccd59fd7bb89dba20d0bb092ac278c51e60ea769466fe6b7158e0c06", func := "boulter/boulterlaw01.OctalBlanks", spec := "octalBlanks", apart := false, narrowed := true }
def OctalBlanksUptoSaid : Prop := octalBlanksUptoRow.holds Try.pinned (OpenSpec.upto octalBlanksSpec)

/-- 'boulterlaw23.SubstParses', WHERE WHAT IT READS IS OF BULK AT MOST 1048576: true; the input reads as it did. -/
def substParsesUptoRow : OpenClaim := { program := "ytklabpnclemmoaa", sum := "96971456ccd59fd7bb89dba20d0bb092ac278c51e60ea769466fe6b7158e0c06", func := "boulter/boulterlaw23.SubstParses", spec := "substParses", apart := false, narrowed := true }
def SubstParsesUptoSaid : Prop := substParsesUptoRow.holds Try.pinned (OpenSpec.upto substParsesSpec)

/-- 'boulterlaw23.SubstQuotes', WHERE WHAT IT READS IS OF BULK AT MOST 1048576: true; the input reads as it did. -/
def substQuotesUptoRow : OpenClaim := { program := "ytklabpnclemmoaa", sum := "96971456ccd59fd7bb89dba20d0bb092ac278c51e60ea769466fe6b7158e0c06", func := "boulter/boulterlaw23.SubstQuotes", spec := "substQuotes", apart := false, narrowed := true }
def SubstQuotesUptoSaid : Prop := substQuotesUptoRow.holds Try.pinned (OpenSpec.upto substQuotesSpec)

/-- 'boulterlaw03.SumsSeal', WHERE WHAT IT READS IS OF BULK AT MOST 1048576: true; the input reads as it did. -/
def sumsSealUptoRow : OpenClaim := { program := "ytklabpnclemmoaa", sum := "96971456ccd59fd7bb89dba20d0bb092ac278c51e60ea769466fe6b7158e0c06", func := "boulter/boulterlaw03.SumsSeal", spec := "sumsSeal", apart := false, narrowed := true }
def SumsSealUptoSaid : Prop := sumsSealUptoRow.holds Try.pinned (OpenSpec.upto sumsSealSpec)

/-- 'boulterlaw03.SumsSpoilt', WHERE WHAT IT READS IS OF BULK AT MOST 1048576: true; the input reads as it did. -/
def sumsSpoiltUptoRow : OpenClaim := { program := "ytklabpnclemmoaa", sum := "96971456ccd59fd7bb89dba20d0bb092ac278c51e60ea769466fe6b7158e0c06", func := "boulter/boulterlaw03.SumsSpoilt", spec := "sumsSpoilt", apart := false, narrowed := true }
def SumsSpoiltUptoSaid : Prop := sumsSpoiltUptoRow.holds Try.pinned (OpenSpec.upto sumsSpoiltSpec)

/-- 'boulterlaw03.SumsTell', WHERE WHAT IT READS IS OF BULK AT MOST 1048576: true; the input reads as it did. -/
def sumsTellUptoRow : OpenClaim := { program := "ytklabpnclemmoaa", sum := "96971456ccd59fd7bb89dba20d0bb092ac278c51e60ea769466fe6b7158e0c06", func := "boulter/boulterlaw03.SumsTell", spec := "sumsTell", apart := false, narrowed := true }
def SumsTellUptoSaid : Prop := sumsTellUptoRow.holds Try.pinned (OpenSpec.upto sumsTellSpec)

/-- 'boulterlaw31.ExfileTexts', WHERE WHAT IT READS IS OF BULK AT MOST 1048576: true; the input reads as it did. -/
def exfileTextsUptoRow : OpenClaim := { program := "ytklabpnclemmoaa", sum := "96971456ccd59fd7bb89dba20d0bb092ac278c51e60ea769466fe6b7158e0c06", func := "boulter/boulterlaw31.ExfileTexts", spec := "exfileTexts", inPlace := ["internal/bytealg.IndexByteString", "internal/bytealg.IndexString"], unfollowed := true, recurses := true, named := ["internal/bytealg.MaxLen"], apart := false, narrowed := true }
def ExfileTextsUptoSaid : Prop := exfileTextsUptoRow.holds Try.pinned (OpenSpec.upto exfileTextsSpec)

end Rows
end Go.Proofs.Ytklabpnclemmoaa
