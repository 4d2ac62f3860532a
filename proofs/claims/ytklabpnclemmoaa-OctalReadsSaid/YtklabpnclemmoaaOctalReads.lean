/-
  OCTAL: any field's number is the document's.
-/
import Derived.Test.YtklabpnclemmoaaLlaw01x1
import Derived.Test.YtklabpnclemmoaaOctalRead
namespace Go.Abs.L
open Go.Abs
set_option linter.unusedVariables false
set_option linter.unusedSimpArgs false
theorem lawOctalReads (h : AHeap) (x0 : List UInt8) (k0 : (RStr cfg.P).ok x0) : M_boulterlaw01_OctalReads h x0 = some true := by
  unfold M_boulterlaw01_OctalReads
  rw [read_eq, ref_eq, read_ref, iteB_dec]
  split
  · rename_i hl
    have : refF x0 = (0, 1) := by
      cases x0 with
      | nil => rfl
      | cons b l => rw [refF, if_pos (by simp at hl; omega)]
    rw [this]
    rfl
  · obtain ⟨a, b, e⟩ : ∃ a b, refF x0 = (a, b) := ⟨_, _, rfl⟩
    rw [e]
    simp [M_boulterlaw01_awake]
end Go.Abs.L
