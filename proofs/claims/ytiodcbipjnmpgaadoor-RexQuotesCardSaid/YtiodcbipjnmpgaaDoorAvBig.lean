/-
  AV: great arrays: functions of their places.
-/
import Derived.Test.YtiodcbipjnmpgaaDoorAvArr
import Derived.Test.YtiodcbipjnmpgaaDoorAvTy
namespace Go.Av
set_option linter.unusedVariables false
set_option linter.unusedSimpArgs false
section
variable {α : Type} {g : Gd} {h : AHeap} {L F : List Ck}
def big (n : Nat) (e : α → AVal) (X : Nat → α) : List AVal := (List.range n).map fun i => e (X i)
def big0 : Nat → Int := fun _ => 0
end
end Go.Av
