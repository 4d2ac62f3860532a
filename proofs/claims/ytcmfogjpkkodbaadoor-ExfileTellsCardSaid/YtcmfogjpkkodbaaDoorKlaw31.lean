/-
  Models of functions of package law31, and that the abstract run tells them. Written by lift2.py.
-/
import Derived.Test.YtcmfogjpkkodbaaDoorKCfg
namespace Go.Av.L
open Go.Av
set_option linter.unusedVariables false
set_option linter.unusedSimpArgs false
/-! ### boulter/boulterlaw31.awake -/
def M_boulterlaw31_awake : Option Bool := some true
theorem ok_boulterlaw31_awake {g : Gd} {h : AHeap} {q0 : Bool} (hm : M_boulterlaw31_awake = some q0) : Runs cfg g h 7 [] (.bool q0) h := by
  have e1 := Option.some.inj hm
  subst e1
  exact runs4E (by kernel_rfl) rfl rfl (closed 1000 (by kernel_rfl))
end Go.Av.L
