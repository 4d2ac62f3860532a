/-
  Models of functions of package law18, and that the abstract run tells them. Written by lift.py.
-/
import Derived.Test.YtmjljpnalhknfaaDoorLCfg
namespace Go.Abs.L
open Go.Abs
set_option linter.unusedVariables false
/-! ### boulter/boulterlaw18.awake -/
def M_boulterlaw18_awake : Option (Bool) := some true
theorem ok_boulterlaw18_awake {g : Gd} {h : AHeap} {r0 : Bool} (hm : M_boulterlaw18_awake = some r0) : Runs cfg g h 7 [] (.bool r0) h := by
  have e1 := Option.some.inj hm
  subst e1
  exact runs4E (by kernel_rfl) rfl rfl (closed 1000 (by kernel_rfl))
end Go.Abs.L
