/-
  AV: plain tools for laws over models: numbers, loops, parts of strings and rows.
-/
import Derived.Test.YtkdlmohhklimjaaGreatDoorAvIn
import Derived.Test.YtkdlmohhklimjaaGreatDoorAvExt
import Derived.IntWalk
namespace Go.Av
set_option linter.unusedVariables false
set_option linter.unusedSimpArgs false
def W {α : Type} (m : Option α) (Q : α → Prop) : Prop := ∃ r, m = some r ∧ Q r
end Go.Av
