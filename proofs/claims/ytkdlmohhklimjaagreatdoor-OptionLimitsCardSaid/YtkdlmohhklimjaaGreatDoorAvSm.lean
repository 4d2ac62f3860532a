/-
  Laws over models: '==' of structs; one turn of a loop.
-/
import Derived.Test.YtkdlmohhklimjaaGreatDoorAvNum
import Derived.Test.YtkdlmohhklimjaaGreatDoorAvMore
namespace Go.Av.L
open Go.Av
set_option linter.unusedVariables false
set_option linter.unusedSimpArgs false

end Go.Av.L
