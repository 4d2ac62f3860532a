/-
  All models. Written by lift2.py.
-/
import Derived.Test.YtoaelbgmaicdhaaGreatDoorK0
import Derived.Test.YtoaelbgmaicdhaaGreatDoorK1
import Derived.Test.YtoaelbgmaicdhaaGreatDoorK2
