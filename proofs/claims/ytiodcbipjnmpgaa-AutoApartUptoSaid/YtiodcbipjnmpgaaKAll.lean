/-
  All models. Written by lift2.py.
-/
import Derived.Test.YtiodcbipjnmpgaaK0
import Derived.Test.YtiodcbipjnmpgaaK1
import Derived.Test.YtiodcbipjnmpgaaK2
import Derived.Test.YtiodcbipjnmpgaaK3
import Derived.Test.YtiodcbipjnmpgaaK4
