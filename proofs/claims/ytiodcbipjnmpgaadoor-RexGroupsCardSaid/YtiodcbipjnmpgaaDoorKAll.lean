/-
  All models. Written by lift2.py.
-/
import Derived.Test.YtiodcbipjnmpgaaDoorK0
import Derived.Test.YtiodcbipjnmpgaaDoorK1
import Derived.Test.YtiodcbipjnmpgaaDoorK2
import Derived.Test.YtiodcbipjnmpgaaDoorK3
import Derived.Test.YtiodcbipjnmpgaaDoorK4
