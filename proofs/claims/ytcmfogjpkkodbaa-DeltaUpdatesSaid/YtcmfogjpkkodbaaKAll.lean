/-
  All models. Written by lift2.py.
-/
import Derived.Test.YtcmfogjpkkodbaaK0
import Derived.Test.YtcmfogjpkkodbaaK1
import Derived.Test.YtcmfogjpkkodbaaK2
import Derived.Test.YtcmfogjpkkodbaaK3
import Derived.Test.YtcmfogjpkkodbaaK4
