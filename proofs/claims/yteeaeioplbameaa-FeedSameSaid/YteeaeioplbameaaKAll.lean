/-
  All models. Written by lift2.py.
-/
import Derived.Test.YteeaeioplbameaaK0
import Derived.Test.YteeaeioplbameaaK1
import Derived.Test.YteeaeioplbameaaK2
import Derived.Test.YteeaeioplbameaaK3
