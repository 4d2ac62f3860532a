/-
  All models. Written by lift2.py.
-/
import Derived.Test.YtkdlmohhklimjaaGreatDoorK0
import Derived.Test.YtkdlmohhklimjaaGreatDoorK1
