/-
  All models. Written by lift2.py.
-/
import Derived.Test.YtkdlmohhklimjaaGreatDoorK0
import Derived.Test.YtkdlmohhklimjaaGreatDoorK1
import Derived.Test.YtkdlmohhklimjaaGreatDoorK2
import Derived.Test.YtkdlmohhklimjaaGreatDoorK3
import Derived.Test.YtkdlmohhklimjaaGreatDoorK4
import Derived.Test.YtkdlmohhklimjaaGreatDoorK5
