/-
  The run: which functions are run how, and in which order regions that draw are run. Written by lift.py.
-/
import Derived.Test.YtimjggadeingjaaAbsWalk
import Derived.Test.YtimjggadeingjaaProg
namespace Go.Abs.L
open Go.Abs
def kinds : List Nat := [0, 0, 0, 2, 2, 2, 1, 4, 1, 2, 1, 1, 1, 2, 1, 2, 2, 0, 0, 0, 0, 0, 0, 0, 0, 0, 0, 0, 0, 0, 0, 0, 0]
def plans : List ((Nat × Nat) × List (Nat × List Nat)) := [((3, 23), [(0, []), (1, []), (2, []), (3, []), (4, []), (5, []), (6, []), (7, []), (9, []), (10, []), (11, []), (8, [11]), (12, []), (13, [])]),
  ((8, 4), [(0, []), (1, []), (2, []), (3, []), (4, []), (5, []), (6, []), (7, []), (8, []), (9, []), (10, [])]),
  ((8, 5), [(0, []), (1, []), (2, []), (3, []), (4, []), (5, []), (6, []), (7, []), (8, []), (9, []), (10, []), (11, []), (12, []), (13, []), (14, []), (15, []), (16, []), (17, []), (18, []), (19, [])]),
  ((10, 2), [(0, []), (1, []), (2, []), (3, []), (4, []), (5, []), (6, []), (7, []), (8, []), (9, [])]),
  ((12, 1), [(0, []), (1, []), (2, []), (3, []), (4, []), (5, []), (6, []), (7, []), (8, []), (9, [])]),
  ((13, 6), [(0, []), (1, []), (2, []), (3, []), (4, []), (5, []), (6, []), (7, []), (8, [])])]
noncomputable def cfg : Cfg := ⟨Go.Proofs.Try.prog, lookN kinds, lookPlan plans, fun _ _ _ _ => none⟩
theorem cfg_ok : CfgOk cfg := cfgOk_of (ks := kinds) rfl (by kernel_rfl) (by kernel_rfl) (by kernel_rfl)
noncomputable def zc (t : TypeId) : List AVal := ((zeroA cfg.P t).bind AVal.cells?).getD []
end Go.Abs.L
