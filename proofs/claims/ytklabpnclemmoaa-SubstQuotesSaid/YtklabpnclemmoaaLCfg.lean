/-
  The run: which functions are run how, and in which order regions that draw are run. Written by lift.py.
-/
import Derived.Test.YtklabpnclemmoaaAbsMore
import Derived.Test.YtklabpnclemmoaaProg
namespace Go.Abs.L
open Go.Abs
def kinds : List Nat := [0, 0, 0, 0, 0, 0, 0, 2, 0, 0, 0, 0, 2, 2, 0, 0, 0, 0, 0, 0, 0, 0, 0, 0, 0, 0, 0, 0, 0, 0, 4, 2, 2, 0, 0, 0, 0, 0, 0, 0, 0, 0, 1, 1, 2, 2, 0, 0, 0, 0, 0, 0, 0, 0, 0, 0, 0, 0, 0, 0, 0, 0, 0, 0, 0, 0, 0, 0, 0, 1, 2, 2, 2, 2, 0, 0, 0, 0, 0, 1, 1, 1, 0, 0, 0, 0, 0, 0, 0, 2, 0, 0, 0, 0, 0, 2, 0, 0, 0, 0, 0, 0, 0, 0, 0, 0, 0, 0, 0, 0, 0, 0, 0, 0, 0, 0, 0, 0]
def plans : List ((Nat × Nat) × List (Nat × List Nat)) := [((12, 11), [(0, []), (1, []), (2, []), (3, []), (4, []), (5, []), (6, []), (7, []), (8, [])]),
  ((69, 6), [(0, []), (1, []), (2, []), (3, []), (4, []), (5, []), (6, []), (7, []), (8, []), (9, [4]), (10, []), (11, []), (12, []), (13, []), (14, [])]),
  ((79, 3), [(0, []), (1, []), (2, []), (3, []), (4, []), (5, []), (6, []), (7, []), (8, []), (9, []), (10, []), (11, []), (12, [])])]
noncomputable def cfg : Cfg := ⟨Go.Proofs.Try.prog, lookN kinds, lookPlan plans, fun _ _ _ _ => none⟩
theorem cfg_ok : CfgOk cfg := cfgOk_of (ks := kinds) rfl (by kernel_rfl) (by kernel_rfl) (by kernel_rfl)
noncomputable def zc (t : TypeId) : List AVal := ((zeroA cfg.P t).bind AVal.cells?).getD []
end Go.Abs.L
