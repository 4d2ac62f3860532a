/-
  The run: which functions are run how, and in which order regions that draw are run. Written by lift.py.
-/
import Derived.Test.YtklabpnclemmoaaAbsMore
import Derived.Test.YtklabpnclemmoaaProg
namespace Go.Abs.L
open Go.Abs
def kinds : List Nat := [0, 0, 0, 0, 0, 0, 0, 0, 2, 2, 2, 2, 0, 0, 2, 2, 2, 0, 0, 0, 0, 0, 0, 0, 0, 0, 0, 0, 0, 0, 0, 0, 0, 2, 4, 2, 2, 2, 2, 2, 2, 2, 0, 0, 0, 0, 2, 2, 2, 2, 2, 2, 2, 2, 2, 2, 0, 0, 0, 0, 0, 0, 0, 0, 0, 0, 0, 0, 0, 0, 0, 0, 0, 0, 2, 2, 2, 2, 2, 0, 0, 0, 1, 0, 0, 0, 0, 0, 0, 0, 0, 0, 0, 0, 0, 0, 0, 0, 0, 0, 0, 0, 0, 0, 0, 0, 0, 0, 0, 0, 0, 0, 0, 0, 0, 0, 0, 0]
def plans : List ((Nat × Nat) × List (Nat × List Nat)) := [((15, 10), [(0, []), (1, []), (3, []), (4, []), (2, [4]), (5, []), (6, []), (7, []), (8, []), (9, []), (11, []), (12, []), (10, [12]), (13, []), (14, []), (15, []), (16, []), (17, []), (18, []), (19, []), (20, []), (21, []), (22, [])]),
  ((47, 4), [(0, []), (1, []), (2, []), (3, []), (4, []), (5, []), (6, []), (7, []), (8, []), (9, [])]),
  ((48, 8), [(0, []), (1, []), (2, []), (3, []), (4, []), (5, []), (6, []), (7, []), (8, [])])]
noncomputable def cfg : Cfg := ⟨Go.Proofs.Try.prog, lookN kinds, lookPlan plans, fun _ _ _ _ => none⟩
theorem cfg_ok : CfgOk cfg := cfgOk_of (ks := kinds) rfl (by kernel_rfl) (by kernel_rfl) (by kernel_rfl)
noncomputable def zc (t : TypeId) : List AVal := ((zeroA cfg.P t).bind AVal.cells?).getD []
end Go.Abs.L
