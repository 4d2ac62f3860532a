/-
  The run: which functions are run how, and in which order regions that draw are run. Written by lift.py.
-/
import Derived.Test.YtklabpnclemmoaaAbsWalk
import Derived.Test.YtklabpnclemmoaaProg
namespace Go.Abs.L
open Go.Abs
def kinds : List Nat := [0, 0, 0, 0, 0, 0, 0, 0, 2, 2, 2, 2, 0, 0, 0, 0, 0, 0, 0, 0, 0, 0, 0, 0, 0, 0, 0, 0, 0, 0, 0, 0, 0, 2, 4, 2, 2, 2, 2, 2, 2, 2, 0, 0, 0, 0, 0, 0, 0, 0, 0, 0, 0, 0, 0, 0, 0, 0, 0, 0, 0, 0, 0, 0, 0, 0, 0, 0, 0, 0, 0, 0, 0, 0, 2, 2, 2, 2, 2, 0, 0, 0, 0, 0, 0, 0, 0, 0, 0, 0, 0, 0, 0, 0, 0, 0, 0, 0, 0, 0, 0, 0, 0, 0, 0, 0, 0, 0, 0, 0, 0, 0, 0, 0, 0, 0, 0, 0]
def plans : List ((Nat × Nat) × List (Nat × List Nat)) := []
noncomputable def cfg : Cfg := ⟨Go.Proofs.Try.prog, lookN kinds, lookPlan plans, fun _ _ _ _ => none⟩
theorem cfg_ok : CfgOk cfg := cfgOk_of (ks := kinds) rfl (by kernel_rfl) (by kernel_rfl) (by kernel_rfl)
noncomputable def zc (t : TypeId) : List AVal := ((zeroA cfg.P t).bind AVal.cells?).getD []
end Go.Abs.L
