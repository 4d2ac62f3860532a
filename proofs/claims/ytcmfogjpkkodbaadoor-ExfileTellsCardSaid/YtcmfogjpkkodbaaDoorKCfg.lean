/-
  The run: which functions are run how, and in which order regions that draw are run. Written by lift2.py.
-/
import Derived.Test.YtcmfogjpkkodbaaDoorAvExt
import Derived.Test.YtcmfogjpkkodbaaDoorAvYld
import Derived.Test.YtcmfogjpkkodbaaDoorProg
namespace Go.Av.L
open Go.Av
def kinds : List Nat := [0, 0, 0, 1, 0, 0, 0, 4, 1, 1, 1, 1, 1, 0, 0, 0, 0, 0, 0, 0, 0, 0, 0, 0, 0, 0, 0, 0, 1, 1, 1, 1, 1, 0, 0, 0, 0, 0, 0, 0, 0, 0, 0, 0, 0, 0, 0, 1, 1, 1, 1, 1, 0, 0, 0, 0, 0, 0, 0, 0, 0, 1, 1, 1, 0, 1, 0, 0, 0, 0, 0, 0, 0, 3, 0, 1, 0, 0, 0, 0, 0, 0, 0, 0, 0, 0, 0, 0, 0, 0, 0, 0, 0, 0, 0, 0, 0, 0, 0, 0, 0, 0, 0, 0, 0, 0, 0, 0, 0, 0, 0, 0, 0, 0, 0, 0, 0, 0, 0, 0, 0, 0, 0, 0, 0, 0, 0]
def plans : List ((Nat × Nat) × List (Nat × List Nat)) := [((8, 6), [(0, []), (1, []), (2, []), (3, []), (4, []), (5, []), (6, []), (7, []), (8, [])]),
  ((47, 4), [(0, []), (1, []), (2, []), (3, []), (4, []), (5, []), (6, []), (7, []), (8, []), (9, [])])]
def stills : List (Nat × List Bool) := []
def globs : List (Nat × List AVal) := []
def exts : List (Nat × Nat) := [(73, 1)]
noncomputable def cfg : Cfg := ⟨Go.Proofs.Tryd.prog, lookN kinds, lookPlan plans, extT exts, lookG globs, rokOf Go.Proofs.Tryd.prog (lookPlan plans), lookB stills⟩
theorem cfg_ok : CfgOk cfg := cfgOk_ext (ks := kinds) (l := exts) rfl (by kernel_rfl) (by kernel_rfl) rfl rfl (by kernel_rfl) (fun f hf => by
  have hf : f = 73 := by simpa [exts, List.lookup] using hf
  subst hf
  exact ⟨by kernel_rfl, fun fn h => by
    obtain rfl := Option.some.inj (Go.Proofs.Tryd.func73.symm.trans h)
    exact ⟨by kernel_rfl, by kernel_rfl⟩⟩)
end Go.Av.L
