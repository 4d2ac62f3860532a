/-
  Calls that go through maps, told by tables. Written by lift2.py.
-/
import Derived.Test.YtdpebdaplhfbjaaGreatDoorAvMl
import Derived.Test.YtdpebdaplhfbjaaGreatDoorAvTold
import Derived.Test.YtdpebdaplhfbjaaGreatDoorProg
namespace Go.Av.LB
open Go.Av Go.Lib
set_option linter.unusedSimpArgs false
set_option linter.unusedVariables false
def kinds : List Nat := [0, 0, 0, 0, 0, 0, 0, 0, 0, 0, 0, 0, 0, 0, 0, 0, 0, 0, 0, 0, 0, 0, 0, 0, 0, 0, 0, 0, 0, 0, 0, 0, 0, 0, 0, 0, 0, 0, 0, 0, 0, 0, 0, 0, 0, 0, 0, 0, 0, 0, 0, 0, 0, 0, 0, 0, 1, 0, 0, 0, 0, 0, 0, 0, 0, 1, 1, 1, 1, 0, 0, 0, 0, 0, 0, 0, 0, 0, 0, 0, 0, 0, 1, 0, 0, 0, 0, 0, 0, 0, 0, 0, 0, 0, 1, 1, 0, 0, 0, 0, 0, 0, 0, 0, 0, 0, 3, 0, 0, 0, 0, 0, 0, 1, 0, 0, 0, 0, 0, 0, 0, 0, 0, 0, 0, 0, 1, 0, 0, 0, 0, 0, 0, 0, 0, 0, 0, 0, 0, 0, 0, 0, 0, 0, 0, 0, 0, 0, 0, 0, 0, 0, 0, 0, 0, 0, 0, 0, 0, 0, 0, 0, 0]
def plans : List ((Nat × Nat) × List (Nat × List Nat)) := [((94, 8), [(0, []), (1, []), (2, []), (3, []), (4, []), (5, []), (6, []), (7, []), (8, []), (9, [])])]
def globs : List (Nat × List AVal) := [(0, []),
 (1, [.int .u64 1, .int .u64 10, .int .u64 100, .int .u64 1000, .int .u64 10000, .int .u64 100000, .int .u64 1000000, .int .u64 10000000, .int .u64 100000000, .int .u64 1000000000, .int .u64 10000000000, .int .u64 100000000000, .int .u64 1000000000000, .int .u64 10000000000000, .int .u64 100000000000000, .int .u64 1000000000000000, .int .u64 10000000000000000, .int .u64 100000000000000000, .int .u64 1000000000000000000, .int .u64 10000000000000000000]),
 (2, [.int .u8 0, .int .u8 1, .int .u8 28, .int .u8 2, .int .u8 29, .int .u8 14, .int .u8 24, .int .u8 3, .int .u8 30, .int .u8 22, .int .u8 20, .int .u8 15, .int .u8 25, .int .u8 17, .int .u8 4, .int .u8 8, .int .u8 31, .int .u8 27, .int .u8 13, .int .u8 23, .int .u8 21, .int .u8 19, .int .u8 16, .int .u8 7, .int .u8 26, .int .u8 12, .int .u8 18, .int .u8 6, .int .u8 11, .int .u8 5, .int .u8 10, .int .u8 9]),
 (3, [.int .u8 0, .int .u8 1, .int .u8 56, .int .u8 2, .int .u8 57, .int .u8 49, .int .u8 28, .int .u8 3, .int .u8 61, .int .u8 58, .int .u8 42, .int .u8 50, .int .u8 38, .int .u8 29, .int .u8 17, .int .u8 4, .int .u8 62, .int .u8 47, .int .u8 59, .int .u8 36, .int .u8 45, .int .u8 43, .int .u8 51, .int .u8 22, .int .u8 53, .int .u8 39, .int .u8 33, .int .u8 30, .int .u8 24, .int .u8 18, .int .u8 12, .int .u8 5, .int .u8 63, .int .u8 55, .int .u8 48, .int .u8 27, .int .u8 60, .int .u8 41, .int .u8 37, .int .u8 16, .int .u8 46, .int .u8 35, .int .u8 44, .int .u8 21, .int .u8 52, .int .u8 32, .int .u8 23, .int .u8 11, .int .u8 54, .int .u8 26, .int .u8 40, .int .u8 15, .int .u8 34, .int .u8 20, .int .u8 31, .int .u8 10, .int .u8 25, .int .u8 14, .int .u8 19, .int .u8 9, .int .u8 13, .int .u8 8, .int .u8 7, .int .u8 6])]
def exts : List (Nat × Nat × Nat × Nat) := [(106, 1, 0, 0)]
def kms : KMs := []
noncomputable def cfg : Cfg := ⟨Go.Proofs.Tryz.prog, lookN kinds, lookPlan plans, extL Go.Proofs.Tryz.prog kms exts, lookG globs, rokOf Go.Proofs.Tryz.prog (lookPlan plans), lookB []⟩
theorem exts_ok : ∀ p ∈ exts, ExtOk cfg.P cfg.glob p.1 (extC cfg.P kms p.2) := by
 intro p hp
 simp only [exts, List.mem_cons, List.not_mem_nil, or_false] at hp
 subst hp
 exact idx_ok _ (by kernel_rfl) (fun fn h => by
   obtain rfl := Option.some.inj (Go.Proofs.Tryz.func106.symm.trans h)
   exact ⟨by kernel_rfl, by kernel_rfl⟩)
theorem cfg_ok : CfgOk cfg := cfgOk_lib (ks := kinds) (l := exts) rfl (by kernel_rfl) (by kernel_rfl) rfl rfl (by kernel_rfl) exts_ok
set_option maxRecDepth 100000
theorem run40_0 : bodyN cfg (selfN cfg 40) 400 40 [.agg [.str [], .str [], .int .u8 48, .int .i64 0, .int .i64 0, .int .i64 0, .int .i64 0, .int .i64 0, .str [], .str [], .int .i64 0, .int .i64 0, .int .i64 2]] = some (.int .i64 0) := by kernel_rfl
theorem run40_1 : bodyN cfg (selfN cfg 40) 400 40 [.agg [.str [], .str [], .int .u8 48, .int .i64 0, .int .i64 0, .int .i64 0, .int .i64 0, .int .i64 (-1), .str [], .str [], .int .i64 0, .int .i64 0, .int .i64 2]] = some (.int .i64 6) := by kernel_rfl
theorem run40_2 : bodyN cfg (selfN cfg 40) 400 40 [.agg [.str [97], .str [], .int .u8 48, .int .i64 0, .int .i64 0, .int .i64 0, .int .i64 0, .int .i64 0, .str [], .str [], .int .i64 0, .int .i64 0, .int .i64 2]] = some (.int .i64 0) := by kernel_rfl
def tab40 : List (AVal × AVal) := [(.agg [.str [], .str [], .int .u8 48, .int .i64 0, .int .i64 0, .int .i64 0, .int .i64 0, .int .i64 0, .str [], .str [], .int .i64 0, .int .i64 0, .int .i64 2], .int .i64 0),
 (.agg [.str [], .str [], .int .u8 48, .int .i64 0, .int .i64 0, .int .i64 0, .int .i64 0, .int .i64 (-1), .str [], .str [], .int .i64 0, .int .i64 0, .int .i64 2], .int .i64 6),
 (.agg [.str [97], .str [], .int .u8 48, .int .i64 0, .int .i64 0, .int .i64 0, .int .i64 0, .int .i64 0, .str [], .str [], .int .i64 0, .int .i64 0, .int .i64 2], .int .i64 0)]
theorem ext40 : ExtOk cfg.P cfg.glob 40 fun _ h args => extTab tab40 h args := tab_ok (selfN_ok cfg_ok 40).sub Go.Proofs.Tryz.func40 (by kernel_rfl) fun p hp => by
 simp only [tab40, List.mem_cons, List.not_mem_nil, or_false] at hp
 rcases hp with rfl | rfl | rfl
 ·exact ⟨_, _, rfl, rfl, rfl, run40_0⟩
 ·exact ⟨_, _, rfl, rfl, rfl, run40_1⟩
 ·exact ⟨_, _, rfl, rfl, rfl, run40_2⟩
end Go.Av.LB
