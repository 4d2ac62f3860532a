/-
  RexGroups: cases, reckoned by the kernel on the twin.
-/
import Derived.Test.YtiodcbipjnmpgaaDoorRexGr
namespace Go.Av.L
open Go.Av
set_option maxRecDepth 100000
theorem rexG_t_18_3 : ((([15, 16, 17, 18, 19] : List Int).all fun b => C0_okB (C_boulterlaw19_RexGroups 400 18 b true)) = true) := by kernel_rfl
theorem rexG_f_19_2 : ((([10, 11, 12, 13, 14] : List Int).all fun b => C0_okB (C_boulterlaw19_RexGroups 400 19 b false)) = true) := by kernel_rfl
theorem rexG_f_17_2 : ((([10, 11, 12, 13, 14] : List Int).all fun b => C0_okB (C_boulterlaw19_RexGroups 400 17 b false)) = true) := by kernel_rfl
theorem rexG_t_19_1 : ((([5, 6, 7, 8, 9] : List Int).all fun b => C0_okB (C_boulterlaw19_RexGroups 400 19 b true)) = true) := by kernel_rfl
theorem rexG_t_9_3 : ((([15, 16, 17, 18, 19] : List Int).all fun b => C0_okB (C_boulterlaw19_RexGroups 400 9 b true)) = true) := by kernel_rfl
theorem rexG_t_7_3 : ((([15, 16, 17, 18, 19] : List Int).all fun b => C0_okB (C_boulterlaw19_RexGroups 400 7 b true)) = true) := by kernel_rfl
theorem rexG_t_6_3 : ((([15, 16, 17, 18, 19] : List Int).all fun b => C0_okB (C_boulterlaw19_RexGroups 400 6 b true)) = true) := by kernel_rfl
theorem rexG_t_19_0 : ((([0, 1, 2, 3, 4] : List Int).all fun b => C0_okB (C_boulterlaw19_RexGroups 400 19 b true)) = true) := by kernel_rfl
theorem rexG_f_19_0 : ((([0, 1, 2, 3, 4] : List Int).all fun b => C0_okB (C_boulterlaw19_RexGroups 400 19 b false)) = true) := by kernel_rfl
theorem rexG_t_17_0 : ((([0, 1, 2, 3, 4] : List Int).all fun b => C0_okB (C_boulterlaw19_RexGroups 400 17 b true)) = true) := by kernel_rfl
theorem rexG_f_17_0 : ((([0, 1, 2, 3, 4] : List Int).all fun b => C0_okB (C_boulterlaw19_RexGroups 400 17 b false)) = true) := by kernel_rfl
theorem rexG_t_15_0 : ((([0, 1, 2, 3, 4] : List Int).all fun b => C0_okB (C_boulterlaw19_RexGroups 400 15 b true)) = true) := by kernel_rfl
theorem rexG_f_15_0 : ((([0, 1, 2, 3, 4] : List Int).all fun b => C0_okB (C_boulterlaw19_RexGroups 400 15 b false)) = true) := by kernel_rfl
theorem rexG_t_3_2 : ((([10, 11, 12, 13, 14] : List Int).all fun b => C0_okB (C_boulterlaw19_RexGroups 400 3 b true)) = true) := by kernel_rfl
theorem rexG_t_2_2 : ((([10, 11, 12, 13, 14] : List Int).all fun b => C0_okB (C_boulterlaw19_RexGroups 400 2 b true)) = true) := by kernel_rfl
theorem rexG_t_10_0 : ((([0, 1, 2, 3, 4] : List Int).all fun b => C0_okB (C_boulterlaw19_RexGroups 400 10 b true)) = true) := by kernel_rfl
theorem rexG_f_5_1 : ((([5, 6, 7, 8, 9] : List Int).all fun b => C0_okB (C_boulterlaw19_RexGroups 400 5 b false)) = true) := by kernel_rfl
theorem rexG_t_6_0 : ((([0, 1, 2, 3, 4] : List Int).all fun b => C0_okB (C_boulterlaw19_RexGroups 400 6 b true)) = true) := by kernel_rfl
theorem rexG_f_6_0 : ((([0, 1, 2, 3, 4] : List Int).all fun b => C0_okB (C_boulterlaw19_RexGroups 400 6 b false)) = true) := by kernel_rfl
theorem rexG_t_0_0 : ((([0, 1, 2, 3, 4] : List Int).all fun b => C0_okB (C_boulterlaw19_RexGroups 400 0 b true)) = true) := by kernel_rfl
end Go.Av.L
