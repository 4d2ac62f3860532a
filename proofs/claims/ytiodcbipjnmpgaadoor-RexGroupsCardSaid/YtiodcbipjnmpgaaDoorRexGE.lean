/-
  RexGroups: cases, reckoned by the kernel on the twin.
-/
import Derived.Test.YtiodcbipjnmpgaaDoorRexGr
namespace Go.Av.L
open Go.Av
set_option maxRecDepth 100000
theorem rexG_t_17_3 : ((([15, 16, 17, 18, 19] : List Int).all fun b => C0_okB (C_boulterlaw19_RexGroups 400 17 b true)) = true) := by kernel_rfl
theorem rexG_t_19_2 : ((([10, 11, 12, 13, 14] : List Int).all fun b => C0_okB (C_boulterlaw19_RexGroups 400 19 b true)) = true) := by kernel_rfl
theorem rexG_t_17_2 : ((([10, 11, 12, 13, 14] : List Int).all fun b => C0_okB (C_boulterlaw19_RexGroups 400 17 b true)) = true) := by kernel_rfl
theorem rexG_f_16_2 : ((([10, 11, 12, 13, 14] : List Int).all fun b => C0_okB (C_boulterlaw19_RexGroups 400 16 b false)) = true) := by kernel_rfl
theorem rexG_t_8_3 : ((([15, 16, 17, 18, 19] : List Int).all fun b => C0_okB (C_boulterlaw19_RexGroups 400 8 b true)) = true) := by kernel_rfl
theorem rexG_t_17_1 : ((([5, 6, 7, 8, 9] : List Int).all fun b => C0_okB (C_boulterlaw19_RexGroups 400 17 b true)) = true) := by kernel_rfl
theorem rexG_t_16_1 : ((([5, 6, 7, 8, 9] : List Int).all fun b => C0_okB (C_boulterlaw19_RexGroups 400 16 b true)) = true) := by kernel_rfl
theorem rexG_t_5_3 : ((([15, 16, 17, 18, 19] : List Int).all fun b => C0_okB (C_boulterlaw19_RexGroups 400 5 b true)) = true) := by kernel_rfl
theorem rexG_t_18_0 : ((([0, 1, 2, 3, 4] : List Int).all fun b => C0_okB (C_boulterlaw19_RexGroups 400 18 b true)) = true) := by kernel_rfl
theorem rexG_f_18_0 : ((([0, 1, 2, 3, 4] : List Int).all fun b => C0_okB (C_boulterlaw19_RexGroups 400 18 b false)) = true) := by kernel_rfl
theorem rexG_t_16_0 : ((([0, 1, 2, 3, 4] : List Int).all fun b => C0_okB (C_boulterlaw19_RexGroups 400 16 b true)) = true) := by kernel_rfl
theorem rexG_f_16_0 : ((([0, 1, 2, 3, 4] : List Int).all fun b => C0_okB (C_boulterlaw19_RexGroups 400 16 b false)) = true) := by kernel_rfl
theorem rexG_t_14_0 : ((([0, 1, 2, 3, 4] : List Int).all fun b => C0_okB (C_boulterlaw19_RexGroups 400 14 b true)) = true) := by kernel_rfl
theorem rexG_f_9_1 : ((([5, 6, 7, 8, 9] : List Int).all fun b => C0_okB (C_boulterlaw19_RexGroups 400 9 b false)) = true) := by kernel_rfl
theorem rexG_t_11_0 : ((([0, 1, 2, 3, 4] : List Int).all fun b => C0_okB (C_boulterlaw19_RexGroups 400 11 b true)) = true) := by kernel_rfl
theorem rexG_t_1_2 : ((([10, 11, 12, 13, 14] : List Int).all fun b => C0_okB (C_boulterlaw19_RexGroups 400 1 b true)) = true) := by kernel_rfl
theorem rexG_f_9_0 : ((([0, 1, 2, 3, 4] : List Int).all fun b => C0_okB (C_boulterlaw19_RexGroups 400 9 b false)) = true) := by kernel_rfl
theorem rexG_f_7_0 : ((([0, 1, 2, 3, 4] : List Int).all fun b => C0_okB (C_boulterlaw19_RexGroups 400 7 b false)) = true) := by kernel_rfl
theorem rexG_t_4_0 : ((([0, 1, 2, 3, 4] : List Int).all fun b => C0_okB (C_boulterlaw19_RexGroups 400 4 b true)) = true) := by kernel_rfl
theorem rexG_t_2_0 : ((([0, 1, 2, 3, 4] : List Int).all fun b => C0_okB (C_boulterlaw19_RexGroups 400 2 b true)) = true) := by kernel_rfl
end Go.Av.L
