/-
  RexGroups: cases, reckoned by the kernel on the twin.
-/
import Derived.Test.YtiodcbipjnmpgaaDoorRexGr
namespace Go.Av.L
open Go.Av
set_option maxRecDepth 100000
theorem rexG_t_16_3 : ((([15, 16, 17, 18, 19] : List Int).all fun b => C0_okB (C_boulterlaw19_RexGroups 400 16 b true)) = true) := by kernel_rfl
theorem rexG_t_15_3 : ((([15, 16, 17, 18, 19] : List Int).all fun b => C0_okB (C_boulterlaw19_RexGroups 400 15 b true)) = true) := by kernel_rfl
theorem rexG_f_18_2 : ((([10, 11, 12, 13, 14] : List Int).all fun b => C0_okB (C_boulterlaw19_RexGroups 400 18 b false)) = true) := by kernel_rfl
theorem rexG_f_15_2 : ((([10, 11, 12, 13, 14] : List Int).all fun b => C0_okB (C_boulterlaw19_RexGroups 400 15 b false)) = true) := by kernel_rfl
theorem rexG_t_18_1 : ((([5, 6, 7, 8, 9] : List Int).all fun b => C0_okB (C_boulterlaw19_RexGroups 400 18 b true)) = true) := by kernel_rfl
theorem rexG_f_13_2 : ((([10, 11, 12, 13, 14] : List Int).all fun b => C0_okB (C_boulterlaw19_RexGroups 400 13 b false)) = true) := by kernel_rfl
theorem rexG_t_15_1 : ((([5, 6, 7, 8, 9] : List Int).all fun b => C0_okB (C_boulterlaw19_RexGroups 400 15 b true)) = true) := by kernel_rfl
theorem rexG_f_10_2 : ((([10, 11, 12, 13, 14] : List Int).all fun b => C0_okB (C_boulterlaw19_RexGroups 400 10 b false)) = true) := by kernel_rfl
theorem rexG_t_8_2 : ((([10, 11, 12, 13, 14] : List Int).all fun b => C0_okB (C_boulterlaw19_RexGroups 400 8 b true)) = true) := by kernel_rfl
theorem rexG_f_8_2 : ((([10, 11, 12, 13, 14] : List Int).all fun b => C0_okB (C_boulterlaw19_RexGroups 400 8 b false)) = true) := by kernel_rfl
theorem rexG_t_6_2 : ((([10, 11, 12, 13, 14] : List Int).all fun b => C0_okB (C_boulterlaw19_RexGroups 400 6 b true)) = true) := by kernel_rfl
theorem rexG_f_6_2 : ((([10, 11, 12, 13, 14] : List Int).all fun b => C0_okB (C_boulterlaw19_RexGroups 400 6 b false)) = true) := by kernel_rfl
theorem rexG_t_4_2 : ((([10, 11, 12, 13, 14] : List Int).all fun b => C0_okB (C_boulterlaw19_RexGroups 400 4 b true)) = true) := by kernel_rfl
theorem rexG_t_13_0 : ((([0, 1, 2, 3, 4] : List Int).all fun b => C0_okB (C_boulterlaw19_RexGroups 400 13 b true)) = true) := by kernel_rfl
theorem rexG_t_12_0 : ((([0, 1, 2, 3, 4] : List Int).all fun b => C0_okB (C_boulterlaw19_RexGroups 400 12 b true)) = true) := by kernel_rfl
theorem rexG_f_6_1 : ((([5, 6, 7, 8, 9] : List Int).all fun b => C0_okB (C_boulterlaw19_RexGroups 400 6 b false)) = true) := by kernel_rfl
theorem rexG_t_8_0 : ((([0, 1, 2, 3, 4] : List Int).all fun b => C0_okB (C_boulterlaw19_RexGroups 400 8 b true)) = true) := by kernel_rfl
theorem rexG_f_8_0 : ((([0, 1, 2, 3, 4] : List Int).all fun b => C0_okB (C_boulterlaw19_RexGroups 400 8 b false)) = true) := by kernel_rfl
theorem rexG_f_5_0 : ((([0, 1, 2, 3, 4] : List Int).all fun b => C0_okB (C_boulterlaw19_RexGroups 400 5 b false)) = true) := by kernel_rfl
theorem rexG_t_1_0 : ((([0, 1, 2, 3, 4] : List Int).all fun b => C0_okB (C_boulterlaw19_RexGroups 400 1 b true)) = true) := by kernel_rfl
end Go.Av.L
