/-
  RexGroups: cases, reckoned by the kernel on the twin.
-/
import Derived.Test.YtiodcbipjnmpgaaDoorRexGr
namespace Go.Av.L
open Go.Av
set_option maxRecDepth 100000
theorem rexG_t_19_3 : ((([15, 16, 17, 18, 19] : List Int).all fun b => C0_okB (C_boulterlaw19_RexGroups 400 19 b true)) = true) := by kernel_rfl
theorem rexG_t_18_2 : ((([10, 11, 12, 13, 14] : List Int).all fun b => C0_okB (C_boulterlaw19_RexGroups 400 18 b true)) = true) := by kernel_rfl
theorem rexG_t_16_2 : ((([10, 11, 12, 13, 14] : List Int).all fun b => C0_okB (C_boulterlaw19_RexGroups 400 16 b true)) = true) := by kernel_rfl
theorem rexG_t_15_2 : ((([10, 11, 12, 13, 14] : List Int).all fun b => C0_okB (C_boulterlaw19_RexGroups 400 15 b true)) = true) := by kernel_rfl
theorem rexG_f_14_2 : ((([10, 11, 12, 13, 14] : List Int).all fun b => C0_okB (C_boulterlaw19_RexGroups 400 14 b false)) = true) := by kernel_rfl
theorem rexG_f_12_2 : ((([10, 11, 12, 13, 14] : List Int).all fun b => C0_okB (C_boulterlaw19_RexGroups 400 12 b false)) = true) := by kernel_rfl
theorem rexG_f_11_2 : ((([10, 11, 12, 13, 14] : List Int).all fun b => C0_okB (C_boulterlaw19_RexGroups 400 11 b false)) = true) := by kernel_rfl
theorem rexG_t_9_2 : ((([10, 11, 12, 13, 14] : List Int).all fun b => C0_okB (C_boulterlaw19_RexGroups 400 9 b true)) = true) := by kernel_rfl
theorem rexG_f_9_2 : ((([10, 11, 12, 13, 14] : List Int).all fun b => C0_okB (C_boulterlaw19_RexGroups 400 9 b false)) = true) := by kernel_rfl
theorem rexG_t_7_2 : ((([10, 11, 12, 13, 14] : List Int).all fun b => C0_okB (C_boulterlaw19_RexGroups 400 7 b true)) = true) := by kernel_rfl
theorem rexG_f_7_2 : ((([10, 11, 12, 13, 14] : List Int).all fun b => C0_okB (C_boulterlaw19_RexGroups 400 7 b false)) = true) := by kernel_rfl
theorem rexG_t_5_2 : ((([10, 11, 12, 13, 14] : List Int).all fun b => C0_okB (C_boulterlaw19_RexGroups 400 5 b true)) = true) := by kernel_rfl
theorem rexG_f_5_2 : ((([10, 11, 12, 13, 14] : List Int).all fun b => C0_okB (C_boulterlaw19_RexGroups 400 5 b false)) = true) := by kernel_rfl
theorem rexG_f_8_1 : ((([5, 6, 7, 8, 9] : List Int).all fun b => C0_okB (C_boulterlaw19_RexGroups 400 8 b false)) = true) := by kernel_rfl
theorem rexG_f_7_1 : ((([5, 6, 7, 8, 9] : List Int).all fun b => C0_okB (C_boulterlaw19_RexGroups 400 7 b false)) = true) := by kernel_rfl
theorem rexG_t_0_2 : ((([10, 11, 12, 13, 14] : List Int).all fun b => C0_okB (C_boulterlaw19_RexGroups 400 0 b true)) = true) := by kernel_rfl
theorem rexG_t_9_0 : ((([0, 1, 2, 3, 4] : List Int).all fun b => C0_okB (C_boulterlaw19_RexGroups 400 9 b true)) = true) := by kernel_rfl
theorem rexG_t_7_0 : ((([0, 1, 2, 3, 4] : List Int).all fun b => C0_okB (C_boulterlaw19_RexGroups 400 7 b true)) = true) := by kernel_rfl
theorem rexG_t_5_0 : ((([0, 1, 2, 3, 4] : List Int).all fun b => C0_okB (C_boulterlaw19_RexGroups 400 5 b true)) = true) := by kernel_rfl
theorem rexG_t_3_0 : ((([0, 1, 2, 3, 4] : List Int).all fun b => C0_okB (C_boulterlaw19_RexGroups 400 3 b true)) = true) := by kernel_rfl
end Go.Av.L
