/-
  RexGroups: cases, reckoned by the kernel on the twin.
-/
import Derived.Test.YtiodcbipjnmpgaaDoorRexGr
namespace Go.Av.L
open Go.Av
set_option maxRecDepth 100000
theorem rexG_f_16_3 : ((([15, 16, 17, 18, 19] : List Int).all fun b => C0_okB (C_boulterlaw19_RexGroups 400 16 b false)) = true) := by kernel_rfl
theorem rexG_f_15_3 : ((([15, 16, 17, 18, 19] : List Int).all fun b => C0_okB (C_boulterlaw19_RexGroups 400 15 b false)) = true) := by kernel_rfl
theorem rexG_f_13_3 : ((([15, 16, 17, 18, 19] : List Int).all fun b => C0_okB (C_boulterlaw19_RexGroups 400 13 b false)) = true) := by kernel_rfl
theorem rexG_f_10_3 : ((([15, 16, 17, 18, 19] : List Int).all fun b => C0_okB (C_boulterlaw19_RexGroups 400 10 b false)) = true) := by kernel_rfl
theorem rexG_t_13_2 : ((([10, 11, 12, 13, 14] : List Int).all fun b => C0_okB (C_boulterlaw19_RexGroups 400 13 b true)) = true) := by kernel_rfl
theorem rexG_f_8_3 : ((([15, 16, 17, 18, 19] : List Int).all fun b => C0_okB (C_boulterlaw19_RexGroups 400 8 b false)) = true) := by kernel_rfl
theorem rexG_t_10_2 : ((([10, 11, 12, 13, 14] : List Int).all fun b => C0_okB (C_boulterlaw19_RexGroups 400 10 b true)) = true) := by kernel_rfl
theorem rexG_f_5_3 : ((([15, 16, 17, 18, 19] : List Int).all fun b => C0_okB (C_boulterlaw19_RexGroups 400 5 b false)) = true) := by kernel_rfl
theorem rexG_t_3_3 : ((([15, 16, 17, 18, 19] : List Int).all fun b => C0_okB (C_boulterlaw19_RexGroups 400 3 b true)) = true) := by kernel_rfl
theorem rexG_f_3_3 : ((([15, 16, 17, 18, 19] : List Int).all fun b => C0_okB (C_boulterlaw19_RexGroups 400 3 b false)) = true) := by kernel_rfl
theorem rexG_t_1_3 : ((([15, 16, 17, 18, 19] : List Int).all fun b => C0_okB (C_boulterlaw19_RexGroups 400 1 b true)) = true) := by kernel_rfl
theorem rexG_f_1_3 : ((([15, 16, 17, 18, 19] : List Int).all fun b => C0_okB (C_boulterlaw19_RexGroups 400 1 b false)) = true) := by kernel_rfl
theorem rexG_f_14_0 : ((([0, 1, 2, 3, 4] : List Int).all fun b => C0_okB (C_boulterlaw19_RexGroups 400 14 b false)) = true) := by kernel_rfl
theorem rexG_t_8_1 : ((([5, 6, 7, 8, 9] : List Int).all fun b => C0_okB (C_boulterlaw19_RexGroups 400 8 b true)) = true) := by kernel_rfl
theorem rexG_t_7_1 : ((([5, 6, 7, 8, 9] : List Int).all fun b => C0_okB (C_boulterlaw19_RexGroups 400 7 b true)) = true) := by kernel_rfl
theorem rexG_f_1_2 : ((([10, 11, 12, 13, 14] : List Int).all fun b => C0_okB (C_boulterlaw19_RexGroups 400 1 b false)) = true) := by kernel_rfl
theorem rexG_t_3_1 : ((([5, 6, 7, 8, 9] : List Int).all fun b => C0_okB (C_boulterlaw19_RexGroups 400 3 b true)) = true) := by kernel_rfl
theorem rexG_f_3_1 : ((([5, 6, 7, 8, 9] : List Int).all fun b => C0_okB (C_boulterlaw19_RexGroups 400 3 b false)) = true) := by kernel_rfl
theorem rexG_f_0_1 : ((([5, 6, 7, 8, 9] : List Int).all fun b => C0_okB (C_boulterlaw19_RexGroups 400 0 b false)) = true) := by kernel_rfl
theorem rexG_f_1_0 : ((([0, 1, 2, 3, 4] : List Int).all fun b => C0_okB (C_boulterlaw19_RexGroups 400 1 b false)) = true) := by kernel_rfl
end Go.Av.L
