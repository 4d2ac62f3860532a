/-
  RexGroups: cases, reckoned by the kernel on the twin.
-/
import Derived.Test.YtiodcbipjnmpgaaDoorRexGr
namespace Go.Av.L
open Go.Av
set_option maxRecDepth 100000
theorem rexG_f_17_3 : ((([15, 16, 17, 18, 19] : List Int).all fun b => C0_okB (C_boulterlaw19_RexGroups 400 17 b false)) = true) := by kernel_rfl
theorem rexG_t_14_3 : ((([15, 16, 17, 18, 19] : List Int).all fun b => C0_okB (C_boulterlaw19_RexGroups 400 14 b true)) = true) := by kernel_rfl
theorem rexG_t_12_3 : ((([15, 16, 17, 18, 19] : List Int).all fun b => C0_okB (C_boulterlaw19_RexGroups 400 12 b true)) = true) := by kernel_rfl
theorem rexG_f_11_3 : ((([15, 16, 17, 18, 19] : List Int).all fun b => C0_okB (C_boulterlaw19_RexGroups 400 11 b false)) = true) := by kernel_rfl
theorem rexG_f_18_1 : ((([5, 6, 7, 8, 9] : List Int).all fun b => C0_okB (C_boulterlaw19_RexGroups 400 18 b false)) = true) := by kernel_rfl
theorem rexG_t_12_2 : ((([10, 11, 12, 13, 14] : List Int).all fun b => C0_okB (C_boulterlaw19_RexGroups 400 12 b true)) = true) := by kernel_rfl
theorem rexG_t_11_2 : ((([10, 11, 12, 13, 14] : List Int).all fun b => C0_okB (C_boulterlaw19_RexGroups 400 11 b true)) = true) := by kernel_rfl
theorem rexG_f_15_1 : ((([5, 6, 7, 8, 9] : List Int).all fun b => C0_okB (C_boulterlaw19_RexGroups 400 15 b false)) = true) := by kernel_rfl
theorem rexG_t_13_1 : ((([5, 6, 7, 8, 9] : List Int).all fun b => C0_okB (C_boulterlaw19_RexGroups 400 13 b true)) = true) := by kernel_rfl
theorem rexG_f_13_1 : ((([5, 6, 7, 8, 9] : List Int).all fun b => C0_okB (C_boulterlaw19_RexGroups 400 13 b false)) = true) := by kernel_rfl
theorem rexG_t_11_1 : ((([5, 6, 7, 8, 9] : List Int).all fun b => C0_okB (C_boulterlaw19_RexGroups 400 11 b true)) = true) := by kernel_rfl
theorem rexG_f_11_1 : ((([5, 6, 7, 8, 9] : List Int).all fun b => C0_okB (C_boulterlaw19_RexGroups 400 11 b false)) = true) := by kernel_rfl
theorem rexG_t_9_1 : ((([5, 6, 7, 8, 9] : List Int).all fun b => C0_okB (C_boulterlaw19_RexGroups 400 9 b true)) = true) := by kernel_rfl
theorem rexG_f_4_2 : ((([10, 11, 12, 13, 14] : List Int).all fun b => C0_okB (C_boulterlaw19_RexGroups 400 4 b false)) = true) := by kernel_rfl
theorem rexG_t_6_1 : ((([5, 6, 7, 8, 9] : List Int).all fun b => C0_okB (C_boulterlaw19_RexGroups 400 6 b true)) = true) := by kernel_rfl
theorem rexG_f_11_0 : ((([0, 1, 2, 3, 4] : List Int).all fun b => C0_okB (C_boulterlaw19_RexGroups 400 11 b false)) = true) := by kernel_rfl
theorem rexG_f_4_1 : ((([5, 6, 7, 8, 9] : List Int).all fun b => C0_okB (C_boulterlaw19_RexGroups 400 4 b false)) = true) := by kernel_rfl
theorem rexG_f_2_1 : ((([5, 6, 7, 8, 9] : List Int).all fun b => C0_okB (C_boulterlaw19_RexGroups 400 2 b false)) = true) := by kernel_rfl
theorem rexG_f_4_0 : ((([0, 1, 2, 3, 4] : List Int).all fun b => C0_okB (C_boulterlaw19_RexGroups 400 4 b false)) = true) := by kernel_rfl
theorem rexG_f_2_0 : ((([0, 1, 2, 3, 4] : List Int).all fun b => C0_okB (C_boulterlaw19_RexGroups 400 2 b false)) = true) := by kernel_rfl
end Go.Av.L
