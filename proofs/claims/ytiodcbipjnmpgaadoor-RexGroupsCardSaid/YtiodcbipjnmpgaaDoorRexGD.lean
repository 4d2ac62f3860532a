/-
  RexGroups: cases, reckoned by the kernel on the twin.
-/
import Derived.Test.YtiodcbipjnmpgaaDoorRexGr
namespace Go.Av.L
open Go.Av
set_option maxRecDepth 100000
theorem rexG_f_18_3 : ((([15, 16, 17, 18, 19] : List Int).all fun b => C0_okB (C_boulterlaw19_RexGroups 400 18 b false)) = true) := by kernel_rfl
theorem rexG_f_14_3 : ((([15, 16, 17, 18, 19] : List Int).all fun b => C0_okB (C_boulterlaw19_RexGroups 400 14 b false)) = true) := by kernel_rfl
theorem rexG_f_12_3 : ((([15, 16, 17, 18, 19] : List Int).all fun b => C0_okB (C_boulterlaw19_RexGroups 400 12 b false)) = true) := by kernel_rfl
theorem rexG_t_14_2 : ((([10, 11, 12, 13, 14] : List Int).all fun b => C0_okB (C_boulterlaw19_RexGroups 400 14 b true)) = true) := by kernel_rfl
theorem rexG_f_19_1 : ((([5, 6, 7, 8, 9] : List Int).all fun b => C0_okB (C_boulterlaw19_RexGroups 400 19 b false)) = true) := by kernel_rfl
theorem rexG_f_17_1 : ((([5, 6, 7, 8, 9] : List Int).all fun b => C0_okB (C_boulterlaw19_RexGroups 400 17 b false)) = true) := by kernel_rfl
theorem rexG_f_16_1 : ((([5, 6, 7, 8, 9] : List Int).all fun b => C0_okB (C_boulterlaw19_RexGroups 400 16 b false)) = true) := by kernel_rfl
theorem rexG_t_14_1 : ((([5, 6, 7, 8, 9] : List Int).all fun b => C0_okB (C_boulterlaw19_RexGroups 400 14 b true)) = true) := by kernel_rfl
theorem rexG_f_14_1 : ((([5, 6, 7, 8, 9] : List Int).all fun b => C0_okB (C_boulterlaw19_RexGroups 400 14 b false)) = true) := by kernel_rfl
theorem rexG_t_12_1 : ((([5, 6, 7, 8, 9] : List Int).all fun b => C0_okB (C_boulterlaw19_RexGroups 400 12 b true)) = true) := by kernel_rfl
theorem rexG_f_12_1 : ((([5, 6, 7, 8, 9] : List Int).all fun b => C0_okB (C_boulterlaw19_RexGroups 400 12 b false)) = true) := by kernel_rfl
theorem rexG_t_10_1 : ((([5, 6, 7, 8, 9] : List Int).all fun b => C0_okB (C_boulterlaw19_RexGroups 400 10 b true)) = true) := by kernel_rfl
theorem rexG_f_10_1 : ((([5, 6, 7, 8, 9] : List Int).all fun b => C0_okB (C_boulterlaw19_RexGroups 400 10 b false)) = true) := by kernel_rfl
theorem rexG_f_13_0 : ((([0, 1, 2, 3, 4] : List Int).all fun b => C0_okB (C_boulterlaw19_RexGroups 400 13 b false)) = true) := by kernel_rfl
theorem rexG_f_12_0 : ((([0, 1, 2, 3, 4] : List Int).all fun b => C0_okB (C_boulterlaw19_RexGroups 400 12 b false)) = true) := by kernel_rfl
theorem rexG_t_5_1 : ((([5, 6, 7, 8, 9] : List Int).all fun b => C0_okB (C_boulterlaw19_RexGroups 400 5 b true)) = true) := by kernel_rfl
theorem rexG_f_0_2 : ((([10, 11, 12, 13, 14] : List Int).all fun b => C0_okB (C_boulterlaw19_RexGroups 400 0 b false)) = true) := by kernel_rfl
theorem rexG_t_1_1 : ((([5, 6, 7, 8, 9] : List Int).all fun b => C0_okB (C_boulterlaw19_RexGroups 400 1 b true)) = true) := by kernel_rfl
theorem rexG_f_1_1 : ((([5, 6, 7, 8, 9] : List Int).all fun b => C0_okB (C_boulterlaw19_RexGroups 400 1 b false)) = true) := by kernel_rfl
theorem rexG_f_0_0 : ((([0, 1, 2, 3, 4] : List Int).all fun b => C0_okB (C_boulterlaw19_RexGroups 400 0 b false)) = true) := by kernel_rfl
end Go.Av.L
