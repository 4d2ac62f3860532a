/-
  RexGroups: cases, reckoned by the kernel on the twin.
-/
import Derived.Test.YtiodcbipjnmpgaaDoorRexGr
namespace Go.Av.L
open Go.Av
set_option maxRecDepth 100000
theorem rexG_f_19_3 : ((([15, 16, 17, 18, 19] : List Int).all fun b => C0_okB (C_boulterlaw19_RexGroups 400 19 b false)) = true) := by kernel_rfl
theorem rexG_t_13_3 : ((([15, 16, 17, 18, 19] : List Int).all fun b => C0_okB (C_boulterlaw19_RexGroups 400 13 b true)) = true) := by kernel_rfl
theorem rexG_t_11_3 : ((([15, 16, 17, 18, 19] : List Int).all fun b => C0_okB (C_boulterlaw19_RexGroups 400 11 b true)) = true) := by kernel_rfl
theorem rexG_t_10_3 : ((([15, 16, 17, 18, 19] : List Int).all fun b => C0_okB (C_boulterlaw19_RexGroups 400 10 b true)) = true) := by kernel_rfl
theorem rexG_f_9_3 : ((([15, 16, 17, 18, 19] : List Int).all fun b => C0_okB (C_boulterlaw19_RexGroups 400 9 b false)) = true) := by kernel_rfl
theorem rexG_f_7_3 : ((([15, 16, 17, 18, 19] : List Int).all fun b => C0_okB (C_boulterlaw19_RexGroups 400 7 b false)) = true) := by kernel_rfl
theorem rexG_f_6_3 : ((([15, 16, 17, 18, 19] : List Int).all fun b => C0_okB (C_boulterlaw19_RexGroups 400 6 b false)) = true) := by kernel_rfl
theorem rexG_t_4_3 : ((([15, 16, 17, 18, 19] : List Int).all fun b => C0_okB (C_boulterlaw19_RexGroups 400 4 b true)) = true) := by kernel_rfl
theorem rexG_f_4_3 : ((([15, 16, 17, 18, 19] : List Int).all fun b => C0_okB (C_boulterlaw19_RexGroups 400 4 b false)) = true) := by kernel_rfl
theorem rexG_t_2_3 : ((([15, 16, 17, 18, 19] : List Int).all fun b => C0_okB (C_boulterlaw19_RexGroups 400 2 b true)) = true) := by kernel_rfl
theorem rexG_f_2_3 : ((([15, 16, 17, 18, 19] : List Int).all fun b => C0_okB (C_boulterlaw19_RexGroups 400 2 b false)) = true) := by kernel_rfl
theorem rexG_t_0_3 : ((([15, 16, 17, 18, 19] : List Int).all fun b => C0_okB (C_boulterlaw19_RexGroups 400 0 b true)) = true) := by kernel_rfl
theorem rexG_f_0_3 : ((([15, 16, 17, 18, 19] : List Int).all fun b => C0_okB (C_boulterlaw19_RexGroups 400 0 b false)) = true) := by kernel_rfl
theorem rexG_f_3_2 : ((([10, 11, 12, 13, 14] : List Int).all fun b => C0_okB (C_boulterlaw19_RexGroups 400 3 b false)) = true) := by kernel_rfl
theorem rexG_f_2_2 : ((([10, 11, 12, 13, 14] : List Int).all fun b => C0_okB (C_boulterlaw19_RexGroups 400 2 b false)) = true) := by kernel_rfl
theorem rexG_f_10_0 : ((([0, 1, 2, 3, 4] : List Int).all fun b => C0_okB (C_boulterlaw19_RexGroups 400 10 b false)) = true) := by kernel_rfl
theorem rexG_t_4_1 : ((([5, 6, 7, 8, 9] : List Int).all fun b => C0_okB (C_boulterlaw19_RexGroups 400 4 b true)) = true) := by kernel_rfl
theorem rexG_t_2_1 : ((([5, 6, 7, 8, 9] : List Int).all fun b => C0_okB (C_boulterlaw19_RexGroups 400 2 b true)) = true) := by kernel_rfl
theorem rexG_t_0_1 : ((([5, 6, 7, 8, 9] : List Int).all fun b => C0_okB (C_boulterlaw19_RexGroups 400 0 b true)) = true) := by kernel_rfl
theorem rexG_f_3_0 : ((([0, 1, 2, 3, 4] : List Int).all fun b => C0_okB (C_boulterlaw19_RexGroups 400 3 b false)) = true) := by kernel_rfl
end Go.Av.L
