/-
  RexGroups: groups are numbered as they open, whatever stands in them.
-/
import Derived.Test.YtiodcbipjnmpgaaDoorRexGA
import Derived.Test.YtiodcbipjnmpgaaDoorRexGB
import Derived.Test.YtiodcbipjnmpgaaDoorRexGC
import Derived.Test.YtiodcbipjnmpgaaDoorRexGD
import Derived.Test.YtiodcbipjnmpgaaDoorRexGE
import Derived.Test.YtiodcbipjnmpgaaDoorRexGF
import Derived.Test.YtiodcbipjnmpgaaDoorRexGG
import Derived.Test.YtiodcbipjnmpgaaDoorRexGH
import Derived.Test.YtiodcbipjnmpgaaDoorAvNum
namespace Go.Av.L
open Go.Av
set_option linter.unusedVariables false
set_option linter.unusedSimpArgs false

theorem rexG_f_0 : ((([0, 1, 2, 3, 4, 5, 6, 7, 8, 9, 10, 11, 12, 13, 14, 15, 16, 17, 18, 19] : List Int).all fun b => C0_okB (C_boulterlaw19_RexGroups 400 0 b false)) = true) := by
  have h := Bool.and_eq_true_iff.2 ⟨rexG_f_0_0, Bool.and_eq_true_iff.2 ⟨rexG_f_0_1, Bool.and_eq_true_iff.2 ⟨rexG_f_0_2, rexG_f_0_3⟩⟩⟩
  rw [← List.all_append, ← List.all_append, ← List.all_append] at h
  exact h
theorem rexG_f_1 : ((([0, 1, 2, 3, 4, 5, 6, 7, 8, 9, 10, 11, 12, 13, 14, 15, 16, 17, 18, 19] : List Int).all fun b => C0_okB (C_boulterlaw19_RexGroups 400 1 b false)) = true) := by
  have h := Bool.and_eq_true_iff.2 ⟨rexG_f_1_0, Bool.and_eq_true_iff.2 ⟨rexG_f_1_1, Bool.and_eq_true_iff.2 ⟨rexG_f_1_2, rexG_f_1_3⟩⟩⟩
  rw [← List.all_append, ← List.all_append, ← List.all_append] at h
  exact h
theorem rexG_f_2 : ((([0, 1, 2, 3, 4, 5, 6, 7, 8, 9, 10, 11, 12, 13, 14, 15, 16, 17, 18, 19] : List Int).all fun b => C0_okB (C_boulterlaw19_RexGroups 400 2 b false)) = true) := by
  have h := Bool.and_eq_true_iff.2 ⟨rexG_f_2_0, Bool.and_eq_true_iff.2 ⟨rexG_f_2_1, Bool.and_eq_true_iff.2 ⟨rexG_f_2_2, rexG_f_2_3⟩⟩⟩
  rw [← List.all_append, ← List.all_append, ← List.all_append] at h
  exact h
theorem rexG_f_3 : ((([0, 1, 2, 3, 4, 5, 6, 7, 8, 9, 10, 11, 12, 13, 14, 15, 16, 17, 18, 19] : List Int).all fun b => C0_okB (C_boulterlaw19_RexGroups 400 3 b false)) = true) := by
  have h := Bool.and_eq_true_iff.2 ⟨rexG_f_3_0, Bool.and_eq_true_iff.2 ⟨rexG_f_3_1, Bool.and_eq_true_iff.2 ⟨rexG_f_3_2, rexG_f_3_3⟩⟩⟩
  rw [← List.all_append, ← List.all_append, ← List.all_append] at h
  exact h
theorem rexG_f_4 : ((([0, 1, 2, 3, 4, 5, 6, 7, 8, 9, 10, 11, 12, 13, 14, 15, 16, 17, 18, 19] : List Int).all fun b => C0_okB (C_boulterlaw19_RexGroups 400 4 b false)) = true) := by
  have h := Bool.and_eq_true_iff.2 ⟨rexG_f_4_0, Bool.and_eq_true_iff.2 ⟨rexG_f_4_1, Bool.and_eq_true_iff.2 ⟨rexG_f_4_2, rexG_f_4_3⟩⟩⟩
  rw [← List.all_append, ← List.all_append, ← List.all_append] at h
  exact h
theorem rexG_f_5 : ((([0, 1, 2, 3, 4, 5, 6, 7, 8, 9, 10, 11, 12, 13, 14, 15, 16, 17, 18, 19] : List Int).all fun b => C0_okB (C_boulterlaw19_RexGroups 400 5 b false)) = true) := by
  have h := Bool.and_eq_true_iff.2 ⟨rexG_f_5_0, Bool.and_eq_true_iff.2 ⟨rexG_f_5_1, Bool.and_eq_true_iff.2 ⟨rexG_f_5_2, rexG_f_5_3⟩⟩⟩
  rw [← List.all_append, ← List.all_append, ← List.all_append] at h
  exact h
theorem rexG_f_6 : ((([0, 1, 2, 3, 4, 5, 6, 7, 8, 9, 10, 11, 12, 13, 14, 15, 16, 17, 18, 19] : List Int).all fun b => C0_okB (C_boulterlaw19_RexGroups 400 6 b false)) = true) := by
  have h := Bool.and_eq_true_iff.2 ⟨rexG_f_6_0, Bool.and_eq_true_iff.2 ⟨rexG_f_6_1, Bool.and_eq_true_iff.2 ⟨rexG_f_6_2, rexG_f_6_3⟩⟩⟩
  rw [← List.all_append, ← List.all_append, ← List.all_append] at h
  exact h
theorem rexG_f_7 : ((([0, 1, 2, 3, 4, 5, 6, 7, 8, 9, 10, 11, 12, 13, 14, 15, 16, 17, 18, 19] : List Int).all fun b => C0_okB (C_boulterlaw19_RexGroups 400 7 b false)) = true) := by
  have h := Bool.and_eq_true_iff.2 ⟨rexG_f_7_0, Bool.and_eq_true_iff.2 ⟨rexG_f_7_1, Bool.and_eq_true_iff.2 ⟨rexG_f_7_2, rexG_f_7_3⟩⟩⟩
  rw [← List.all_append, ← List.all_append, ← List.all_append] at h
  exact h
theorem rexG_f_8 : ((([0, 1, 2, 3, 4, 5, 6, 7, 8, 9, 10, 11, 12, 13, 14, 15, 16, 17, 18, 19] : List Int).all fun b => C0_okB (C_boulterlaw19_RexGroups 400 8 b false)) = true) := by
  have h := Bool.and_eq_true_iff.2 ⟨rexG_f_8_0, Bool.and_eq_true_iff.2 ⟨rexG_f_8_1, Bool.and_eq_true_iff.2 ⟨rexG_f_8_2, rexG_f_8_3⟩⟩⟩
  rw [← List.all_append, ← List.all_append, ← List.all_append] at h
  exact h
theorem rexG_f_9 : ((([0, 1, 2, 3, 4, 5, 6, 7, 8, 9, 10, 11, 12, 13, 14, 15, 16, 17, 18, 19] : List Int).all fun b => C0_okB (C_boulterlaw19_RexGroups 400 9 b false)) = true) := by
  have h := Bool.and_eq_true_iff.2 ⟨rexG_f_9_0, Bool.and_eq_true_iff.2 ⟨rexG_f_9_1, Bool.and_eq_true_iff.2 ⟨rexG_f_9_2, rexG_f_9_3⟩⟩⟩
  rw [← List.all_append, ← List.all_append, ← List.all_append] at h
  exact h
theorem rexG_f_10 : ((([0, 1, 2, 3, 4, 5, 6, 7, 8, 9, 10, 11, 12, 13, 14, 15, 16, 17, 18, 19] : List Int).all fun b => C0_okB (C_boulterlaw19_RexGroups 400 10 b false)) = true) := by
  have h := Bool.and_eq_true_iff.2 ⟨rexG_f_10_0, Bool.and_eq_true_iff.2 ⟨rexG_f_10_1, Bool.and_eq_true_iff.2 ⟨rexG_f_10_2, rexG_f_10_3⟩⟩⟩
  rw [← List.all_append, ← List.all_append, ← List.all_append] at h
  exact h
theorem rexG_f_11 : ((([0, 1, 2, 3, 4, 5, 6, 7, 8, 9, 10, 11, 12, 13, 14, 15, 16, 17, 18, 19] : List Int).all fun b => C0_okB (C_boulterlaw19_RexGroups 400 11 b false)) = true) := by
  have h := Bool.and_eq_true_iff.2 ⟨rexG_f_11_0, Bool.and_eq_true_iff.2 ⟨rexG_f_11_1, Bool.and_eq_true_iff.2 ⟨rexG_f_11_2, rexG_f_11_3⟩⟩⟩
  rw [← List.all_append, ← List.all_append, ← List.all_append] at h
  exact h
theorem rexG_f_12 : ((([0, 1, 2, 3, 4, 5, 6, 7, 8, 9, 10, 11, 12, 13, 14, 15, 16, 17, 18, 19] : List Int).all fun b => C0_okB (C_boulterlaw19_RexGroups 400 12 b false)) = true) := by
  have h := Bool.and_eq_true_iff.2 ⟨rexG_f_12_0, Bool.and_eq_true_iff.2 ⟨rexG_f_12_1, Bool.and_eq_true_iff.2 ⟨rexG_f_12_2, rexG_f_12_3⟩⟩⟩
  rw [← List.all_append, ← List.all_append, ← List.all_append] at h
  exact h
theorem rexG_f_13 : ((([0, 1, 2, 3, 4, 5, 6, 7, 8, 9, 10, 11, 12, 13, 14, 15, 16, 17, 18, 19] : List Int).all fun b => C0_okB (C_boulterlaw19_RexGroups 400 13 b false)) = true) := by
  have h := Bool.and_eq_true_iff.2 ⟨rexG_f_13_0, Bool.and_eq_true_iff.2 ⟨rexG_f_13_1, Bool.and_eq_true_iff.2 ⟨rexG_f_13_2, rexG_f_13_3⟩⟩⟩
  rw [← List.all_append, ← List.all_append, ← List.all_append] at h
  exact h
theorem rexG_f_14 : ((([0, 1, 2, 3, 4, 5, 6, 7, 8, 9, 10, 11, 12, 13, 14, 15, 16, 17, 18, 19] : List Int).all fun b => C0_okB (C_boulterlaw19_RexGroups 400 14 b false)) = true) := by
  have h := Bool.and_eq_true_iff.2 ⟨rexG_f_14_0, Bool.and_eq_true_iff.2 ⟨rexG_f_14_1, Bool.and_eq_true_iff.2 ⟨rexG_f_14_2, rexG_f_14_3⟩⟩⟩
  rw [← List.all_append, ← List.all_append, ← List.all_append] at h
  exact h
theorem rexG_f_15 : ((([0, 1, 2, 3, 4, 5, 6, 7, 8, 9, 10, 11, 12, 13, 14, 15, 16, 17, 18, 19] : List Int).all fun b => C0_okB (C_boulterlaw19_RexGroups 400 15 b false)) = true) := by
  have h := Bool.and_eq_true_iff.2 ⟨rexG_f_15_0, Bool.and_eq_true_iff.2 ⟨rexG_f_15_1, Bool.and_eq_true_iff.2 ⟨rexG_f_15_2, rexG_f_15_3⟩⟩⟩
  rw [← List.all_append, ← List.all_append, ← List.all_append] at h
  exact h
theorem rexG_f_16 : ((([0, 1, 2, 3, 4, 5, 6, 7, 8, 9, 10, 11, 12, 13, 14, 15, 16, 17, 18, 19] : List Int).all fun b => C0_okB (C_boulterlaw19_RexGroups 400 16 b false)) = true) := by
  have h := Bool.and_eq_true_iff.2 ⟨rexG_f_16_0, Bool.and_eq_true_iff.2 ⟨rexG_f_16_1, Bool.and_eq_true_iff.2 ⟨rexG_f_16_2, rexG_f_16_3⟩⟩⟩
  rw [← List.all_append, ← List.all_append, ← List.all_append] at h
  exact h
theorem rexG_f_17 : ((([0, 1, 2, 3, 4, 5, 6, 7, 8, 9, 10, 11, 12, 13, 14, 15, 16, 17, 18, 19] : List Int).all fun b => C0_okB (C_boulterlaw19_RexGroups 400 17 b false)) = true) := by
  have h := Bool.and_eq_true_iff.2 ⟨rexG_f_17_0, Bool.and_eq_true_iff.2 ⟨rexG_f_17_1, Bool.and_eq_true_iff.2 ⟨rexG_f_17_2, rexG_f_17_3⟩⟩⟩
  rw [← List.all_append, ← List.all_append, ← List.all_append] at h
  exact h
theorem rexG_f_18 : ((([0, 1, 2, 3, 4, 5, 6, 7, 8, 9, 10, 11, 12, 13, 14, 15, 16, 17, 18, 19] : List Int).all fun b => C0_okB (C_boulterlaw19_RexGroups 400 18 b false)) = true) := by
  have h := Bool.and_eq_true_iff.2 ⟨rexG_f_18_0, Bool.and_eq_true_iff.2 ⟨rexG_f_18_1, Bool.and_eq_true_iff.2 ⟨rexG_f_18_2, rexG_f_18_3⟩⟩⟩
  rw [← List.all_append, ← List.all_append, ← List.all_append] at h
  exact h
theorem rexG_f_19 : ((([0, 1, 2, 3, 4, 5, 6, 7, 8, 9, 10, 11, 12, 13, 14, 15, 16, 17, 18, 19] : List Int).all fun b => C0_okB (C_boulterlaw19_RexGroups 400 19 b false)) = true) := by
  have h := Bool.and_eq_true_iff.2 ⟨rexG_f_19_0, Bool.and_eq_true_iff.2 ⟨rexG_f_19_1, Bool.and_eq_true_iff.2 ⟨rexG_f_19_2, rexG_f_19_3⟩⟩⟩
  rw [← List.all_append, ← List.all_append, ← List.all_append] at h
  exact h
theorem rexG_t_0 : ((([0, 1, 2, 3, 4, 5, 6, 7, 8, 9, 10, 11, 12, 13, 14, 15, 16, 17, 18, 19] : List Int).all fun b => C0_okB (C_boulterlaw19_RexGroups 400 0 b true)) = true) := by
  have h := Bool.and_eq_true_iff.2 ⟨rexG_t_0_0, Bool.and_eq_true_iff.2 ⟨rexG_t_0_1, Bool.and_eq_true_iff.2 ⟨rexG_t_0_2, rexG_t_0_3⟩⟩⟩
  rw [← List.all_append, ← List.all_append, ← List.all_append] at h
  exact h
theorem rexG_t_1 : ((([0, 1, 2, 3, 4, 5, 6, 7, 8, 9, 10, 11, 12, 13, 14, 15, 16, 17, 18, 19] : List Int).all fun b => C0_okB (C_boulterlaw19_RexGroups 400 1 b true)) = true) := by
  have h := Bool.and_eq_true_iff.2 ⟨rexG_t_1_0, Bool.and_eq_true_iff.2 ⟨rexG_t_1_1, Bool.and_eq_true_iff.2 ⟨rexG_t_1_2, rexG_t_1_3⟩⟩⟩
  rw [← List.all_append, ← List.all_append, ← List.all_append] at h
  exact h
theorem rexG_t_2 : ((([0, 1, 2, 3, 4, 5, 6, 7, 8, 9, 10, 11, 12, 13, 14, 15, 16, 17, 18, 19] : List Int).all fun b => C0_okB (C_boulterlaw19_RexGroups 400 2 b true)) = true) := by
  have h := Bool.and_eq_true_iff.2 ⟨rexG_t_2_0, Bool.and_eq_true_iff.2 ⟨rexG_t_2_1, Bool.and_eq_true_iff.2 ⟨rexG_t_2_2, rexG_t_2_3⟩⟩⟩
  rw [← List.all_append, ← List.all_append, ← List.all_append] at h
  exact h
theorem rexG_t_3 : ((([0, 1, 2, 3, 4, 5, 6, 7, 8, 9, 10, 11, 12, 13, 14, 15, 16, 17, 18, 19] : List Int).all fun b => C0_okB (C_boulterlaw19_RexGroups 400 3 b true)) = true) := by
  have h := Bool.and_eq_true_iff.2 ⟨rexG_t_3_0, Bool.and_eq_true_iff.2 ⟨rexG_t_3_1, Bool.and_eq_true_iff.2 ⟨rexG_t_3_2, rexG_t_3_3⟩⟩⟩
  rw [← List.all_append, ← List.all_append, ← List.all_append] at h
  exact h
theorem rexG_t_4 : ((([0, 1, 2, 3, 4, 5, 6, 7, 8, 9, 10, 11, 12, 13, 14, 15, 16, 17, 18, 19] : List Int).all fun b => C0_okB (C_boulterlaw19_RexGroups 400 4 b true)) = true) := by
  have h := Bool.and_eq_true_iff.2 ⟨rexG_t_4_0, Bool.and_eq_true_iff.2 ⟨rexG_t_4_1, Bool.and_eq_true_iff.2 ⟨rexG_t_4_2, rexG_t_4_3⟩⟩⟩
  rw [← List.all_append, ← List.all_append, ← List.all_append] at h
  exact h
theorem rexG_t_5 : ((([0, 1, 2, 3, 4, 5, 6, 7, 8, 9, 10, 11, 12, 13, 14, 15, 16, 17, 18, 19] : List Int).all fun b => C0_okB (C_boulterlaw19_RexGroups 400 5 b true)) = true) := by
  have h := Bool.and_eq_true_iff.2 ⟨rexG_t_5_0, Bool.and_eq_true_iff.2 ⟨rexG_t_5_1, Bool.and_eq_true_iff.2 ⟨rexG_t_5_2, rexG_t_5_3⟩⟩⟩
  rw [← List.all_append, ← List.all_append, ← List.all_append] at h
  exact h
theorem rexG_t_6 : ((([0, 1, 2, 3, 4, 5, 6, 7, 8, 9, 10, 11, 12, 13, 14, 15, 16, 17, 18, 19] : List Int).all fun b => C0_okB (C_boulterlaw19_RexGroups 400 6 b true)) = true) := by
  have h := Bool.and_eq_true_iff.2 ⟨rexG_t_6_0, Bool.and_eq_true_iff.2 ⟨rexG_t_6_1, Bool.and_eq_true_iff.2 ⟨rexG_t_6_2, rexG_t_6_3⟩⟩⟩
  rw [← List.all_append, ← List.all_append, ← List.all_append] at h
  exact h
theorem rexG_t_7 : ((([0, 1, 2, 3, 4, 5, 6, 7, 8, 9, 10, 11, 12, 13, 14, 15, 16, 17, 18, 19] : List Int).all fun b => C0_okB (C_boulterlaw19_RexGroups 400 7 b true)) = true) := by
  have h := Bool.and_eq_true_iff.2 ⟨rexG_t_7_0, Bool.and_eq_true_iff.2 ⟨rexG_t_7_1, Bool.and_eq_true_iff.2 ⟨rexG_t_7_2, rexG_t_7_3⟩⟩⟩
  rw [← List.all_append, ← List.all_append, ← List.all_append] at h
  exact h
theorem rexG_t_8 : ((([0, 1, 2, 3, 4, 5, 6, 7, 8, 9, 10, 11, 12, 13, 14, 15, 16, 17, 18, 19] : List Int).all fun b => C0_okB (C_boulterlaw19_RexGroups 400 8 b true)) = true) := by
  have h := Bool.and_eq_true_iff.2 ⟨rexG_t_8_0, Bool.and_eq_true_iff.2 ⟨rexG_t_8_1, Bool.and_eq_true_iff.2 ⟨rexG_t_8_2, rexG_t_8_3⟩⟩⟩
  rw [← List.all_append, ← List.all_append, ← List.all_append] at h
  exact h
theorem rexG_t_9 : ((([0, 1, 2, 3, 4, 5, 6, 7, 8, 9, 10, 11, 12, 13, 14, 15, 16, 17, 18, 19] : List Int).all fun b => C0_okB (C_boulterlaw19_RexGroups 400 9 b true)) = true) := by
  have h := Bool.and_eq_true_iff.2 ⟨rexG_t_9_0, Bool.and_eq_true_iff.2 ⟨rexG_t_9_1, Bool.and_eq_true_iff.2 ⟨rexG_t_9_2, rexG_t_9_3⟩⟩⟩
  rw [← List.all_append, ← List.all_append, ← List.all_append] at h
  exact h
theorem rexG_t_10 : ((([0, 1, 2, 3, 4, 5, 6, 7, 8, 9, 10, 11, 12, 13, 14, 15, 16, 17, 18, 19] : List Int).all fun b => C0_okB (C_boulterlaw19_RexGroups 400 10 b true)) = true) := by
  have h := Bool.and_eq_true_iff.2 ⟨rexG_t_10_0, Bool.and_eq_true_iff.2 ⟨rexG_t_10_1, Bool.and_eq_true_iff.2 ⟨rexG_t_10_2, rexG_t_10_3⟩⟩⟩
  rw [← List.all_append, ← List.all_append, ← List.all_append] at h
  exact h
theorem rexG_t_11 : ((([0, 1, 2, 3, 4, 5, 6, 7, 8, 9, 10, 11, 12, 13, 14, 15, 16, 17, 18, 19] : List Int).all fun b => C0_okB (C_boulterlaw19_RexGroups 400 11 b true)) = true) := by
  have h := Bool.and_eq_true_iff.2 ⟨rexG_t_11_0, Bool.and_eq_true_iff.2 ⟨rexG_t_11_1, Bool.and_eq_true_iff.2 ⟨rexG_t_11_2, rexG_t_11_3⟩⟩⟩
  rw [← List.all_append, ← List.all_append, ← List.all_append] at h
  exact h
theorem rexG_t_12 : ((([0, 1, 2, 3, 4, 5, 6, 7, 8, 9, 10, 11, 12, 13, 14, 15, 16, 17, 18, 19] : List Int).all fun b => C0_okB (C_boulterlaw19_RexGroups 400 12 b true)) = true) := by
  have h := Bool.and_eq_true_iff.2 ⟨rexG_t_12_0, Bool.and_eq_true_iff.2 ⟨rexG_t_12_1, Bool.and_eq_true_iff.2 ⟨rexG_t_12_2, rexG_t_12_3⟩⟩⟩
  rw [← List.all_append, ← List.all_append, ← List.all_append] at h
  exact h
theorem rexG_t_13 : ((([0, 1, 2, 3, 4, 5, 6, 7, 8, 9, 10, 11, 12, 13, 14, 15, 16, 17, 18, 19] : List Int).all fun b => C0_okB (C_boulterlaw19_RexGroups 400 13 b true)) = true) := by
  have h := Bool.and_eq_true_iff.2 ⟨rexG_t_13_0, Bool.and_eq_true_iff.2 ⟨rexG_t_13_1, Bool.and_eq_true_iff.2 ⟨rexG_t_13_2, rexG_t_13_3⟩⟩⟩
  rw [← List.all_append, ← List.all_append, ← List.all_append] at h
  exact h
theorem rexG_t_14 : ((([0, 1, 2, 3, 4, 5, 6, 7, 8, 9, 10, 11, 12, 13, 14, 15, 16, 17, 18, 19] : List Int).all fun b => C0_okB (C_boulterlaw19_RexGroups 400 14 b true)) = true) := by
  have h := Bool.and_eq_true_iff.2 ⟨rexG_t_14_0, Bool.and_eq_true_iff.2 ⟨rexG_t_14_1, Bool.and_eq_true_iff.2 ⟨rexG_t_14_2, rexG_t_14_3⟩⟩⟩
  rw [← List.all_append, ← List.all_append, ← List.all_append] at h
  exact h
theorem rexG_t_15 : ((([0, 1, 2, 3, 4, 5, 6, 7, 8, 9, 10, 11, 12, 13, 14, 15, 16, 17, 18, 19] : List Int).all fun b => C0_okB (C_boulterlaw19_RexGroups 400 15 b true)) = true) := by
  have h := Bool.and_eq_true_iff.2 ⟨rexG_t_15_0, Bool.and_eq_true_iff.2 ⟨rexG_t_15_1, Bool.and_eq_true_iff.2 ⟨rexG_t_15_2, rexG_t_15_3⟩⟩⟩
  rw [← List.all_append, ← List.all_append, ← List.all_append] at h
  exact h
theorem rexG_t_16 : ((([0, 1, 2, 3, 4, 5, 6, 7, 8, 9, 10, 11, 12, 13, 14, 15, 16, 17, 18, 19] : List Int).all fun b => C0_okB (C_boulterlaw19_RexGroups 400 16 b true)) = true) := by
  have h := Bool.and_eq_true_iff.2 ⟨rexG_t_16_0, Bool.and_eq_true_iff.2 ⟨rexG_t_16_1, Bool.and_eq_true_iff.2 ⟨rexG_t_16_2, rexG_t_16_3⟩⟩⟩
  rw [← List.all_append, ← List.all_append, ← List.all_append] at h
  exact h
theorem rexG_t_17 : ((([0, 1, 2, 3, 4, 5, 6, 7, 8, 9, 10, 11, 12, 13, 14, 15, 16, 17, 18, 19] : List Int).all fun b => C0_okB (C_boulterlaw19_RexGroups 400 17 b true)) = true) := by
  have h := Bool.and_eq_true_iff.2 ⟨rexG_t_17_0, Bool.and_eq_true_iff.2 ⟨rexG_t_17_1, Bool.and_eq_true_iff.2 ⟨rexG_t_17_2, rexG_t_17_3⟩⟩⟩
  rw [← List.all_append, ← List.all_append, ← List.all_append] at h
  exact h
theorem rexG_t_18 : ((([0, 1, 2, 3, 4, 5, 6, 7, 8, 9, 10, 11, 12, 13, 14, 15, 16, 17, 18, 19] : List Int).all fun b => C0_okB (C_boulterlaw19_RexGroups 400 18 b true)) = true) := by
  have h := Bool.and_eq_true_iff.2 ⟨rexG_t_18_0, Bool.and_eq_true_iff.2 ⟨rexG_t_18_1, Bool.and_eq_true_iff.2 ⟨rexG_t_18_2, rexG_t_18_3⟩⟩⟩
  rw [← List.all_append, ← List.all_append, ← List.all_append] at h
  exact h
theorem rexG_t_19 : ((([0, 1, 2, 3, 4, 5, 6, 7, 8, 9, 10, 11, 12, 13, 14, 15, 16, 17, 18, 19] : List Int).all fun b => C0_okB (C_boulterlaw19_RexGroups 400 19 b true)) = true) := by
  have h := Bool.and_eq_true_iff.2 ⟨rexG_t_19_0, Bool.and_eq_true_iff.2 ⟨rexG_t_19_1, Bool.and_eq_true_iff.2 ⟨rexG_t_19_2, rexG_t_19_3⟩⟩⟩
  rw [← List.all_append, ← List.all_append, ← List.all_append] at h
  exact h
theorem rexG_mod {p0 p1 a b : Int} (h0 : Int.tmod (IntKind.i64.wrap p0) (20 : Int) = Int.tmod (IntKind.i64.wrap a) (20 : Int)) (h1 : Int.tmod (IntKind.i64.wrap p1) (20 : Int) = Int.tmod (IntKind.i64.wrap b) (20 : Int)) (e : Bool) :
    M_boulterlaw19_RexGroups p0 p1 e = M_boulterlaw19_RexGroups a b e := by
  have l0 : M_boulterlaw19_RexGroups_L0 p0 = M_boulterlaw19_RexGroups_L0 a := by
    funext x1 x2 s
    rcases s with ⟨x3, x4⟩
    unfold M_boulterlaw19_RexGroups_L0
    simp only [h0]
  have l1 : M_boulterlaw19_RexGroups_L1 p1 = M_boulterlaw19_RexGroups_L1 b := by
    funext x1 s
    rcases s with ⟨x3, x4⟩
    unfold M_boulterlaw19_RexGroups_L1
    simp only [h1]
  have l2 : M_boulterlaw19_RexGroups_L2 p1 = M_boulterlaw19_RexGroups_L2 b := by
    funext x1 s
    rcases s with ⟨x3, x4⟩
    unfold M_boulterlaw19_RexGroups_L2
    simp only [h1]
  unfold M_boulterlaw19_RexGroups
  rw [l0, l1, l2, h0, h1]
theorem rexG_case {a b : Int} (ha : 0 ≤ a ∧ a < 20) (hb : 0 ≤ b ∧ b < 20) (e : Bool) : C0_okB (C_boulterlaw19_RexGroups 400 a b e) = true := by
  have hm : b ∈ ([0, 1, 2, 3, 4, 5, 6, 7, 8, 9, 10, 11, 12, 13, 14, 15, 16, 17, 18, 19] : List Int) := by
    simp only [List.mem_cons, List.not_mem_nil, or_false]
    omega
  have hk : a = 0 ∨ a = 1 ∨ a = 2 ∨ a = 3 ∨ a = 4 ∨ a = 5 ∨ a = 6 ∨ a = 7 ∨ a = 8 ∨ a = 9 ∨ a = 10 ∨ a = 11 ∨ a = 12 ∨ a = 13 ∨ a = 14 ∨ a = 15 ∨ a = 16 ∨ a = 17 ∨ a = 18 ∨ a = 19 := by omega
  cases e
  · rcases hk with rfl | rfl | rfl | rfl | rfl | rfl | rfl | rfl | rfl | rfl | rfl | rfl | rfl | rfl | rfl | rfl | rfl | rfl | rfl | rfl
    · exact List.all_eq_true.1 rexG_f_0 b hm
    · exact List.all_eq_true.1 rexG_f_1 b hm
    · exact List.all_eq_true.1 rexG_f_2 b hm
    · exact List.all_eq_true.1 rexG_f_3 b hm
    · exact List.all_eq_true.1 rexG_f_4 b hm
    · exact List.all_eq_true.1 rexG_f_5 b hm
    · exact List.all_eq_true.1 rexG_f_6 b hm
    · exact List.all_eq_true.1 rexG_f_7 b hm
    · exact List.all_eq_true.1 rexG_f_8 b hm
    · exact List.all_eq_true.1 rexG_f_9 b hm
    · exact List.all_eq_true.1 rexG_f_10 b hm
    · exact List.all_eq_true.1 rexG_f_11 b hm
    · exact List.all_eq_true.1 rexG_f_12 b hm
    · exact List.all_eq_true.1 rexG_f_13 b hm
    · exact List.all_eq_true.1 rexG_f_14 b hm
    · exact List.all_eq_true.1 rexG_f_15 b hm
    · exact List.all_eq_true.1 rexG_f_16 b hm
    · exact List.all_eq_true.1 rexG_f_17 b hm
    · exact List.all_eq_true.1 rexG_f_18 b hm
    · exact List.all_eq_true.1 rexG_f_19 b hm
  · rcases hk with rfl | rfl | rfl | rfl | rfl | rfl | rfl | rfl | rfl | rfl | rfl | rfl | rfl | rfl | rfl | rfl | rfl | rfl | rfl | rfl
    · exact List.all_eq_true.1 rexG_t_0 b hm
    · exact List.all_eq_true.1 rexG_t_1 b hm
    · exact List.all_eq_true.1 rexG_t_2 b hm
    · exact List.all_eq_true.1 rexG_t_3 b hm
    · exact List.all_eq_true.1 rexG_t_4 b hm
    · exact List.all_eq_true.1 rexG_t_5 b hm
    · exact List.all_eq_true.1 rexG_t_6 b hm
    · exact List.all_eq_true.1 rexG_t_7 b hm
    · exact List.all_eq_true.1 rexG_t_8 b hm
    · exact List.all_eq_true.1 rexG_t_9 b hm
    · exact List.all_eq_true.1 rexG_t_10 b hm
    · exact List.all_eq_true.1 rexG_t_11 b hm
    · exact List.all_eq_true.1 rexG_t_12 b hm
    · exact List.all_eq_true.1 rexG_t_13 b hm
    · exact List.all_eq_true.1 rexG_t_14 b hm
    · exact List.all_eq_true.1 rexG_t_15 b hm
    · exact List.all_eq_true.1 rexG_t_16 b hm
    · exact List.all_eq_true.1 rexG_t_17 b hm
    · exact List.all_eq_true.1 rexG_t_18 b hm
    · exact List.all_eq_true.1 rexG_t_19 b hm
theorem lawRexGroups (p0 : Int) (k0 : okI .u8 p0) (p1 : Int) (k1 : okI .u8 p1) (p2 : Bool) (k2 : True) : M_boulterlaw19_RexGroups p0 p1 p2 = some true := by
  have h0 : (0 : Int) ≤ p0 ∧ p0 ≤ 255 := k0
  have h1 : (0 : Int) ≤ p1 ∧ p1 ≤ 255 := k1
  have md : ∀ p : Int, 0 ≤ p ∧ p ≤ 255 → Int.tmod (IntKind.i64.wrap p) (20 : Int) = Int.tmod (IntKind.i64.wrap (p % 20)) (20 : Int) := by
    intro p hp
    rw [w64 (x := p) (by omega) (by omega), w64 (x := p % 20) (by omega) (by omega), Int.tmod_eq_emod_of_nonneg hp.1, Int.tmod_eq_emod_of_nonneg (by omega)]
    omega
  rw [rexG_mod (md p0 h0) (md p1 h1)]
  exact le_C_boulterlaw19_RexGroups 400 (by rw [bigF_eq]; decide) _ _ _ _ (C0_okB_true (rexG_case (by omega) (by omega) p2))
end Go.Av.L
