/-
  OptionLimits: as many patterns as may be, and one more: ten texts, reckoned.
-/
import Derived.Test.YtkdlmohhklimjaaGreatDoorOptLimC
namespace Go.Av.L
open Go.Av Go.Lib
set_option linter.unusedVariables false
set_option linter.unusedSimpArgs false

theorem long_ok {n : Nat} {s : List UInt8} (h : 65536 < s.length) : C_option_Parse n s = some ((⟨([] : List S_pattern_Rule), ([] : List S_pattern_Rule), ([] : List S_rewrite_Expr), false, false, (0 : Int), false, (⟨(0 : Int), (0 : Int)⟩ : S_api_Stamp), (0 : Int), (0 : Int), (0 : Int), (0 : Int), (0 : Int)⟩ : S_option_Config), (0 : Int), (12 : Int)) := by
  unfold C_option_Parse
  rw [iteB_dec, if_pos (by omega)]
theorem long_z {n : Nat} : C_option_Parse n (List.replicate (65537 : Int).toNat (0 : UInt8)) = some ((⟨([] : List S_pattern_Rule), ([] : List S_pattern_Rule), ([] : List S_rewrite_Expr), false, false, (0 : Int), false, (⟨(0 : Int), (0 : Int)⟩ : S_api_Stamp), (0 : Int), (0 : Int), (0 : Int), (0 : Int), (0 : Int)⟩ : S_option_Config), (0 : Int), (12 : Int)) := long_ok (by rw [List.length_replicate]; decide)
theorem lim0f : C_boulterlaw32_OptionLimits 300 0 false = some true := by
  unfold C_boulterlaw32_OptionLimits
  simp only [long_z]
  kernel_rfl
theorem lim0t : C_boulterlaw32_OptionLimits 300 0 true = some true := by
  unfold C_boulterlaw32_OptionLimits
  simp only [long_z]
  kernel_rfl
theorem lim1f : C_boulterlaw32_OptionLimits 300 1 false = some true := by
  unfold C_boulterlaw32_OptionLimits
  simp only [long_z]
  kernel_rfl
theorem lim1t : C_boulterlaw32_OptionLimits 300 1 true = some true := by
  unfold C_boulterlaw32_OptionLimits
  simp only [long_z]
  kernel_rfl
theorem lim2f : C_boulterlaw32_OptionLimits 300 2 false = some true := by
  unfold C_boulterlaw32_OptionLimits
  simp only [long_z]
  kernel_rfl
theorem lim2t : C_boulterlaw32_OptionLimits 300 2 true = some true := by
  unfold C_boulterlaw32_OptionLimits
  simp only [long_z]
  kernel_rfl
theorem lim3f : C_boulterlaw32_OptionLimits 300 3 false = some true := by
  unfold C_boulterlaw32_OptionLimits
  simp only [long_z]
  kernel_rfl
theorem lim3t : C_boulterlaw32_OptionLimits 300 3 true = some true := by
  unfold C_boulterlaw32_OptionLimits
  simp only [long_z]
  kernel_rfl
theorem lim4f : C_boulterlaw32_OptionLimits 300 4 false = some true := by
  unfold C_boulterlaw32_OptionLimits
  simp only [long_z]
  kernel_rfl
theorem lim4t : C_boulterlaw32_OptionLimits 300 4 true = some true := by
  unfold C_boulterlaw32_OptionLimits
  simp only [long_z]
  kernel_rfl
theorem lim_mod {p r : Int} {b : Bool} (h : Int.tmod (IntKind.i64.wrap p) (5 : Int) = Int.tmod (IntKind.i64.wrap r) (5 : Int)) : C_boulterlaw32_OptionLimits 300 p b = C_boulterlaw32_OptionLimits 300 r b := by
  have e : C_boulterlaw32_OptionLimits_L0 300 p b = C_boulterlaw32_OptionLimits_L0 300 r b := by
    funext s
    unfold C_boulterlaw32_OptionLimits_L0
    rw [h]
  unfold C_boulterlaw32_OptionLimits
  rw [e, h]
theorem lawOptionLimits (p0 : Int) (k0 : okI .u8 p0) (p1 : Bool) (k1 : True) : M_boulterlaw32_OptionLimits p0 p1 = some true := by
  refine le_C_boulterlaw32_OptionLimits 300 (by rw [bigF_eq]; decide) p0 p1 _ ?_
  have hp : 0 ≤ p0 ∧ p0 ≤ 255 := by
    exact ⟨k0.1, k0.2⟩
  have hw : IntKind.i64.wrap p0 = p0 := w64 (by omega) (by omega)
  have hm : Int.tmod (IntKind.i64.wrap p0) 5 = p0 % 5 := by rw [hw, Int.tmod_eq_emod_of_nonneg hp.1]
  have h5 : p0 % 5 = 0 ∨ p0 % 5 = 1 ∨ p0 % 5 = 2 ∨ p0 % 5 = 3 ∨ p0 % 5 = 4 := by omega
  rcases h5 with h | h | h | h | h
  · rw [lim_mod (r := 0) (by rw [hm, h]; decide)]
    cases p1
    · exact lim0f
    · exact lim0t
  · rw [lim_mod (r := 1) (by rw [hm, h]; decide)]
    cases p1
    · exact lim1f
    · exact lim1t
  · rw [lim_mod (r := 2) (by rw [hm, h]; decide)]
    cases p1
    · exact lim2f
    · exact lim2t
  · rw [lim_mod (r := 3) (by rw [hm, h]; decide)]
    cases p1
    · exact lim3f
    · exact lim3t
  · rw [lim_mod (r := 4) (by rw [hm, h]; decide)]
    cases p1
    · exact lim4f
    · exact lim4t
end Go.Av.L
