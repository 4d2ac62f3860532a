/-
  OCTAL: numbers are written as the document says, and read again.
-/
import Derived.Test.YtklabpnclemmoaaLlaw01x1
import Derived.Test.YtklabpnclemmoaaOctalWrite
namespace Go.Abs.L
open Go.Abs
set_option linter.unusedVariables false
set_option linter.unusedSimpArgs false
def writeF (v n : Int) : List UInt8 × Int :=
  if 2 ≤ n ∧ n ≤ 12 then
    if v > 9007199254740991 ∨ v < -9007199254740991 then ([], 6)
    else if (octF v n).2 = true then ((octF v n).1, 0)
    else if (binF v n).2 = true then ((binF v n).1, 0) else ([], 6)
  else ([], 1)
theorem write_eq (h : AHeap) {v : Int} (n : Int) (hv : -9223372036854775808 ≤ v ∧ v ≤ 9223372036854775807) : M_octal_Write h v n = some (writeF v n) := by
  unfold M_octal_Write M_octal_may writeF
  simp only [Option.bind_some]
  by_cases hn : 2 ≤ n ∧ n ≤ 12
  · rw [if_pos hn, show (!(decide (n ≥ 2) && decide (n ≤ 12))) = false from by rw [Bool.eq_false_iff]; simp; omega]
    simp only [iteB_false]
    by_cases hr : v > 9007199254740991 ∨ v < -9007199254740991
    · rw [if_pos hr, show (decide (v > 9007199254740991) || decide (v < -9007199254740991)) = true from by simpa using hr]; rfl
    · rw [if_neg hr, show (decide (v > 9007199254740991) || decide (v < -9007199254740991)) = false from by rw [Bool.eq_false_iff]; simpa using hr]
      simp only [iteB_false]
      rw [octal_eq h n hv, binary_eq h n hv]
      obtain ⟨a, b, e⟩ : ∃ a b, octF v n = (a, b) := ⟨_, _, rfl⟩
      obtain ⟨c, d, e'⟩ : ∃ c d, binF v n = (c, d) := ⟨_, _, rfl⟩
      rw [e, e']
      cases b <;> cases d <;> rfl
  · rw [if_neg hn, show (!(decide (n ≥ 2) && decide (n ≤ 12))) = true from by simp; omega]; rfl
theorem rwrite_eq (h : AHeap) {v : Int} (n : Int) (hv : -9223372036854775808 ≤ v ∧ v ≤ 9223372036854775807) : M_boulterref01_Write h v n = some (writeF v n) := by
  unfold M_boulterref01_Write writeF
  by_cases hn : 2 ≤ n ∧ n ≤ 12
  · rw [if_pos hn, show (decide (n < 2) || decide (n > 12)) = false from by rw [Bool.eq_false_iff]; simp; omega]
    simp only [iteB_false]
    by_cases hr : v > 9007199254740991 ∨ v < -9007199254740991
    · rw [if_pos hr, show (decide (v > 9007199254740991) || decide (v < -9007199254740991)) = true from by simpa using hr]; rfl
    · rw [if_neg hr, show (decide (v > 9007199254740991) || decide (v < -9007199254740991)) = false from by rw [Bool.eq_false_iff]; simpa using hr]
      simp only [iteB_false]
      rw [roctal_eq h n hv, rbinary_eq h n (by omega), ← bin_same (by omega)]
      obtain ⟨a, b, e⟩ : ∃ a b, octF v n = (a, b) := ⟨_, _, rfl⟩
      obtain ⟨c, d, e'⟩ : ∃ c d, binF v n = (c, d) := ⟨_, _, rfl⟩
      rw [e, e']
      cases b <;> cases d <;> rfl
  · rw [if_neg hn, show (decide (n < 2) || decide (n > 12)) = true from by simp; omega]; rfl
theorem octF_read {v n : Int} (hv : v ≤ 9007199254740991) (h : (octF v n).2 = true) : readF (octF v n).1 = (v, 0) ∧ ((octF v n).1.length : Int) = n := by
  unfold octF at h ⊢
  split at h
  · rename_i hc
    rw [if_pos hc]
    obtain ⟨k, rfl⟩ : ∃ k : Nat, n = ((k + 1 : Nat) : Int) := ⟨(n - 1).toNat, by omega⟩
    have e1 : (((k + 1 : Nat) : Int) - 1).toNat = k := by omega
    rw [e1] at hc ⊢
    exact ⟨read_oct (by omega) (by omega) hc.2.2.2, by simp [octD_length]⟩
  · cases h
theorem binF_read {v n : Int} (hv : -9007199254740991 ≤ v ∧ v ≤ 9007199254740991) (h : (binF v n).2 = true) : readF (binF v n).1 = (v, 0) ∧ ((binF v n).1.length : Int) = n := by
  unfold binF at h ⊢
  split at h
  · rename_i hc
    rw [if_pos hc]
    obtain ⟨k, rfl⟩ : ∃ k : Nat, n = ((k + 1 : Nat) : Int) := ⟨(n - 1).toNat, by omega⟩
    have e1 : (((k + 1 : Nat) : Int) - 1).toNat = k := by omega
    rw [e1] at hc ⊢
    exact ⟨read_bin (by omega) hv (bin_div hv (by omega) rfl hc.2.2), by simp [binD_length]⟩
  · cases h
theorem writeF_read {v n : Int} (h : (writeF v n).2 = 0) : readF (writeF v n).1 = (v, 0) ∧ ((writeF v n).1.length : Int) = n := by
  unfold writeF at h ⊢
  split at h
  · rename_i hn
    rw [if_pos hn]
    split at h
    · simp at h
    · rename_i hr
      rw [if_neg hr]
      split at h
      · rename_i ho
        rw [if_pos ho]
        exact octF_read (by omega) ho
      · rename_i ho
        rw [if_neg ho]
        split at h
        · rename_i hb
          rw [if_pos hb]
          exact binF_read (by omega) hb
        · simp at h
  · simp at h
theorem lawOctalWrites (h : AHeap) (x0 : Int) (k0 : (RInt cfg.P .i64).ok x0) (x1 : Int) (k1 : (RInt cfg.P .i64).ok x1) : M_boulterlaw01_OctalWrites h x0 x1 = some true := by
  have k0 : (-9223372036854775808 : Int) ≤ x0 ∧ x0 ≤ 9223372036854775807 := k0
  unfold M_boulterlaw01_OctalWrites
  rw [write_eq h x1 k0, rwrite_eq h x1 k0]
  have hw := @writeF_read x0 x1
  obtain ⟨a, b, e⟩ : ∃ a b, writeF x0 x1 = (a, b) := ⟨_, _, rfl⟩
  rw [e] at hw ⊢
  simp only [Option.bind_some, beq_self_eq_true, Bool.not_true, bne_self_eq_false, Bool.or_false, iteB_false]
  rw [iteB_bne]
  split
  · rename_i hb
    obtain ⟨h1, h2⟩ := hw hb
    dsimp only at h1 h2
    rw [read_eq, h1, h2]
    simp [M_boulterlaw01_awake]
  · rfl
theorem lawOctalForms (h : AHeap) (x0 : Int) (k0 : (RInt cfg.P .i64).ok x0) (x1 : Int) (k1 : (RInt cfg.P .i64).ok x1) : M_boulterlaw01_OctalForms h x0 x1 = some true := by
  have k0 : (-9223372036854775808 : Int) ≤ x0 ∧ x0 ≤ 9223372036854775807 := k0
  unfold M_boulterlaw01_OctalForms
  rw [octal_eq h x1 k0, roctal_eq h x1 k0]
  have ho := @octF_read x0 x1
  obtain ⟨a, b, e⟩ : ∃ a b, octF x0 x1 = (a, b) := ⟨_, _, rfl⟩
  rw [e] at ho ⊢
  simp only [Option.bind_some, beq_self_eq_true, Bool.not_true, Bool.or_false, iteB_false]
  by_cases hr : x0 > 9007199254740991 ∨ x0 < -9007199254740991
  · rw [show (decide (x0 > 9007199254740991) || decide (x0 < -9007199254740991)) = true from by simpa using hr]; rfl
  · rw [show (decide (x0 > 9007199254740991) || decide (x0 < -9007199254740991)) = false from by rw [Bool.eq_false_iff]; simpa using hr]
    simp only [iteB_false]
    rw [binary_eq h x1 k0, rbinary_eq h x1 (by omega), ← bin_same (by omega)]
    have hb := @binF_read x0 x1 (by omega)
    obtain ⟨c, d, e'⟩ : ∃ c d, binF x0 x1 = (c, d) := ⟨_, _, rfl⟩
    rw [e'] at hb ⊢
    simp only [Option.bind_some, beq_self_eq_true, Bool.not_true, Bool.or_false, iteB_false]
    cases b with
    | false => rfl
    | true =>
      cases d with
      | false => rfl
      | true =>
        obtain ⟨h1, _⟩ := ho (by omega) rfl
        obtain ⟨h2, _⟩ := hb rfl
        dsimp only at h1 h2
        rw [read_eq, read_eq, h1, h2]
        simp [M_boulterlaw01_awake]
end Go.Abs.L
