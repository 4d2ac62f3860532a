/-
  OCTAL: blanks ahead of digits, and blanks and NULs behind them, change nothing.
-/
import Derived.Test.YtklabpnclemmoaaLlaw01
import Derived.Test.YtklabpnclemmoaaOctalWrite
namespace Go.Abs.L
open Go.Abs
set_option linter.unusedVariables false
set_option linter.unusedSimpArgs false
/-- blanks and NULs by turns -/
def behind : Nat → List UInt8
  | 0 => []
  | k + 1 => behind k ++ [if k % 2 = 0 then 32 else 0]
theorem behind_length : ∀ k, (behind k).length = k
  | 0 => rfl
  | k + 1 => by simp [behind, behind_length k]
theorem behind_mem : ∀ k, ∀ b ∈ behind k, b = 32 ∨ b = 0
  | 0, b, h => by simp [behind] at h
  | k + 1, b, h => by
    rcases List.mem_append.1 h with h | h
    · exact behind_mem k b h
    · simp at h
      rw [h]
      split <;> simp
theorem mach_rest {v : Int} (hv : v ≤ 9007199254740991) : ∀ l : List UInt8, (∀ b ∈ l, b = 32 ∨ b = 0) → mach 2 v false l = (v, 0)
  | [], _ => rfl
  | b :: l, h => by
    have : (b.toNat : Int) = 32 ∨ (b.toNat : Int) = 0 := by rcases h b (by simp) with rfl | rfl <;> simp
    rw [mach, if_neg (by omega), if_neg (by omega), if_pos this]
    exact mach_rest hv l fun b hb => h b (by simp [hb])
theorem mach_rest1 {v : Int} (hv : v ≤ 9007199254740991) (l : List UInt8) (h : ∀ b ∈ l, b = 32 ∨ b = 0) : mach 1 v false l = (v, 0) := by
  cases l with
  | nil => rfl
  | cons b l =>
    have : (b.toNat : Int) = 32 ∨ (b.toNat : Int) = 0 := by rcases h b (by simp) with rfl | rfl <;> simp
    rw [mach, if_neg (by omega), if_neg (by omega), if_pos this]
    exact mach_rest hv l fun b hb => h b (by simp [hb])
theorem mach_blanks (l : List UInt8) : ∀ k, mach 0 0 false (List.replicate k 32 ++ l) = mach 0 0 false l
  | 0 => by simp
  | k + 1 => by
    have e : ((32 : UInt8).toNat : Int) = 32 := rfl
    rw [List.replicate_succ, List.cons_append, mach, if_neg (by rw [e]; omega), if_pos ⟨e, rfl⟩]
    exact mach_blanks l k
theorem byt32 (k : Nat) : ixS ([32, 0] : List UInt8) ((k % 2 : Nat) : Int) = some (if k % 2 = 0 then 32 else 0) := by
  have : k % 2 = 0 ∨ k % 2 = 1 := by omega
  rcases this with h | h <;> rw [h] <;> rfl
theorem lawOctalBlanks (h : AHeap) (x0 : Int) (k0 : (RInt cfg.P .u16).ok x0) (x1 : Int) (k1 : (RInt cfg.P .u8).ok x1) (x2 : Int) (k2 : (RInt cfg.P .u8).ok x2) : M_boulterlaw01_OctalBlanks h x0 x1 x2 = some true := by
  have k0 : (0 : Int) ≤ x0 ∧ x0 ≤ 65535 := k0
  have k1 : (0 : Int) ≤ x1 ∧ x1 ≤ 255 := k1
  have k2 : (0 : Int) ≤ x2 ∧ x2 ≤ 255 := k2
  have ev : bAnd .i64 (IntKind.i64.wrap x0) 511 = x0 % 512 := by
    rw [w64 (by omega) (by omega)]
    exact bAnd_mask (n := 9) (by rfl) (by omega) (by omega)
  obtain ⟨v, hv⟩ : ∃ v, v = x0 % 512 := ⟨_, rfl⟩
  obtain ⟨B, hB⟩ : ∃ B : Nat, x1 % 5 = B := ⟨(x1 % 5).toNat, by omega⟩
  obtain ⟨E, hE⟩ : ∃ E : Nat, x2 % 5 = E := ⟨(x2 % 5).toNat, by omega⟩
  have eB : Int.tmod (IntKind.i64.wrap x1) 5 = B := by rw [w64 (by omega) (by omega), Int.tmod_eq_emod_of_nonneg k1.1, hB]
  have eE : Int.tmod (IntKind.i64.wrap x2) 5 = E := by rw [w64 (by omega) (by omega), Int.tmod_eq_emod_of_nonneg k2.1, hE]
  have hoct : octF v 4 = (octD v 3 ++ [0], true) := by
    unfold octF
    have e : ((4 : Int) - 1).toNat = 3 := rfl
    rw [e, if_pos ⟨by omega, by omega, by omega, by simp only [Int.reducePow]; omega⟩]
  unfold M_boulterlaw01_OctalBlanks
  rw [ev, ← hv, octal_eq h 4 (by omega), hoct]
  simp only [Option.bind_some, Bool.not_true, iteB_false]
  refine W.eq (W.bind (W.mono (Q := fun s => s = List.replicate B 32) ?_ ?_))
  · refine W.loop (fun s => ∃ k : Nat, k ≤ B ∧ s.2 = k ∧ s.1 = List.replicate k 32) (fun s => B - s.2.toNat) ⟨0, by omega, rfl, rfl⟩ ?_
    rintro ⟨_, _⟩ ⟨k, hk, rfl, rfl⟩
    unfold M_boulterlaw01_OctalBlanks_L0
    dsimp only
    rw [eB]
    refine W.iteP (fun hlt => ?_) (fun hge => ?_)
    · rw [ek64 (by omega)]
      refine W.need (by simp; omega) (W.ret ⟨⟨k + 1, by omega, rfl, by rw [List.replicate_succ']⟩, by dsimp only; omega⟩)
    · have : k = B := by omega
      subst this
      exact W.ret rfl
  · rintro _ rfl
    have e3 : subS (octD v 3 ++ [0]) none (some 3) = some (octD v 3) := by
      unfold subS
      rw [bnd_hi (by simp [octD_length])]
      rfl
    rw [e3]
    simp only [Option.bind_some]
    refine W.need (by simp [octD_length]; omega) ?_
    refine W.bind (W.mono (Q := fun s => s.1 = List.replicate B 32 ++ octD v 3 ++ behind E) ?_ ?_)
    · refine W.loop (fun s => ∃ k : Nat, k ≤ E ∧ s.2.1 = k ∧ s.1 = List.replicate B 32 ++ octD v 3 ++ behind k) (fun s => E - s.2.1.toNat) ⟨0, by omega, rfl, by simp [behind]⟩ ?_
      rintro ⟨_, _, h1⟩ ⟨k, hk, rfl, rfl⟩
      unfold M_boulterlaw01_OctalBlanks_L1
      dsimp only
      rw [eE]
      refine W.iteP (fun hlt => ?_) (fun hge => ?_)
      · have e2 : Int.tmod (k : Int) 2 = ((k % 2 : Nat) : Int) := by rw [Int.tmod_eq_emod_of_nonneg (by omega)]; rfl
        rw [ek64 (by omega), e2, byt32]
        simp only [Option.bind_some]
        rw [byL_one]
        simp only [Option.bind_some]
        refine W.need (by simp [octD_length, behind_length]; omega) (W.ret ⟨⟨k + 1, by omega, rfl, ?_⟩, by dsimp only; omega⟩)
        dsimp only
        rw [behind, ← List.append_assoc]
        congr 2
        split <;> rfl
      · have : k = E := by omega
        subst this
        exact W.ret rfl
    · rintro ⟨_, h3⟩ rfl
      dsimp only
      have er : readF (List.replicate B 32 ++ octD v 3 ++ behind E) = (v, 0) := by
        have em : mach 0 0 false (List.replicate B 32 ++ octD v 3 ++ behind E) = (v, 0) := by
          rw [List.append_assoc, mach_blanks, mach_oct0 (m := 2) (by omega) _ (by show v < 8 ^ 3; simp only [Int.reducePow]; omega)]
          exact mach_rest1 (by omega) _ (behind_mem E)
        rw [← em]
        have hlen : (List.replicate B 32 ++ octD v 3 ++ behind E).length = B + 3 + E := by simp [octD_length, behind_length]; omega
        cases hl : List.replicate B 32 ++ octD v 3 ++ behind E with
        | nil => rw [hl] at hlen; simp at hlen; omega
        | cons b l =>
          rw [hl] at hlen
          have hb : (b.toNat : Int) ≠ 128 ∧ (b.toNat : Int) ≠ 255 := by
            cases B with
            | zero =>
              simp only [List.replicate_zero, List.nil_append, octD, List.cons_append] at hl
              injection hl with hl _
              rw [← hl, dg_toNat]
              omega
            | succ B =>
              simp only [List.replicate_succ, List.cons_append] at hl
              injection hl with hl _
              rw [← hl]
              decide
          simp at hlen
          rw [readF, if_neg (by omega), if_neg (by omega)]
      rw [read_eq, er]
      simp [M_boulterlaw01_awake]
      exact W.ret rfl
end Go.Abs.L
