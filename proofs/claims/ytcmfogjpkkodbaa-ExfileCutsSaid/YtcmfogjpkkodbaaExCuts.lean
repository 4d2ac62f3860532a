/-
  ExfileCuts: the cut of a text behind its first lines.
-/
import Derived.Test.YtcmfogjpkkodbaaAvNum
import Derived.Test.YtcmfogjpkkodbaaKlaw31x1
namespace Go.Av.L
open Go.Av
set_option linter.unusedVariables false
set_option linter.unusedSimpArgs false

/-- the length of the first line, with its line end -/
def nl : List UInt8 → Nat
  | [] => 0
  | b :: t => if b = 10 then 1 else nl t + 1
theorem nl_le (s : List UInt8) : nl s ≤ s.length := by
  induction s with
  | nil => simp [nl]
  | cons b t ih => rw [nl, List.length_cons]; split <;> omega
theorem nl_pos {s : List UInt8} (h : s ≠ []) : 0 < nl s := by
  cases s with
  | nil => exact absurd rfl h
  | cons b t => rw [nl]; split <;> omega
theorem nl_idx (s : List UInt8) : (idxOf s 10 < 0 ∧ nl s = s.length) ∨ (0 ≤ idxOf s 10 ∧ (nl s : Int) = idxOf s 10 + 1) := by
  induction s with
  | nil => exact .inl ⟨by rw [idxOf_nil]; omega, rfl⟩
  | cons b t ih =>
    rw [idxOf_cons, nl, List.length_cons]
    by_cases hb : b = 10
    · rw [if_pos hb, if_pos hb]; omega
    · rw [if_neg hb, if_neg hb]
      rcases ih with ⟨h1, h2⟩ | ⟨h1, h2⟩
      · rw [if_pos h1]; omega
      · rw [if_neg (by omega)]; omega
/-- behind n lines -/
def cutN (p : List UInt8) : Nat → Nat → Option Nat
  | 0, a => some a
  | n + 1, a => if a = p.length then none else cutN p n (a + nl (p.drop a))
theorem cutN_le {p : List UInt8} : ∀ n a r, a ≤ p.length → cutN p n a = some r → r ≤ p.length
  | 0, a, r, h, e => by injection e with e; omega
  | n + 1, a, r, h, e => by
    rw [cutN] at e
    split at e
    · cases e
    · have := nl_le (p.drop a)
      rw [List.length_drop] at this
      exact cutN_le n _ r (by omega) e
theorem cutN_far {p : List UInt8} : ∀ n a, a ≤ p.length → p.length - a < n → cutN p n a = none
  | 0, a, h, h2 => by omega
  | n + 1, a, h, h2 => by
    rw [cutN]
    split
    · rfl
    · have h3 := nl_le (p.drop a)
      have h4 : 0 < nl (p.drop a) := nl_pos (by intro h; have := congrArg List.length h; rw [List.length_drop] at this; simp at this; omega)
      rw [List.length_drop] at h3
      exact cutN_far n _ (by omega) (by omega)
/-! the program's -/
theorem indexByte {s : List UInt8} {c : Int} (h : 0 ≤ c ∧ c ≤ 255) : M_strings_IndexByte s c = some (idxOf s (UInt8.ofNat c.toNat)) := by
  simp [M_strings_IndexByte, M_stringslite_IndexByte, X_IndexByte, h]
theorem cut_L0 (p : List UInt8) (hp : p.length < 4611686018427387904) : ∀ (n : Nat) (a : Nat), n ≤ 9223372036854775807 → a ≤ p.length → loop (M_exfile_Cut_L0 p) ((n : Int), (a : Int)) = some (match cutN p n a with | some r => .inl (r : Int) | none => .inr ([], [], false))
  | 0, a, hn, ha => loop_done (by simp [M_exfile_Cut_L0, cutN])
  | n + 1, a, hn, ha => by
    have hw : IntKind.i64.wrap (((n + 1 : Nat) : Int) - 1) = (n : Int) := by rw [w64 (by omega) (by omega)]; omega
    rw [cutN]
    by_cases he : a = p.length
    · rw [if_pos he]
      refine loop_done ?_
      rw [M_exfile_Cut_L0, iteB_dec, if_pos (by omega), iteB_beq, if_pos (by omega)]
      rfl
    · rw [if_neg he]
      have h3 := nl_le (p.drop a)
      rw [List.length_drop] at h3
      rw [← cut_L0 p hp n (a + nl (p.drop a)) (by omega) (by omega)]
      refine loop_step ?_
      rw [M_exfile_Cut_L0, iteB_dec, if_pos (by omega), iteB_beq, if_neg (by omega), subS_lo ha, Option.bind_some, indexByte (by omega), Option.bind_some, iteB_dec, hw]
      show (Option.bind (ite (idxOf (p.drop a) 10 < 0) _ _) _) = _
      rcases nl_idx (p.drop a) with ⟨h1, h2⟩ | ⟨h1, h2⟩
      · rw [if_pos h1]
        rw [List.length_drop] at h2
        rw [h2]
        simp only [Option.bind_some]
        congr 3
        omega
      · rw [if_neg (by omega)]
        have hi := (idxOf_lt (p.drop a) 10).1
        rw [List.length_drop] at hi
        simp only [Option.bind_some]
        have e1 : IntKind.i64.wrap (idxOf (p.drop a) (UInt8.ofNat (10 : Int).toNat) + 1) = (nl (p.drop a) : Int) := by
          show IntKind.i64.wrap (idxOf (p.drop a) 10 + 1) = _
          rw [w64 (by omega) (by omega)]; omega
        rw [e1, w64 (by omega) (by omega)]
        congr 3
theorem exCut {p : List UInt8} (hp : p.length < 4611686018427387904) {n : Int} (hn : n ≤ 9223372036854775807) : M_exfile_Cut p n = some (if n < 0 then ([], [], false) else match cutN p n.toNat 0 with | some r => (p.take r, p.drop r, true) | none => ([], [], false)) := by
  rw [M_exfile_Cut, iteB_dec]
  split
  · rfl
  · have e := cut_L0 p hp n.toNat 0 (by omega) (by omega)
    rw [Int.toNat_of_nonneg (by omega)] at e
    rw [show ((0 : Nat) : Int) = 0 from rfl] at e
    rw [e, Option.bind_some]
    cases hc : cutN p n.toNat 0 with
    | none => rfl
    | some r =>
      have := cutN_le _ _ _ (by omega) hc
      simp only
      rw [subS_hi this, Option.bind_some, subS_lo this, Option.bind_some]
/-! the reference's -/
theorem ref_L1 (p : List UInt8) (hp : p.length < 4611686018427387904) : ∀ (k a : Nat), a + k = p.length → ∃ r : Nat, loop (M_boulterref31_Cut_L1 p) (a : Int) = some (r : Int) ∧ r ≤ p.length ∧ (if r < p.length then r + 1 else r) = a + nl (p.drop a)
  | 0, a, h => ⟨a, loop_done (by rw [M_boulterref31_Cut_L1, iteB_dec, if_neg (by omega)]; rfl), by omega, by
      rw [if_neg (by omega)]
      have := nl_le (p.drop a)
      rw [List.length_drop] at this
      omega⟩
  | k + 1, a, h => by
    have ha : a < p.length := by omega
    have hd := drop_cons ha
    by_cases hb : p[a] = 10
    · refine ⟨a, loop_done ?_, by omega, ?_⟩
      · rw [M_boulterref31_Cut_L1, iteB_dec, if_pos (by omega), ixS_nat (List.getElem?_eq_getElem ha)]
        simp [hb]
      · rw [if_pos ha, hd, nl, if_pos hb]
    · obtain ⟨r, h1, h2, h3⟩ := ref_L1 p hp k (a + 1) (by omega)
      refine ⟨r, ?_, h2, ?_⟩
      · rw [← h1]
        refine loop_step ?_
        rw [M_boulterref31_Cut_L1, iteB_dec, if_pos (by omega), ixS_nat (List.getElem?_eq_getElem ha)]
        have : ((p[a].toNat : Int) != 10) = true := by
          rw [bne_iff_ne]
          intro h
          exact hb (UInt8.toNat_inj.1 (by have : p[a].toNat = 10 := by omega
                                          rw [this]; rfl))
        simp only [Option.bind_some, this, iteB_true]
        rw [ek64 (by omega)]
      · rw [h3, hd, nl, if_neg hb]; omega
theorem ref_L0 (p : List UInt8) (hp : p.length < 4611686018427387904) (m : Nat) (hm : m < 4611686018427387904) : ∀ (n j a : Nat), j + n = m → a ≤ p.length → loop (M_boulterref31_Cut_L0 p (m : Int)) ((a : Int), (j : Int)) = some (match cutN p n a with | some r => .inl (r : Int) | none => .inr (-1))
  | 0, j, a, hj, ha => loop_done (by rw [M_boulterref31_Cut_L0, iteB_dec, if_neg (by omega)]; rfl)
  | n + 1, j, a, hj, ha => by
    rw [cutN]
    by_cases he : a = p.length
    · rw [if_pos he]
      refine loop_done ?_
      rw [M_boulterref31_Cut_L0, iteB_dec, if_pos (by omega), iteB_dec, if_pos (by omega)]
      rfl
    · rw [if_neg he]
      have h3 := nl_le (p.drop a)
      rw [List.length_drop] at h3
      rw [← ref_L0 p hp m hm n (j + 1) (a + nl (p.drop a)) (by omega) (by omega)]
      refine loop_step ?_
      obtain ⟨r, h1, h2, h4⟩ := ref_L1 p hp (p.length - a) a (by omega)
      rw [M_boulterref31_Cut_L0, iteB_dec, if_pos (by omega), iteB_dec, if_neg (by omega), h1, Option.bind_some, iteB_dec, ← h4, ek64 (k := j) (by omega)]
      by_cases hr : r < p.length
      · rw [if_pos (by omega), if_pos hr, ek64 (by omega)]; rfl
      · rw [if_neg (by omega), if_neg hr]; rfl
theorem refCut {p : List UInt8} (hp : p.length < 4611686018427387904) {m : Nat} (hm : m < 4611686018427387904) : M_boulterref31_Cut p (m : Int) = some (match cutN p m 0 with | some r => (r : Int) | none => -1) := by
  have e := ref_L0 p hp m hm m 0 0 (by omega) (by omega)
  rw [M_boulterref31_Cut]
  rw [show ((0 : Nat) : Int) = 0 from rfl] at e
  rw [e, Option.bind_some]
  cases cutN p m 0 <;> rfl
/-! ████ the law ████ -/
theorem lawExfileCuts (p : List UInt8) (kp : okT p) (n : Int) (kn : okI .i64 n) : M_boulterlaw31_ExfileCuts p n = some true := by
  have hn : n ≤ 9223372036854775807 := kn.2
  rw [M_boulterlaw31_ExfileCuts, iteB_dec]
  split
  · rfl
  · rename_i hl
    have hp : p.length < 4611686018427387904 := by omega
    rw [exCut hp hn, Option.bind_some, iteB_dec]
    by_cases h0 : n < 0
    · rw [if_pos h0, if_neg (by omega)]
      rfl
    · rw [if_neg h0, if_pos (by omega)]
      have hmn : ∃ m : Nat, mn n 500 = (m : Int) ∧ m ≤ 500 ∧ cutN p n.toNat 0 = cutN p m 0 := by
        unfold mn
        by_cases h5 : n ≤ 500
        · refine ⟨n.toNat, ?_, by omega, rfl⟩
          rw [Int.toNat_of_nonneg (by omega)]
          split <;> omega
        · refine ⟨500, ?_, by omega, ?_⟩
          · split <;> omega
          · rw [cutN_far _ _ (by omega) (by omega), cutN_far _ _ (by omega) (by omega)]
      obtain ⟨m, e1, e2, e3⟩ := hmn
      rw [e1, refCut hp (by omega), e3]
      cases hc : cutN p m 0 with
      | none => rfl
      | some r =>
        have := cutN_le _ _ _ (by omega) hc
        simp only [Option.bind_some]
        rw [iteB_dec, if_neg (by omega), subS_hi this, subS_lo this]
        simp [M_boulterlaw31_awake]
end Go.Av.L
