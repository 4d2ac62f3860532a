/-
  ExfileTells: the lines and the items of any text.
-/
import Derived.Test.YtcmfogjpkkodbaaDoorExLib2
import Derived.Test.YtcmfogjpkkodbaaDoorKlaw31x1
namespace Go.Av.L
open Go.Av
set_option linter.unusedVariables false
set_option linter.unusedSimpArgs false

theorem index0 (x : Str) : M_strings_Index_s0 x = some (idxOf x 0) := by
  simp only [M_strings_Index_s0, M_stringslite_Index_s0, M_stringslite_IndexByte, X_IndexByte]
  by_cases h : x = [0]
  · subst h; rfl
  · rw [show (([0] : List UInt8) == x) = false from by simpa using fun e => h e.symm, iteB_false, if_pos (by omega)]
    rfl
theorem spA_none {c : UInt8} : ∀ (x cur : Str), idxOf x c < 0 → spA c cur x = [cur ++ x]
  | [], cur, _ => by rw [spA, List.append_nil]
  | b :: t, cur, h => by
    rw [idxOf_cons] at h
    rw [spA]
    by_cases hb : b = c
    · rw [if_pos hb] at h; omega
    · rw [if_neg hb] at h
      rw [if_neg hb, spA_none t _ (by split at h <;> omega), List.append_assoc]; rfl
theorem spA_some {c : UInt8} : ∀ (x cur : Str) (k : Nat), idxOf x c = (k : Int) → spA c cur x = (cur ++ x.take k) :: spA c [] (x.drop (k + 1))
  | [], cur, k, h => by rw [idxOf_nil] at h; omega
  | b :: t, cur, k, h => by
    rw [idxOf_cons] at h
    rw [spA]
    by_cases hb : b = c
    · rw [if_pos hb] at h
      obtain rfl : k = 0 := by omega
      rw [if_pos hb]; simp
    · rw [if_neg hb] at h
      split at h
      · omega
      · obtain ⟨m, rfl⟩ : ∃ m, k = m + 1 := ⟨k - 1, by omega⟩
        rw [if_neg hb, spA_some t _ m (by omega)]
        simp
/-- what 'strings.SplitSeq' goes through -/
theorem splitIter {σ ρ : Type} {Y : σ → Str → Option (σ ⊕ ρ)} : ∀ (n : Nat) (p : Str) (s : σ) (o : σ ⊕ ρ), p.length ≤ n → p.length < 4611686018427387904 → iterL Y (sp 0 p) s = some o → ∃ rest, M_strings_splitSeq_1_s0 Y (.inl s) p = some (rest, o) := by
  have key : ∀ (n : Nat) (p : Str) (s : σ) (o : σ ⊕ ρ), p.length ≤ n → p.length < 4611686018427387904 → iterL Y (sp 0 p) s = some o → ∃ rest, (∃ y x, loop (M_strings_splitSeq_1_s0_L0 Y) (p, .inl s) = some (.inl (rest, y)) ∧ yld Y y rest = some (x, o)) ∨ loop (M_strings_splitSeq_1_s0_L0 Y) (p, .inl s) = some (.inr (rest, o)) := by
    intro n
    induction n with
    | zero =>
      intro p s o hn hp h
      have : p = [] := List.length_eq_zero_iff.1 (by omega)
      subst this
      obtain ⟨o1, h1, h⟩ := bind_some h
      have e : o1 = o := by cases o1 <;> exact Option.some.inj h
      subst e
      exact ⟨[], .inl ⟨.inl s, _, loop_done (by rw [M_strings_splitSeq_1_s0_L0, index0]; rfl), yld_inl h1⟩⟩
    | succ n ih =>
      intro p s o hn hp h
      have hlt := idxOf_lt p 0
      by_cases hi : idxOf p 0 < 0
      · unfold sp at h
        rw [spA_none p [] hi, List.nil_append] at h
        obtain ⟨o1, h1, h⟩ := bind_some h
        have e : o1 = o := by cases o1 <;> exact Option.some.inj h
        subst e
        exact ⟨p, .inl ⟨.inl s, _, loop_done (by rw [M_strings_splitSeq_1_s0_L0, index0, Option.bind_some, iteB_dec, if_pos hi]), yld_inl h1⟩⟩
      · obtain ⟨k, hk⟩ : ∃ k : Nat, idxOf p 0 = (k : Int) := ⟨(idxOf p 0).toNat, by omega⟩
        unfold sp at h
        rw [spA_some p [] k hk, List.nil_append, iterL] at h
        obtain ⟨o1, h1, h⟩ := bind_some h
        have hy := yld_inl h1
        cases o1 with
        | inl s' =>
          have hstep : M_strings_splitSeq_1_s0_L0 Y (p, .inl s) = some (.inl (p.drop (k + 1), .inl s')) := by
            rw [M_strings_splitSeq_1_s0_L0, index0, Option.bind_some, iteB_dec, if_neg hi, hk, w64 (by omega) (by omega), Int.add_zero, subS_hi (by omega), Option.bind_some, hy, Option.bind_some]
            dsimp only
            rw [ek64 (by omega), subS_lo (by omega)]
            rfl
          obtain ⟨rest, hr⟩ := ih (p.drop (k + 1)) s' o (by rw [List.length_drop]; omega) (by rw [List.length_drop]; omega) h
          exact ⟨rest, by rw [loop_step hstep]; exact hr⟩
        | inr r =>
          obtain rfl : .inr r = o := Option.some.inj h
          refine ⟨p, .inr (loop_done ?_)⟩
          rw [M_strings_splitSeq_1_s0_L0, index0, Option.bind_some, iteB_dec, if_neg hi, hk, w64 (by omega) (by omega), Int.add_zero, subS_hi (by omega), Option.bind_some, hy, Option.bind_some]
          rfl
  intro n p s o hn hp h
  obtain ⟨rest, ⟨y, x, hr, hy⟩ | hr⟩ := key n p s o hn hp h
  · exact ⟨rest, by unfold M_strings_splitSeq_1_s0; rw [hr, Option.bind_some]; dsimp only; rw [hy]; rfl⟩
  · exact ⟨rest, by unfold M_strings_splitSeq_1_s0; rw [hr]; rfl⟩
theorem items_iter : ∀ (l : List Str) (acc : List Str), acc.length + l.length < 1000000 → iterL M_exfile_Items_Y0 l acc = some (.inl (acc ++ full l))
  | [], acc, h => by simp [iterL, full]
  | x :: l, acc, h => by
    simp only [List.length_cons] at h
    rw [iterL, M_exfile_Items_Y0, full_cons]
    cases hx : (x == ([] : Str)) with
    | true =>
      simp only [Bool.not_true, iteB_false, Option.bind_some, cond_true]
      exact items_iter l acc (by omega)
    | false =>
      simp only [Bool.not_false, iteB_true, cond_false]
      rw [okN_of (by simp; omega) (by simp; omega), need_true, Option.bind_some]
      dsimp only
      rw [items_iter l _ (by simp; omega), List.append_assoc]; rfl
theorem exItems {p : Str} (hp : p.length < 900000) : M_exfile_Items p = some (full (sp 0 p)) := by
  have h1 := spA_length 0 p []
  obtain ⟨rest, hr⟩ := splitIter (Y := M_exfile_Items_Y0) p.length p [] _ (Nat.le_refl _) (by omega) (items_iter (sp 0 p) [] (by simp only [List.length_nil]; unfold sp; omega))
  simp only [M_exfile_Items, M_strings_SplitSeq_s0, M_strings_splitSeq_s0, Option.bind_some]
  rw [hr]
  simp
/-! ████ the law ████ -/
theorem lawExfileTells (p : Str) (kp : okT p) : M_boulterlaw31_ExfileTells p = some true := by
  unfold M_boulterlaw31_ExfileTells
  rw [iteB_dec]
  split
  · rfl
  · rename_i hl
    have h1 := keeps_length (sp 10 p)
    have h2 := spA_length 10 p []
    have h3 := spA_length 0 p []
    have h4 : (full (sp 0 p)).length ≤ (sp 0 p).length := List.length_filter_le _ _
    unfold sp at h1 h4
    rw [exLines (by omega), Option.bind_some, refLinesS (by omega), Option.bind_some, refSame (by unfold sp; omega), exItems (by omega), refItemsS (by omega)]
    simp only [Option.bind_some]
    rw [refSame (by unfold sp; omega)]
    simp [M_boulterlaw31_awake]
end Go.Av.L
