/-
  Exfile: lines as the program takes them.
-/
import Derived.Test.YtcmfogjpkkodbaaDoorExLib
namespace Go.Av.L
open Go.Av
set_option linter.unusedVariables false
set_option linter.unusedSimpArgs false

/-- rounds along a list -/
def iterL {X σ ρ : Type} (Y : σ → X → Option (σ ⊕ ρ)) : List X → σ → Option (σ ⊕ ρ)
  | [], s => some (.inl s)
  | x :: t, s => (Y s x).bind fun o => match o with | .inl s' => iterL Y t s' | .inr r => some (.inr r)
theorem yld_inl {X σ ρ : Type} {Y : σ → X → Option (σ ⊕ ρ)} {s : σ} {x : X} {o : σ ⊕ ρ} (h : Y s x = some o) : yld Y (.inl s) x = some (o.isLeft, o) := by
  show (Y s x).map _ = _
  rw [h]; rfl
/-- the length of the first line, with its line end -/
def nlen : Str → Nat
  | [] => 0
  | b :: t => if b = 10 then 1 else nlen t + 1
theorem nlen_le (s : Str) : nlen s ≤ s.length := by
  induction s with
  | nil => simp [nlen]
  | cons b t ih => rw [nlen, List.length_cons]; split <;> omega
theorem nlen_idx (s : Str) : (idxOf s 10 < 0 ∧ nlen s = s.length) ∨ (0 ≤ idxOf s 10 ∧ (nlen s : Int) = idxOf s 10 + 1) := by
  induction s with
  | nil => exact .inl ⟨by rw [idxOf_nil]; omega, rfl⟩
  | cons b t ih =>
    rw [idxOf_cons, nlen, List.length_cons]
    by_cases hb : b = 10
    · rw [if_pos hb, if_pos hb]; omega
    · rw [if_neg hb, if_neg hb]
      rcases ih with ⟨h1, h2⟩ | ⟨h1, h2⟩
      · rw [if_pos h1]; omega
      · rw [if_neg (by omega)]; omega
/-- the lines, with their line ends -/
def lnsA : Str → Str → List Str
  | cur, [] => if cur = [] then [] else [cur]
  | cur, b :: t => if b = 10 then (cur ++ [10]) :: lnsA [] t else lnsA (cur ++ [b]) t
def lns (s : Str) : List Str := lnsA [] s
theorem lnsA_cut : ∀ (x cur : Str), lnsA cur x = if cur ++ x = [] then [] else (cur ++ x.take (nlen x)) :: lnsA [] (x.drop (nlen x))
  | [], cur => by
    rw [lnsA, List.append_nil]
    split
    · rfl
    · show [cur] = (cur ++ []) :: lnsA [] []
      rw [List.append_nil]; rfl
  | b :: t, cur => by
    have hne : ¬ (cur ++ b :: t = []) := by simp
    rw [if_neg hne, lnsA, nlen]
    by_cases hb : b = 10
    · rw [if_pos hb, if_pos hb, hb]; simp
    · rw [if_neg hb, if_neg hb, lnsA_cut t (cur ++ [b]), if_neg (by simp)]; simp
theorem indexByteS {s : Str} {c : Int} (h : 0 ≤ c ∧ c ≤ 255) : M_strings_IndexByte s c = some (idxOf s (UInt8.ofNat c.toNat)) := by
  simp [M_strings_IndexByte, M_stringslite_IndexByte, X_IndexByte, h]
theorem lnsA_mem {x : Str} : ∀ (t cur : Str), x ∈ lnsA cur t → x.length ≤ cur.length + t.length
  | [], cur, h => by
    rw [lnsA] at h
    split at h
    · cases h
    · simp at h; rw [h]; simp
  | b :: t, cur, h => by
    rw [lnsA] at h
    split at h
    · rcases List.mem_cons.1 h with rfl | h
      · simp
      · have := lnsA_mem t [] h; simp at this ⊢; omega
    · have := lnsA_mem t _ h; simp at this ⊢; omega
def outL {σ ρ : Type} (q : Str) : σ ⊕ ρ → ((List UInt8) × (σ ⊕ ρ)) ⊕ (((List UInt8) × (σ ⊕ ρ)) ⊕ ((List UInt8) × (σ ⊕ ρ)))
  | .inl s' => .inl (q, .inl s')
  | .inr r => .inr (.inr (q, .inr r))
/-- what 'strings.Lines' goes through -/
theorem linesIter {σ ρ : Type} {Y : σ → Str → Option (σ ⊕ ρ)} : ∀ (n : Nat) (p : Str) (s : σ) (o : σ ⊕ ρ), p.length ≤ n → p.length < 4611686018427387904 → iterL Y (lns p) s = some o → ∃ rest, M_strings_Lines_1_s0 Y (.inl s) p = some (rest, o) := by
  have key : ∀ (n : Nat) (p : Str) (s : σ) (o : σ ⊕ ρ), p.length ≤ n → p.length < 4611686018427387904 → iterL Y (lns p) s = some o → ∃ rest, loop (M_strings_Lines_1_s0_L0 Y) (p, .inl s) = some (.inl (rest, o)) ∨ loop (M_strings_Lines_1_s0_L0 Y) (p, .inl s) = some (.inr (rest, o)) := by
    intro n
    induction n with
    | zero =>
      intro p s o hn hp h
      have : p = [] := List.length_eq_zero_iff.1 (by omega)
      subst this
      obtain rfl : .inl s = o := Option.some.inj h
      exact ⟨[], .inl (loop_done rfl)⟩
    | succ n ih =>
      intro p s o hn hp h
      by_cases he : p = []
      · subst he
        obtain rfl : .inl s = o := Option.some.inj h
        exact ⟨[], .inl (loop_done rfl)⟩
      have hpos : 0 < p.length := List.length_pos_iff.2 he
      unfold lns at h
      rw [lnsA_cut, List.nil_append, if_neg he, List.nil_append, iterL] at h
      obtain ⟨o1, h1, h⟩ := bind_some h
      have hstep : M_strings_Lines_1_s0_L0 Y (p, .inl s) = some (outL (p.drop (nlen p)) o1) := by
        clear h
        rw [M_strings_Lines_1_s0_L0, iteB_dec, if_pos (by omega), indexByteS (by omega), Option.bind_some, iteB_dec]
        have hy := yld_inl h1
        show (Option.bind (ite (idxOf p 10 ≥ 0) _ _) _) = _
        rcases nlen_idx p with ⟨k1, k2⟩ | ⟨k1, k2⟩
        · rw [if_neg (by omega), Option.bind_some]
          have e1 : p.take (nlen p) = p := by rw [k2, List.take_length]
          have e2 : p.drop (nlen p) = [] := by rw [k2, List.drop_length]
          rw [e1] at hy
          dsimp only
          rw [hy, e2]
          cases o1 <;> rfl
        · rw [if_pos k1]
          have hle := nlen_le p
          have e1 : IntKind.i64.wrap (idxOf p (UInt8.ofNat (10 : Int).toNat) + 1) = (nlen p : Int) := by
            show IntKind.i64.wrap (idxOf p 10 + 1) = _
            rw [w64 (by omega) (by omega)]; omega
          rw [e1, subS_hi hle, Option.bind_some, subS_lo hle, Option.bind_some, Option.bind_some]
          dsimp only
          rw [hy]
          cases o1 <;> rfl
      have hl : 0 < nlen p := by
        cases p with
        | nil => exact absurd rfl he
        | cons b t => rw [nlen]; split <;> omega
      cases o1 with
      | inl s' =>
        obtain ⟨rest, hr⟩ := ih (p.drop (nlen p)) s' o (by rw [List.length_drop]; omega) (by rw [List.length_drop]; omega) h
        exact ⟨rest, by rw [loop_step hstep]; exact hr⟩
      | inr r =>
        obtain rfl : .inr r = o := Option.some.inj h
        exact ⟨_, .inr (loop_done hstep)⟩
  intro n p s o hn hp h
  obtain ⟨rest, hr | hr⟩ := key n p s o hn hp h
  · exact ⟨rest, by unfold M_strings_Lines_1_s0; rw [hr]; rfl⟩
  · exact ⟨rest, by unfold M_strings_Lines_1_s0; rw [hr]; rfl⟩
/-! the program's lines -/
theorem lines_Y0 {acc : List Str} {v : Str} (ha : acc.length < 1000000) (hv : v.length < 4611686018427387904) : M_exfile_Lines_Y0 acc v = some (.inl (acc ++ (keep (trimN v)).toList)) := by
  rw [M_exfile_Lines_Y0, trimSuffix hv, Option.bind_some, skip_eq, Option.bind_some, iteB_dec, keep_eq]
  split
  · simp
  · rw [hasPrefix, Option.bind_some]
    have e : (iteB (List.take ([92, 35] : Str).length (trimN v) == [92, 35]) ((subS (trimN v) (some 1) none).bind fun x8 => some x8) (some (trimN v)) : Option Str) = some (unq (trimN v)) := by
      unfold unq
      by_cases h : (trimN v).take 2 = [92, 35]
      · rw [if_pos h, show (List.take ([92, 35] : Str).length (trimN v) == [92, 35]) = true from by simpa using h, iteB_true, drop1 h]; rfl
      · rw [if_neg h, show (List.take ([92, 35] : Str).length (trimN v) == [92, 35]) = false from by simpa using h, iteB_false]
    rw [e, Option.bind_some, okN_of (by simp; omega) (by simp; omega), need_true]
    rfl
theorem lines_iter : ∀ (l : List Str) (acc : List Str), acc.length + l.length < 1000000 → (∀ x ∈ l, x.length < 4611686018427387904) → iterL M_exfile_Lines_Y0 l acc = some (.inl (acc ++ keeps (l.map trimN)))
  | [], acc, h, _ => by simp [iterL, keeps]
  | x :: l, acc, h, hx => by
    rw [iterL, lines_Y0 (by omega) (hx x (by simp)), Option.bind_some]
    have hk : (keep (trimN x)).toList.length ≤ 1 := by cases keep (trimN x) <;> simp
    simp only [List.length_cons] at h
    dsimp only
    rw [lines_iter l _ (by rw [List.length_append]; omega) (fun y hy => hx y (by simp [hy])), List.map_cons, keeps_cons, List.append_assoc]
theorem lnsA_length : ∀ (t cur : Str), (lnsA cur t).length ≤ t.length + 1
  | [], cur => by rw [lnsA]; split <;> simp
  | b :: t, cur => by
    rw [lnsA]
    split
    · have := lnsA_length t []; simp only [List.length_cons]; omega
    · have := lnsA_length t (cur ++ [b]); simp only [List.length_cons]; omega
theorem trimN_ne {x : Str} (h : 10 ∉ x) : trimN x = x := by
  unfold trimN
  rw [if_neg]
  intro he
  exact h (List.mem_of_getLast? he)
theorem trimN_end (x : Str) : trimN (x ++ [10]) = x := by
  unfold trimN
  rw [if_pos (by simp)]; simp
theorem keeps_lns : ∀ (t cur : Str), 10 ∉ cur → keeps ((lnsA cur t).map trimN) = keeps (spA 10 cur t)
  | [], cur, h => by
    rw [lnsA, spA]
    split
    · rename_i he; subst he; rfl
    · rw [List.map_cons, trimN_ne h]; rfl
  | b :: t, cur, h => by
    rw [lnsA, spA]
    split
    · rw [List.map_cons, keeps_cons, keeps_cons, trimN_end, keeps_lns t [] (by simp)]
    · rename_i hb
      exact keeps_lns t _ (by simp only [List.mem_append, List.mem_singleton, not_or]; exact ⟨h, fun e => hb e.symm⟩)
theorem exLines {p : Str} (hp : p.length < 900000) : M_exfile_Lines p = some (keeps (sp 10 p)) := by
  have h1 := lnsA_length p []
  obtain ⟨rest, hr⟩ := linesIter (Y := M_exfile_Lines_Y0) p.length p [] _ (Nat.le_refl _) (by omega) (lines_iter (lns p) [] (by simp only [List.length_nil]; unfold lns; omega) (fun x hx => by have := lnsA_mem p [] hx; simp at this; omega))
  simp only [M_exfile_Lines, M_strings_Lines, Option.bind_some]
  rw [hr]
  simp only [Option.bind_some, List.nil_append]
  unfold lns sp
  rw [keeps_lns p [] (by simp)]
end Go.Av.L
