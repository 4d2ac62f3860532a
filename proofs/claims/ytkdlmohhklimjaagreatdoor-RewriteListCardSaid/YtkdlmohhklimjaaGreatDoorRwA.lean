/-
  RewriteParses: parts, numbers and flags, as both tell them.
-/
import Derived.Test.YtkdlmohhklimjaaGreatDoorKAll
import Derived.Test.YtkdlmohhklimjaaGreatDoorAvNum
import Derived.Test.YtkdlmohhklimjaaGreatDoorAvSm
namespace Go.Av.L
open Go.Av Go.Lib
set_option linter.unusedVariables false
set_option linter.unusedSimpArgs false

/-! ### a part -/
def partG (s : List UInt8) (d : Int) : Nat → Nat → List UInt8 → Option (List UInt8 × Nat)
  | 0, _, _ => none
  | n + 1, i, o =>
    match s[i]? with
    | none => none
    | some b =>
      if (b.toNat : Int) = d then some (o, i + 1)
      else if b.toNat = 92 then
        match s[i + 1]? with
        | some c => partG s d n (i + 2) (if (c.toNat : Int) = d then o ++ [c] else o ++ [92, c])
        | none => partG s d n (i + 1) (o ++ [b])
      else partG s d n (i + 1) (o ++ [b])
theorem partG_lt {s : List UInt8} {d : Int} : ∀ {n i : Nat} {o o' : List UInt8} {k : Nat}, partG s d n i o = some (o', k) → i < k ∧ k ≤ s.length
  | 0, i, o, o', k, h => by cases h
  | n + 1, i, o, o', k, h => by
    unfold partG at h
    cases hb : s[i]? with
    | none => rw [hb] at h; cases h
    | some b =>
      have hi := (List.getElem?_eq_some_iff.1 hb).1
      rw [hb] at h
      simp only at h
      split at h
      · cases h; omega
      · split at h
        · cases hc : s[i + 1]? with
          | none => rw [hc] at h; have := partG_lt h; omega
          | some c => rw [hc] at h; have := partG_lt h; omega
        · have := partG_lt h; omega
def outA : Option (List UInt8 × Nat) → Unit ⊕ (List UInt8 × Int × Bool)
  | some (o, k) => .inr (o, (k : Int), true)
  | none => .inl ()
def outB : Option (List UInt8 × Nat) → Unit ⊕ (List UInt8 × Int)
  | some (o, k) => .inr (o, (k : Int))
  | none => .inl ()
theorem u8_of {b : UInt8} {n : Nat} (hn : n < 256) (h : b.toNat = n) : b = UInt8.ofNat n := by
  have := UInt8.ofNat_toNat (x := b)
  rw [← h]; exact this.symm
theorem wrap1 {i n : Nat} (h : i ≤ 1000) (hn : n ≤ 10) : IntKind.i64.wrap ((i : Int) + (n : Int)) = ((i + n : Nat) : Int) := by rw [w64 (by omega) (by omega)]; omega
theorem toY_nat (b : UInt8) : toY (b.toNat : Int) = some b := by
  have h := byte_lt b
  have h2 := b.toNat_lt
  unfold toY
  simp
  exact h.2
theorem part_loop {s : List UInt8} {d : Int} (hs : s.length ≤ 900) : ∀ (n i : Nat) (o : List UInt8), s.length < n + i → i ≤ s.length → o.length ≤ i → loop (M_rewrite_part_L0 s d) (o, (i : Int)) = some (outA (partG s d n i o))
  | 0, i, o, h1, h2, _ => by omega
  | n + 1, i, o, h1, h2, h3 => by
    have e1 : IntKind.i64.wrap ((i : Int) + 1) = ((i + 1 : Nat) : Int) := wrap1 (n := 1) (by omega) (by omega)
    unfold partG
    cases hb : s[i]? with
    | none =>
      have hi : ¬ i < s.length := fun h => by rw [List.getElem?_eq_getElem h] at hb; cases hb
      refine loop_end ?_
      unfold M_rewrite_part_L0
      simp only []
      rw [iteB_dec, if_neg (by omega)]
      rfl
    | some b =>
      have hi := (List.getElem?_eq_some_iff.1 hb).1
      simp only []
      by_cases hd : (b.toNat : Int) = d
      · rw [if_pos hd]
        refine loop_end ?_
        unfold M_rewrite_part_L0
        simp only []
        rw [iteB_dec, if_pos (by omega), ixS_nat hb, Option.bind_some, iteB_beq, if_pos hd, e1]
        rfl
      · rw [if_neg hd]
        by_cases h9 : b.toNat = 92
        · rw [if_pos h9]
          cases hc : s[i + 1]? with
          | none =>
            have hi1 : ¬ i + 1 < s.length := fun h => by rw [List.getElem?_eq_getElem h] at hc; cases hc
            rw [loop_step (s' := (o ++ [b], ((i + 1 : Nat) : Int)))]
            · exact part_loop hs n (i + 1) _ (by omega) (by omega) (by simp; omega)
            · unfold M_rewrite_part_L0
              simp only []
              rw [iteB_dec, if_pos (by omega), ixS_nat hb, Option.bind_some, iteB_beq, if_neg hd, Option.bind_some, e1, decide_eq_false (p := ((i + 1 : Nat) : Int) < (s.length : Int)) (by omega), Bool.and_false, iteB_false, Option.bind_some]
              simp only []
              rw [ixS_nat hb, Option.bind_some, toY_nat, Option.bind_some, e1, okN_of (by simp; omega) (by simp; omega)]
              rfl
          | some c =>
            have hi1 := (List.getElem?_eq_some_iff.1 hc).1
            have e2 : IntKind.i64.wrap (((i + 1 : Nat) : Int) + 1) = ((i + 2 : Nat) : Int) := wrap1 (n := 1) (by omega) (by omega)
            rw [loop_step (s' := (if (c.toNat : Int) = d then o ++ [c] else o ++ [92, c], ((i + 2 : Nat) : Int)))]
            · exact part_loop hs n (i + 2) _ (by omega) (by omega) (by split <;> simp <;> omega)
            · unfold M_rewrite_part_L0
              simp only []
              rw [iteB_dec, if_pos (by omega), ixS_nat hb, Option.bind_some, iteB_beq, if_neg hd, Option.bind_some, e1, decide_eq_true (p := ((i + 1 : Nat) : Int) < (s.length : Int)) (by omega), show ((b.toNat : Int) == 92) = true from (beqN b.toNat 92).trans (decide_eq_true h9), Bool.and_self, iteB_true, ixS_nat hc, Option.bind_some]
              by_cases hcd : (c.toNat : Int) = d
              · rw [iteB_bne, if_pos hcd, if_pos hcd, Option.bind_some, Option.bind_some]
                simp only []
                rw [ixS_nat hc, Option.bind_some, toY_nat, Option.bind_some, e2, okN_of (by simp; omega) (by simp; omega)]
                rfl
              · rw [iteB_bne, if_neg hcd, if_neg hcd, okN_of (by simp; omega) (by simp; omega), need_true, Option.bind_some, Option.bind_some]
                simp only []
                rw [ixS_nat hc, Option.bind_some, toY_nat, Option.bind_some, e2, okN_of (by simp; omega) (by simp; omega)]
                simp
        · rw [if_neg h9]
          rw [loop_step (s' := (o ++ [b], ((i + 1 : Nat) : Int)))]
          · exact part_loop hs n (i + 1) _ (by omega) (by omega) (by simp; omega)
          · unfold M_rewrite_part_L0
            simp only []
            rw [iteB_dec, if_pos (by omega), ixS_nat hb, Option.bind_some, iteB_beq, if_neg hd, Option.bind_some, show ((b.toNat : Int) == 92) = false from (beqN b.toNat 92).trans (decide_eq_false h9), Bool.false_and, iteB_false, Option.bind_some]
            simp only []
            rw [ixS_nat hb, Option.bind_some, toY_nat, Option.bind_some, e1, okN_of (by simp; omega) (by simp; omega)]
            rfl
theorem rpart_loop {s : List UInt8} {d : Int} (hs : s.length ≤ 900) : ∀ (n i : Nat) (o : List UInt8), s.length < n + i → i ≤ s.length → o.length ≤ i → loop (M_boulterref24_part_L0 s d) ((i : Int), o) = some (outB (partG s d n i o))
  | 0, i, o, h1, h2, _ => by omega
  | n + 1, i, o, h1, h2, h3 => by
    have e1 : IntKind.i64.wrap ((i : Int) + 1) = ((i + 1 : Nat) : Int) := wrap1 (n := 1) (by omega) (by omega)
    have e2 : IntKind.i64.wrap ((i : Int) + 2) = ((i + 2 : Nat) : Int) := wrap1 (n := 2) (by omega) (by omega)
    unfold partG
    cases hb : s[i]? with
    | none =>
      have hi : ¬ i < s.length := fun h => by rw [List.getElem?_eq_getElem h] at hb; cases hb
      refine loop_end ?_
      unfold M_boulterref24_part_L0
      simp only []
      rw [iteB_dec, if_neg (by omega)]
      rfl
    | some b =>
      have hi := (List.getElem?_eq_some_iff.1 hb).1
      have t1 : (s.drop i).take (i + 1 - i) = [b] := by
        rw [show i + 1 - i = 1 by omega, List.drop_eq_getElem_cons hi]
        simp [(List.getElem?_eq_some_iff.1 hb).2]
      simp only []
      by_cases hd : (b.toNat : Int) = d
      · rw [if_pos hd]
        refine loop_end ?_
        unfold M_boulterref24_part_L0
        simp only []
        rw [iteB_dec, if_pos (by omega), ixS_nat hb, Option.bind_some, iteB_beq, if_pos hd, e1]
        rfl
      · rw [if_neg hd]
        by_cases h9 : b.toNat = 92
        · rw [if_pos h9]
          cases hc : s[i + 1]? with
          | none =>
            have hi1 : ¬ i + 1 < s.length := fun h => by rw [List.getElem?_eq_getElem h] at hc; cases hc
            rw [loop_step (s' := (((i + 1 : Nat) : Int), o ++ [b]))]
            · exact rpart_loop hs n (i + 1) _ (by omega) (by omega) (by simp; omega)
            · unfold M_boulterref24_part_L0
              simp only []
              rw [iteB_dec, if_pos (by omega), ixS_nat hb, Option.bind_some, iteB_beq, if_neg hd, Option.bind_some, e1, decide_eq_false (p := ((i + 1 : Nat) : Int) < (s.length : Int)) (by omega), Bool.and_false, iteB_false, subS_both (by omega) (by omega), t1, Option.bind_some, decide_eq_true (by simp; omega)]
              rfl
          | some c =>
            have hi1 := (List.getElem?_eq_some_iff.1 hc).1
            have t2 : (s.drop (i + 1)).take (i + 2 - (i + 1)) = [c] := by
              rw [show i + 2 - (i + 1) = 1 by omega, List.drop_eq_getElem_cons hi1]
              simp [(List.getElem?_eq_some_iff.1 hc).2]
            have t3 : (s.drop i).take (i + 2 - i) = [92, c] := by
              rw [show i + 2 - i = 2 by omega, List.drop_eq_getElem_cons hi, List.drop_eq_getElem_cons hi1]
              have := u8_of (by omega) h9
              simp [(List.getElem?_eq_some_iff.1 hb).2, (List.getElem?_eq_some_iff.1 hc).2, this]
            rw [loop_step (s' := (((i + 2 : Nat) : Int), if (c.toNat : Int) = d then o ++ [c] else o ++ [92, c]))]
            · exact rpart_loop hs n (i + 2) _ (by omega) (by omega) (by split <;> simp <;> omega)
            · unfold M_boulterref24_part_L0
              simp only []
              rw [iteB_dec, if_pos (by omega), ixS_nat hb, Option.bind_some, iteB_beq, if_neg hd, Option.bind_some, e1, decide_eq_true (p := ((i + 1 : Nat) : Int) < (s.length : Int)) (by omega), show ((b.toNat : Int) == 92) = true from (beqN b.toNat 92).trans (decide_eq_true h9), Bool.and_self, iteB_true, ixS_nat hc, Option.bind_some, e2]
              by_cases hcd : (c.toNat : Int) = d
              · rw [iteB_beq, if_pos hcd, if_pos hcd, subS_both (by omega) (by omega), t2, Option.bind_some, decide_eq_true (by simp; omega)]
                rfl
              · rw [iteB_beq, if_neg hcd, if_neg hcd, subS_both (by omega) (by omega), t3, Option.bind_some, decide_eq_true (by simp; omega)]
                rfl
        · rw [if_neg h9]
          rw [loop_step (s' := (((i + 1 : Nat) : Int), o ++ [b]))]
          · exact rpart_loop hs n (i + 1) _ (by omega) (by omega) (by simp; omega)
          · unfold M_boulterref24_part_L0
            simp only []
            rw [iteB_dec, if_pos (by omega), ixS_nat hb, Option.bind_some, iteB_beq, if_neg hd, Option.bind_some, show ((b.toNat : Int) == 92) = false from (beqN b.toNat 92).trans (decide_eq_false h9), Bool.false_and, iteB_false, e1, subS_both (by omega) (by omega), t1, Option.bind_some, decide_eq_true (by simp; omega)]
            rfl
def resA (s : List UInt8) : Option (List UInt8 × Nat) → List UInt8 × Int × Bool
  | some (o, k) => (o, (k : Int), true)
  | none => ([], (s.length : Int), false)
def resB : Option (List UInt8 × Nat) → List UInt8 × Int
  | some (o, k) => (o, (k : Int))
  | none => ([], -1)
theorem part_eq {s : List UInt8} {d : Int} (hs : s.length ≤ 900) {i : Nat} (hi : i ≤ s.length) : M_rewrite_part s (i : Int) d = some (resA s (partG s d (s.length + 1) i [])) := by
  unfold M_rewrite_part
  rw [part_loop hs (s.length + 1) i [] (by omega) hi (by simp), Option.bind_some]
  cases partG s d (s.length + 1) i [] <;> rfl
theorem rpart_eq {s : List UInt8} {d : Int} (hs : s.length ≤ 900) {i : Nat} (hi : i ≤ s.length) : M_boulterref24_part s (i : Int) d = some (resB (partG s d (s.length + 1) i [])) := by
  unfold M_boulterref24_part
  rw [rpart_loop hs (s.length + 1) i [] (by omega) hi (by simp), Option.bind_some]
  cases partG s d (s.length + 1) i [] <;> rfl

/-! ### numbers -/
def isD (b : UInt8) : Prop := 48 ≤ b.toNat ∧ b.toNat ≤ 57
instance (b : UInt8) : Decidable (isD b) := inferInstanceAs (Decidable (_ ∧ _))
theorem ten_le {m n : Nat} (h : m ≤ n) : (10 : Int) ^ m ≤ 10 ^ n := by
  have := Nat.pow_le_pow_right (n := 10) (by decide) h
  exact_mod_cast this
theorem isD_dec (c : UInt8) : (decide ((c.toNat : Int) ≥ 48) && decide ((c.toNat : Int) ≤ 57)) = decide (isD c) := by
  rw [Bool.eq_iff_iff]
  simp only [Bool.and_eq_true, decide_eq_true_eq]
  unfold isD
  omega
def digE (s : List UInt8) : Nat → Nat → Nat
  | 0, i => i
  | n + 1, i =>
    match s[i]? with
    | some b => if isD b then digE s n (i + 1) else i
    | none => i
theorem digE_spec {s : List UInt8} : ∀ (n i : Nat), i ≤ s.length → i ≤ digE s n i ∧ digE s n i ≤ s.length ∧ ∀ j b, i ≤ j → j < digE s n i → s[j]? = some b → isD b
  | 0, i, h => ⟨Nat.le_refl _, h, fun j b h1 h2 => by unfold digE at h2; omega⟩
  | n + 1, i, h => by
    unfold digE
    cases hb : s[i]? with
    | none => exact ⟨Nat.le_refl _, h, fun j b h1 h2 => by simp only at h2; omega⟩
    | some b =>
      have hi := (List.getElem?_eq_some_iff.1 hb).1
      simp only []
      split
      · rename_i hd
        obtain ⟨h1, h2, h3⟩ := digE_spec n (i + 1) hi
        refine ⟨by omega, h2, fun j c a1 a2 a3 => ?_⟩
        by_cases hj : j = i
        · subst hj; rw [hb] at a3; cases a3; exact hd
        · exact h3 j c (by omega) a2 a3
      · exact ⟨Nat.le_refl _, h, fun j b h1 h2 => by omega⟩
def val (l : List UInt8) : Int := l.foldl (fun v b => v * 10 + ((b.toNat : Int) - 48)) 0
theorem val_snoc (l : List UInt8) (b : UInt8) : val (l ++ [b]) = val l * 10 + ((b.toNat : Int) - 48) := by simp [val]
theorem val_bd : ∀ (n : Nat) (l : List UInt8), l.length = n → (∀ b ∈ l, isD b) → 0 ≤ val l ∧ val l < 10 ^ n
  | 0, l, hl, _ => by
    have : l = [] := List.length_eq_zero_iff.1 hl
    subst this; exact ⟨Int.le_refl 0, by decide⟩
  | n + 1, l, hl, hd => by
    obtain ⟨t, b, rfl⟩ : ∃ t b, l = t ++ [b] := by
      have hne : l ≠ [] := fun h => by rw [h] at hl; cases hl
      exact ⟨l.dropLast, l.getLast hne, (List.dropLast_concat_getLast hne).symm⟩
    have hb := hd b (by simp)
    obtain ⟨h1, h2⟩ := val_bd n t (by simpa using hl) (fun c hc => hd c (by simp [hc]))
    rw [val_snoc]
    unfold isD at hb
    have : (10 : Int) ^ (n + 1) = 10 ^ n * 10 := Int.pow_succ ..
    omega
theorem val_lo : ∀ (n : Nat) (l : List UInt8) (b : UInt8), l.length = n → (∀ c ∈ l, isD c) → 49 ≤ b.toNat → (10 : Int) ^ n ≤ val (b :: l)
  | 0, l, b, hl, _, hb => by
    have : l = [] := List.length_eq_zero_iff.1 hl
    subst this
    simp [val]; omega
  | n + 1, l, b, hl, hd, hb => by
    obtain ⟨t, c, rfl⟩ : ∃ t c, l = t ++ [c] := by
      have hne : l ≠ [] := fun h => by rw [h] at hl; cases hl
      exact ⟨l.dropLast, l.getLast hne, (List.dropLast_concat_getLast hne).symm⟩
    have hc := hd c (by simp)
    have h1 := val_lo n t b (by simpa using hl) (fun c hc => hd c (by simp [hc])) hb
    rw [← List.cons_append, val_snoc]
    unfold isD at hc
    have : (10 : Int) ^ (n + 1) = 10 ^ n * 10 := Int.pow_succ ..
    omega
/-! ### flags -/
structure Fl where
  g : Bool
  f : Bool
  x : Bool
  n : Int
  nm : Bool
  sf : Bool
  hd : Bool
def act (s : List UInt8) (i b : Nat) (f : Fl) : Option (Fl × Int × Nat) :=
  if b = 103 then some ({ f with g := true }, 103, i + 1)
  else if b = 105 then some ({ f with f := true }, 105, i + 1)
  else if b = 120 then some ({ f with x := true }, 120, i + 1)
  else if b = 114 then some ({ f with nm := true }, 114, i + 1)
  else if b = 82 then some ({ f with nm := false }, 114, i + 1)
  else if b = 115 then some ({ f with sf := true }, 115, i + 1)
  else if b = 83 then some ({ f with sf := false }, 115, i + 1)
  else if b = 104 then some ({ f with hd := true }, 104, i + 1)
  else if b = 72 then some ({ f with hd := false }, 104, i + 1)
  else if 49 ≤ b ∧ b ≤ 57 then
    if 4 < digE s (s.length + 1) (i + 1) - i then none else some ({ f with n := val ((s.drop i).take (digE s (s.length + 1) (i + 1) - i)) }, 49, digE s (s.length + 1) (i + 1))
  else none
theorem act_lt {s : List UInt8} {i b : Nat} {f f' : Fl} {k : Int} {j : Nat} (hi : i < s.length) (h : act s i b f = some (f', k, j)) : i < j ∧ j ≤ s.length ∧ 0 ≤ k ∧ k ≤ 255 := by
  have hd := digE_spec (s := s) (s.length + 1) (i + 1) (by omega)
  unfold act at h
  by_cases h103 : b = 103
  · rw [if_pos h103] at h
    simp only [Option.some.injEq, Prod.mk.injEq] at h
    obtain ⟨_, rfl, rfl⟩ := h
    omega
  rw [if_neg h103] at h
  by_cases h105 : b = 105
  · rw [if_pos h105] at h
    simp only [Option.some.injEq, Prod.mk.injEq] at h
    obtain ⟨_, rfl, rfl⟩ := h
    omega
  rw [if_neg h105] at h
  by_cases h120 : b = 120
  · rw [if_pos h120] at h
    simp only [Option.some.injEq, Prod.mk.injEq] at h
    obtain ⟨_, rfl, rfl⟩ := h
    omega
  rw [if_neg h120] at h
  by_cases h114 : b = 114
  · rw [if_pos h114] at h
    simp only [Option.some.injEq, Prod.mk.injEq] at h
    obtain ⟨_, rfl, rfl⟩ := h
    omega
  rw [if_neg h114] at h
  by_cases h82 : b = 82
  · rw [if_pos h82] at h
    simp only [Option.some.injEq, Prod.mk.injEq] at h
    obtain ⟨_, rfl, rfl⟩ := h
    omega
  rw [if_neg h82] at h
  by_cases h115 : b = 115
  · rw [if_pos h115] at h
    simp only [Option.some.injEq, Prod.mk.injEq] at h
    obtain ⟨_, rfl, rfl⟩ := h
    omega
  rw [if_neg h115] at h
  by_cases h83 : b = 83
  · rw [if_pos h83] at h
    simp only [Option.some.injEq, Prod.mk.injEq] at h
    obtain ⟨_, rfl, rfl⟩ := h
    omega
  rw [if_neg h83] at h
  by_cases h104 : b = 104
  · rw [if_pos h104] at h
    simp only [Option.some.injEq, Prod.mk.injEq] at h
    obtain ⟨_, rfl, rfl⟩ := h
    omega
  rw [if_neg h104] at h
  by_cases h72 : b = 72
  · rw [if_pos h72] at h
    simp only [Option.some.injEq, Prod.mk.injEq] at h
    obtain ⟨_, rfl, rfl⟩ := h
    omega
  rw [if_neg h72] at h
  by_cases hb : 49 ≤ b ∧ b ≤ 57
  · rw [if_pos hb] at h
    by_cases h4 : 4 < digE s (s.length + 1) (i + 1) - i
    · rw [if_pos h4] at h; cases h
    · rw [if_neg h4] at h
      simp only [Option.some.injEq, Prod.mk.injEq] at h
      obtain ⟨_, rfl, rfl⟩ := h
      omega
  · rw [if_neg hb] at h; cases h
def flagsG (s : List UInt8) : Nat → Nat → Fl → List Int → Fl ⊕ Nat
  | 0, _, f, _ => .inl f
  | n + 1, i, f, seen =>
    match s[i]? with
    | none => .inl f
    | some b =>
      match act s i b.toNat f with
      | none => .inr i
      | some (f', k, j) => if k ∈ seen then .inr i else flagsG s n j f' (seen ++ [k])
end Go.Av.L
