/-
 A part.
-/
import Derived.Test.YtdbkpibbjnhmgaaDoorAvNum
import Derived.Test.YtdbkpibbjnhmgaaDoorAvLib
namespace Go.Av.L
open Go.Av
set_option linter.unusedVariables false
set_option linter.unusedSimpArgs false
abbrev Bu := List UInt8
def Ba : Bu → Nat
 | [] => 0
 | b :: t => if b = 47 then 0 else Ba t + 1
theorem KK (s : Bu) : Ba s ≤ s.length := by
 induction s with
 | nil => simp [Ba]
 | cons b t ih => rw [Ba, List.length_cons]; split <;> omega
def PH : Bu → Bu → List Bu
 | cur, [] => [cur]
 | cur, b :: t => if b = 47 then cur :: PH [] t else PH (cur ++ [b]) t
def full (l : List Bu) : List Bu := l.filter fun x => !(x == [])
def DO (s : Bu) : List Bu := full (PH [] s)
theorem L7 (x : Bu) (l : List Bu) : full (x :: l) = bif x == [] then full l else x :: full l := by
 unfold full
 rw [List.filter_cons]
 cases (x == ([] : Bu)) <;> rfl
theorem O6 : ∀ (s cur : Bu), PH cur s = if Ba s = s.length then [cur ++ s] else (cur ++ s.take (Ba s)) :: PH [] (s.drop (Ba s + 1))
 | [], cur => by simp [PH, Ba]
 | b :: t, cur => by
  rw [PH, Ba]
  by_cases hb : b = 47
  ·rw [if_pos hb, if_pos hb, if_neg (by simp)]; simp
  ·rw [if_neg hb, if_neg hb, O6 t (cur ++ [b]), List.length_cons]
   by_cases h : Ba t = t.length
   ·rw [if_pos h, if_pos (by omega)]; simp
   ·rw [if_neg h, if_neg (by omega)]; simp
theorem EY : DO [] = [] := rfl
theorem FC (s : Bu) : DO s = (bif s.take (Ba s) == [] then [] else [s.take (Ba s)]) ++ DO (s.drop (Ba s + 1)) := by
 unfold DO
 rw [O6 s []]
 split
 ·rename_i h
  rw [h, List.drop_eq_nil_of_le (by omega), List.take_length, List.nil_append, L7]
  show _ = _ ++ full (PH [] [])
  cases (s == ([] : Bu)) <;> rfl
 ·rw [List.nil_append, L7]
  cases (List.take (Ba s) s == ([] : Bu)) <;> rfl
theorem Md : ∀ (t cur : Bu), (PH cur t).length ≤ t.length + 1
 | [], cur => by simp [PH]
 | b :: t, cur => by
  rw [PH]
  split
  ·have := Md t []; simp only [List.length_cons]; omega
  ·have := Md t (cur ++ [b]); simp only [List.length_cons]; omega
theorem Jj (s : Bu) : (DO s).length ≤ s.length + 1 := Nat.le_trans (List.length_filter_le _ _) (Md s [])
def N6 (x : Bu) : Prop := x ≠ [] ∧ (47 : UInt8) ∉ x
theorem MN {x : Bu} : ∀ (t cur : Bu), (47 : UInt8) ∉ cur → x ∈ PH cur t → (47 : UInt8) ∉ x
 | [], cur, h, hx => by simp [PH] at hx; rw [hx]; exact h
 | b :: t, cur, h, hx => by
  rw [PH] at hx
  split at hx
  ·rcases List.mem_cons.1 hx with rfl | hx
   ·exact h
   ·exact MN t [] (by simp) hx
  ·rename_i hb
   exact MN t _ (by simp only [List.mem_append, List.mem_singleton, not_or]; exact ⟨h, fun e => hb e.symm⟩) hx
theorem Lj {s x : Bu} (h : x ∈ DO s) : N6 x := by
 unfold DO full at h
 rw [List.mem_filter] at h
 exact ⟨by simpa using h.2, MN s [] (by simp) h.1⟩
def pj (l : List Bu) : Bu := Lib.join l [47]
theorem Hb : pj [] = [] := rfl
theorem FT (x : Bu) : pj [x] = x := Lib.join_one x _
theorem Df (x y : Bu) (l : List Bu) : pj (x :: y :: l) = x ++ 47 :: pj (y :: l) := by
 unfold pj
 rw [Lib.join_cons, Lib.join_cons]
 simp [Lib.joinTail]
theorem S1 {x : Bu} (h : (47 : UInt8) ∉ x) : Ba x = x.length := by
 induction x with
 | nil => rfl
 | cons b t ih =>
  simp only [List.mem_cons, not_or] at h
  rw [Ba, if_neg (fun e => h.1 e.symm), ih h.2, List.length_cons]
theorem Q6 {x t : Bu} (h : (47 : UInt8) ∉ x) : Ba (x ++ 47 :: t) = x.length := by
 induction x with
 | nil => rfl
 | cons b x ih =>
  simp only [List.mem_cons, not_or] at h
  rw [List.cons_append, Ba, if_neg (fun e => h.1 e.symm), ih h.2, List.length_cons]
theorem Nw : ∀ (l : List Bu), (∀ x ∈ l, N6 x) → DO (pj l) = l
 | [], _ => rfl
 | [x], h => by
  obtain ⟨h1, h2⟩ := h x (by simp)
  rw [FT, FC, S1 h2, List.take_length, List.drop_eq_nil_of_le (by omega), EY, beq_eq_false_iff_ne.2 h1]; rfl
 | x :: y :: l, h => by
  obtain ⟨h1, h2⟩ := h x (by simp)
  have ih := Nw (y :: l) fun z hz => h z (by simp [hz])
  rw [Df, FC, Q6 h2]
  have e1 : (x ++ 47 :: pj (y :: l)).take x.length = x := by simp
  have e2 : (x ++ 47 :: pj (y :: l)).drop (x.length + 1) = pj (y :: l) := by
   rw [List.drop_append, List.drop_eq_nil_of_le (by omega)]; simp
  rw [e1, e2, ih, beq_eq_false_iff_ne.2 h1]; rfl
theorem Ld : ∀ (n : Nat) (s : Bu), s.length ≤ n → (pj (DO s)).length ≤ s.length
 | 0, s, h => by
  have : s = [] := List.length_eq_zero_iff.1 (by omega)
  subst this; simp [EY, Hb]
 | n + 1, s, h => by
  by_cases hs : s = []
  ·subst hs; simp [EY, Hb]
  have hpos : 0 < s.length := List.length_pos_iff.2 hs
  have hle := KK s
  have ih := Ld n (s.drop (Ba s + 1)) (by rw [List.length_drop]; omega)
  rw [List.length_drop] at ih
  rw [FC s]
  cases hb : (s.take (Ba s) == ([] : Bu)) with
  | true =>
   show (pj ([] ++ DO (s.drop (Ba s + 1)))).length ≤ _
   rw [List.nil_append]
   omega
  | false =>
   show (pj ([s.take (Ba s)] ++ DO (s.drop (Ba s + 1)))).length ≤ _
   rw [List.singleton_append]
   cases hc : DO (s.drop (Ba s + 1)) with
   | nil => rw [FT, List.length_take]; omega
   | cons y l =>
    rw [Df, List.length_append, List.length_cons, ← hc, List.length_take]
    have hne : Ba s < s.length := by
     rcases Nat.lt_or_ge (Ba s) s.length with q | q
     ·exact q
     ·rw [List.drop_eq_nil_of_le (by omega), EY] at hc; cases hc
    omega
theorem Nc (s : Bu) : (pj (DO s)).length ≤ s.length := Ld s.length s (Nat.le_refl _)
theorem GZ : ∀ (l : List Bu) (n : Nat), (pj (l.take n)).length ≤ (pj l).length
 | [], n => by simp
 | [x], n => by
  cases n with
  | zero => simp [Hb]
  | succ n => simp
 | x :: y :: l, n => by
  match n with
  | 0 => simp [Hb]
  | 1 => rw [List.take_succ_cons, List.take_zero, FT, Df, List.length_append]; omega
  | n + 2 =>
   have := GZ (y :: l) (n + 1)
   rw [List.take_succ_cons, List.take_succ_cons, Df, Df, List.length_append, List.length_append, List.length_cons, List.length_cons]
   rw [List.take_succ_cons] at this
   omega
theorem Uf {a b : Bu} : Op.bytesLess a b = true ↔ a < b := by rw [Go.Proofs.bytesLess_eq]; simp
end Go.Av.L
