/-
  Names: their components; directories that are known, rising.
-/
import Derived.Test.YthnnciphldbmeaaGreatDoorAvNum
import Derived.Test.YthnnciphldbmeaaGreatDoorAvLib
namespace Go.Av.L
open Go.Av
set_option linter.unusedVariables false
set_option linter.unusedSimpArgs false
abbrev Em := List UInt8
def Dy : Em → Nat
 | [] => 0
 | b :: t => if b = 47 then 0 else Dy t + 1
theorem Qa (s : Em) : Dy s ≤ s.length := by
 induction s with
 | nil => simp [Dy]
 | cons b t ih => rw [Dy, List.length_cons]; split <;> omega
def QC : Em → Em → List Em
 | cur, [] => [cur]
 | cur, b :: t => if b = 47 then cur :: QC [] t else QC (cur ++ [b]) t
def full (l : List Em) : List Em := l.filter fun x => !(x == [])
def Cj (s : Em) : List Em := full (QC [] s)
theorem Ps (x : Em) (l : List Em) : full (x :: l) = bif x == [] then full l else x :: full l := by
 unfold full
 rw [List.filter_cons]
 cases (x == ([] : Em)) <;> rfl
theorem TM : ∀ (s cur : Em), QC cur s = if Dy s = s.length then [cur ++ s] else (cur ++ s.take (Dy s)) :: QC [] (s.drop (Dy s + 1))
 | [], cur => by simp [QC, Dy]
 | b :: t, cur => by
  rw [QC, Dy]
  by_cases hb : b = 47
  ·rw [if_pos hb, if_pos hb, if_neg (by simp)]; simp
  ·rw [if_neg hb, if_neg hb, TM t (cur ++ [b]), List.length_cons]
   by_cases h : Dy t = t.length
   ·rw [if_pos h, if_pos (by omega)]; simp
   ·rw [if_neg h, if_neg (by omega)]; simp
theorem J2 : Cj [] = [] := rfl
theorem Jo (s : Em) : Cj s = (bif s.take (Dy s) == [] then [] else [s.take (Dy s)]) ++ Cj (s.drop (Dy s + 1)) := by
 unfold Cj
 rw [TM s []]
 split
 ·rename_i h
  rw [h, List.drop_eq_nil_of_le (by omega), List.take_length, List.nil_append, Ps]
  show _ = _ ++ full (QC [] [])
  cases (s == ([] : Em)) <;> rfl
 ·rw [List.nil_append, Ps]
  cases (List.take (Dy s) s == ([] : Em)) <;> rfl
theorem Qt : ∀ (t cur : Em), (QC cur t).length ≤ t.length + 1
 | [], cur => by simp [QC]
 | b :: t, cur => by
  rw [QC]
  split
  ·have := Qt t []; simp only [List.length_cons]; omega
  ·have := Qt t (cur ++ [b]); simp only [List.length_cons]; omega
theorem NB (s : Em) : (Cj s).length ≤ s.length + 1 := Nat.le_trans (List.length_filter_le _ _) (Qt s [])
def UP (x : Em) : Prop := x ≠ [] ∧ (47 : UInt8) ∉ x
theorem Qk {x : Em} : ∀ (t cur : Em), (47 : UInt8) ∉ cur → x ∈ QC cur t → (47 : UInt8) ∉ x
 | [], cur, h, hx => by simp [QC] at hx; rw [hx]; exact h
 | b :: t, cur, h, hx => by
  rw [QC] at hx
  split at hx
  ·rcases List.mem_cons.1 hx with rfl | hx
   ·exact h
   ·exact Qk t [] (by simp) hx
  ·rename_i hb
   exact Qk t _ (by simp only [List.mem_append, List.mem_singleton, not_or]; exact ⟨h, fun e => hb e.symm⟩) hx
theorem Pw {s x : Em} (h : x ∈ Cj s) : UP x := by
 unfold Cj full at h
 rw [List.mem_filter] at h
 exact ⟨by simpa using h.2, Qk s [] (by simp) h.1⟩
def pj (l : List Em) : Em := Lib.join l [47]
theorem Qr : pj [] = [] := rfl
theorem QZ (x : Em) : pj [x] = x := Lib.join_one x _
theorem Md (x y : Em) (l : List Em) : pj (x :: y :: l) = x ++ 47 :: pj (y :: l) := by
 unfold pj
 rw [Lib.join_cons, Lib.join_cons]
 simp [Lib.joinTail]
theorem Vq {x : Em} (h : (47 : UInt8) ∉ x) : Dy x = x.length := by
 induction x with
 | nil => rfl
 | cons b t ih =>
  simp only [List.mem_cons, not_or] at h
  rw [Dy, if_neg (fun e => h.1 e.symm), ih h.2, List.length_cons]
theorem Uf {x t : Em} (h : (47 : UInt8) ∉ x) : Dy (x ++ 47 :: t) = x.length := by
 induction x with
 | nil => rfl
 | cons b x ih =>
  simp only [List.mem_cons, not_or] at h
  rw [List.cons_append, Dy, if_neg (fun e => h.1 e.symm), ih h.2, List.length_cons]
theorem Od : ∀ (l : List Em), (∀ x ∈ l, UP x) → Cj (pj l) = l
 | [], _ => rfl
 | [x], h => by
  obtain ⟨h1, h2⟩ := h x (by simp)
  rw [QZ, Jo, Vq h2, List.take_length, List.drop_eq_nil_of_le (by omega), J2, beq_eq_false_iff_ne.2 h1]; rfl
 | x :: y :: l, h => by
  obtain ⟨h1, h2⟩ := h x (by simp)
  have ih := Od (y :: l) fun z hz => h z (by simp [hz])
  rw [Md, Jo, Uf h2]
  have e1 : (x ++ 47 :: pj (y :: l)).take x.length = x := by simp
  have e2 : (x ++ 47 :: pj (y :: l)).drop (x.length + 1) = pj (y :: l) := by
   rw [List.drop_append, List.drop_eq_nil_of_le (by omega)]; simp
  rw [e1, e2, ih, beq_eq_false_iff_ne.2 h1]; rfl
theorem P5 : ∀ (n : Nat) (s : Em), s.length ≤ n → (pj (Cj s)).length ≤ s.length
 | 0, s, h => by
  have : s = [] := List.length_eq_zero_iff.1 (by omega)
  subst this; simp [J2, Qr]
 | n + 1, s, h => by
  by_cases hs : s = []
  ·subst hs; simp [J2, Qr]
  have hpos : 0 < s.length := List.length_pos_iff.2 hs
  have hle := Qa s
  have ih := P5 n (s.drop (Dy s + 1)) (by rw [List.length_drop]; omega)
  rw [List.length_drop] at ih
  rw [Jo s]
  cases hb : (s.take (Dy s) == ([] : Em)) with
  | true =>
   show (pj ([] ++ Cj (s.drop (Dy s + 1)))).length ≤ _
   rw [List.nil_append]
   omega
  | false =>
   show (pj ([s.take (Dy s)] ++ Cj (s.drop (Dy s + 1)))).length ≤ _
   rw [List.singleton_append]
   cases hc : Cj (s.drop (Dy s + 1)) with
   | nil => rw [QZ, List.length_take]; omega
   | cons y l =>
    rw [Md, List.length_append, List.length_cons, ← hc, List.length_take]
    have hne : Dy s < s.length := by
     rcases Nat.lt_or_ge (Dy s) s.length with q | q
     ·exact q
     ·rw [List.drop_eq_nil_of_le (by omega), J2] at hc; cases hc
    omega
theorem LF (s : Em) : (pj (Cj s)).length ≤ s.length := P5 s.length s (Nat.le_refl _)
theorem Ow : ∀ (l : List Em) (n : Nat), (pj (l.take n)).length ≤ (pj l).length
 | [], n => by simp
 | [x], n => by
  cases n with
  | zero => simp [Qr]
  | succ n => simp
 | x :: y :: l, n => by
  match n with
  | 0 => simp [Qr]
  | 1 => rw [List.take_succ_cons, List.take_zero, QZ, Md, List.length_append]; omega
  | n + 2 =>
   have := Ow (y :: l) (n + 1)
   rw [List.take_succ_cons, List.take_succ_cons, Md, Md, List.length_append, List.length_append, List.length_cons, List.length_cons]
   rw [List.take_succ_cons] at this
   omega
end Go.Av.L
