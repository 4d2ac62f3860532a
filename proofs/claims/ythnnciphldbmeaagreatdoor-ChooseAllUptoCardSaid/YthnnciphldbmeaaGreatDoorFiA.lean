/-
  Names: their components; directories that are known, rising.
-/
import Derived.Test.YthnnciphldbmeaaGreatDoorAvNum
import Derived.Test.YthnnciphldbmeaaGreatDoorAvLib
namespace Go.Av.L
open Go.Av
set_option linter.unusedVariables false
set_option linter.unusedSimpArgs false
abbrev GO := List UInt8
def D6 : GO → Nat
 | [] => 0
 | b :: t => if b = 47 then 0 else D6 t + 1
theorem Pz (s : GO) : D6 s ≤ s.length := by
 induction s with
 | nil => simp [D6]
 | cons b t ih => rw [D6, List.length_cons]; split <;> omega
def Sn : GO → GO → List GO
 | cur, [] => [cur]
 | cur, b :: t => if b = 47 then cur :: Sn [] t else Sn (cur ++ [b]) t
def full (l : List GO) : List GO := l.filter fun x => !(x == [])
def Hi (s : GO) : List GO := full (Sn [] s)
theorem PI (x : GO) (l : List GO) : full (x :: l) = bif x == [] then full l else x :: full l := by
 unfold full
 rw [List.filter_cons]
 cases (x == ([] : GO)) <;> rfl
theorem Sk : ∀ (s cur : GO), Sn cur s = if D6 s = s.length then [cur ++ s] else (cur ++ s.take (D6 s)) :: Sn [] (s.drop (D6 s + 1))
 | [], cur => by simp [Sn, D6]
 | b :: t, cur => by
  rw [Sn, D6]
  by_cases hb : b = 47
  ·rw [if_pos hb, if_pos hb, if_neg (by simp)]; simp
  ·rw [if_neg hb, if_neg hb, Sk t (cur ++ [b]), List.length_cons]
   by_cases h : D6 t = t.length
   ·rw [if_pos h, if_pos (by omega)]; simp
   ·rw [if_neg h, if_neg (by omega)]; simp
theorem LB : Hi [] = [] := rfl
theorem Mf (s : GO) : Hi s = (bif s.take (D6 s) == [] then [] else [s.take (D6 s)]) ++ Hi (s.drop (D6 s + 1)) := by
 unfold Hi
 rw [Sk s []]
 split
 ·rename_i h
  rw [h, List.drop_eq_nil_of_le (by omega), List.take_length, List.nil_append, PI]
  show _ = _ ++ full (Sn [] [])
  cases (s == ([] : GO)) <;> rfl
 ·rw [List.nil_append, PI]
  cases (List.take (D6 s) s == ([] : GO)) <;> rfl
theorem Po : ∀ (t cur : GO), (Sn cur t).length ≤ t.length + 1
 | [], cur => by simp [Sn]
 | b :: t, cur => by
  rw [Sn]
  split
  ·have := Po t []; simp only [List.length_cons]; omega
  ·have := Po t (cur ++ [b]); simp only [List.length_cons]; omega
theorem PD (s : GO) : (Hi s).length ≤ s.length + 1 := Nat.le_trans (List.length_filter_le _ _) (Po s [])
def Wm (x : GO) : Prop := x ≠ [] ∧ (47 : UInt8) ∉ x
theorem Pm {x : GO} : ∀ (t cur : GO), (47 : UInt8) ∉ cur → x ∈ Sn cur t → (47 : UInt8) ∉ x
 | [], cur, h, hx => by simp [Sn] at hx; rw [hx]; exact h
 | b :: t, cur, h, hx => by
  rw [Sn] at hx
  split at hx
  ·rcases List.mem_cons.1 hx with rfl | hx
   ·exact h
   ·exact Pm t [] (by simp) hx
  ·rename_i hb
   exact Pm t _ (by simp only [List.mem_append, List.mem_singleton, not_or]; exact ⟨h, fun e => hb e.symm⟩) hx
theorem TP {s x : GO} (h : x ∈ Hi s) : Wm x := by
 unfold Hi full at h
 rw [List.mem_filter] at h
 exact ⟨by simpa using h.2, Pm s [] (by simp) h.1⟩
def pj (l : List GO) : GO := Lib.join l [47]
theorem T6 : pj [] = [] := rfl
theorem WI (x : GO) : pj [x] = x := Lib.join_one x _
theorem Um (x y : GO) (l : List GO) : pj (x :: y :: l) = x ++ 47 :: pj (y :: l) := by
 unfold pj
 rw [Lib.join_cons, Lib.join_cons]
 simp [Lib.joinTail]
theorem Pe : ∀ (n : Nat) (s : GO), s.length ≤ n → (pj (Hi s)).length ≤ s.length
 | 0, s, h => by
  have : s = [] := List.length_eq_zero_iff.1 (by omega)
  subst this; simp [LB, T6]
 | n + 1, s, h => by
  by_cases hs : s = []
  ·subst hs; simp [LB, T6]
  have hpos : 0 < s.length := List.length_pos_iff.2 hs
  have hle := Pz s
  have ih := Pe n (s.drop (D6 s + 1)) (by rw [List.length_drop]; omega)
  rw [List.length_drop] at ih
  rw [Mf s]
  cases hb : (s.take (D6 s) == ([] : GO)) with
  | true =>
   show (pj ([] ++ Hi (s.drop (D6 s + 1)))).length ≤ _
   rw [List.nil_append]
   omega
  | false =>
   show (pj ([s.take (D6 s)] ++ Hi (s.drop (D6 s + 1)))).length ≤ _
   rw [List.singleton_append]
   cases hc : Hi (s.drop (D6 s + 1)) with
   | nil => rw [WI, List.length_take]; omega
   | cons y l =>
    rw [Um, List.length_append, List.length_cons, ← hc, List.length_take]
    have hne : D6 s < s.length := by
     rcases Nat.lt_or_ge (D6 s) s.length with q | q
     ·exact q
     ·rw [List.drop_eq_nil_of_le (by omega), LB] at hc; cases hc
    omega
theorem Qw (s : GO) : (pj (Hi s)).length ≤ s.length := Pe s.length s (Nat.le_refl _)
end Go.Av.L
