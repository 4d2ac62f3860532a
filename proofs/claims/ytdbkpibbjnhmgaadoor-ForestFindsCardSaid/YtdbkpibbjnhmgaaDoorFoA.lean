/-
 A part.
-/
import Derived.Test.YtdbkpibbjnhmgaaDoorAvNum
import Derived.Test.YtdbkpibbjnhmgaaDoorAvLib
namespace Go.Av.L
open Go.Av
set_option linter.unusedVariables false
set_option linter.unusedSimpArgs false
abbrev B9 := List UInt8
def Bu : B9 → Nat
 | [] => 0
 | b :: t => if b = 47 then 0 else Bu t + 1
theorem K1 (s : B9) : Bu s ≤ s.length := by
 induction s with
 | nil => simp [Bu]
 | cons b t ih => rw [Bu, List.length_cons]; split <;> omega
def P0 : B9 → B9 → List B9
 | cur, [] => [cur]
 | cur, b :: t => if b = 47 then cur :: P0 [] t else P0 (cur ++ [b]) t
def full (l : List B9) : List B9 := l.filter fun x => !(x == [])
def Dv (s : B9) : List B9 := full (P0 [] s)
theorem MR (x : B9) (l : List B9) : full (x :: l) = bif x == [] then full l else x :: full l := by
 unfold full
 rw [List.filter_cons]
 cases (x == ([] : B9)) <;> rfl
theorem Qd : ∀ (s cur : B9), P0 cur s = if Bu s = s.length then [cur ++ s] else (cur ++ s.take (Bu s)) :: P0 [] (s.drop (Bu s + 1))
 | [], cur => by simp [P0, Bu]
 | b :: t, cur => by
  rw [P0, Bu]
  by_cases hb : b = 47
  ·rw [if_pos hb, if_pos hb, if_neg (by simp)]; simp
  ·rw [if_neg hb, if_neg hb, Qd t (cur ++ [b]), List.length_cons]
   by_cases h : Bu t = t.length
   ·rw [if_pos h, if_pos (by omega)]; simp
   ·rw [if_neg h, if_neg (by omega)]; simp
theorem E0 : Dv [] = [] := rfl
theorem Fm (s : B9) : Dv s = (bif s.take (Bu s) == [] then [] else [s.take (Bu s)]) ++ Dv (s.drop (Bu s + 1)) := by
 unfold Dv
 rw [Qd s []]
 split
 ·rename_i h
  rw [h, List.drop_eq_nil_of_le (by omega), List.take_length, List.nil_append, MR]
  show _ = _ ++ full (P0 [] [])
  cases (s == ([] : B9)) <;> rfl
 ·rw [List.nil_append, MR]
  cases (List.take (Bu s) s == ([] : B9)) <;> rfl
theorem Np : ∀ (t cur : B9), (P0 cur t).length ≤ t.length + 1
 | [], cur => by simp [P0]
 | b :: t, cur => by
  rw [P0]
  split
  ·have := Np t []; simp only [List.length_cons]; omega
  ·have := Np t (cur ++ [b]); simp only [List.length_cons]; omega
theorem KD (s : B9) : (Dv s).length ≤ s.length + 1 := Nat.le_trans (List.length_filter_le _ _) (Np s [])
def NV (x : B9) : Prop := x ≠ [] ∧ (47 : UInt8) ∉ x
theorem M4 {x : B9} : ∀ (t cur : B9), (47 : UInt8) ∉ cur → x ∈ P0 cur t → (47 : UInt8) ∉ x
 | [], cur, h, hx => by simp [P0] at hx; rw [hx]; exact h
 | b :: t, cur, h, hx => by
  rw [P0] at hx
  split at hx
  ·rcases List.mem_cons.1 hx with rfl | hx
   ·exact h
   ·exact M4 t [] (by simp) hx
  ·rename_i hb
   exact M4 t _ (by simp only [List.mem_append, List.mem_singleton, not_or]; exact ⟨h, fun e => hb e.symm⟩) hx
theorem Mf {s x : B9} (h : x ∈ Dv s) : NV x := by
 unfold Dv full at h
 rw [List.mem_filter] at h
 exact ⟨by simpa using h.2, M4 s [] (by simp) h.1⟩
def pj (l : List B9) : B9 := Lib.join l [47]
theorem HY : pj [] = [] := rfl
theorem Fy (x : B9) : pj [x] = x := Lib.join_one x _
theorem D7 (x y : B9) (l : List B9) : pj (x :: y :: l) = x ++ 47 :: pj (y :: l) := by
 unfold pj
 rw [Lib.join_cons, Lib.join_cons]
 simp [Lib.joinTail]
theorem To {x : B9} (h : (47 : UInt8) ∉ x) : Bu x = x.length := by
 induction x with
 | nil => rfl
 | cons b t ih =>
  simp only [List.mem_cons, not_or] at h
  rw [Bu, if_neg (fun e => h.1 e.symm), ih h.2, List.length_cons]
theorem Sx {x t : B9} (h : (47 : UInt8) ∉ x) : Bu (x ++ 47 :: t) = x.length := by
 induction x with
 | nil => rfl
 | cons b x ih =>
  simp only [List.mem_cons, not_or] at h
  rw [List.cons_append, Bu, if_neg (fun e => h.1 e.symm), ih h.2, List.length_cons]
theorem OF : ∀ (l : List B9), (∀ x ∈ l, NV x) → Dv (pj l) = l
 | [], _ => rfl
 | [x], h => by
  obtain ⟨h1, h2⟩ := h x (by simp)
  rw [Fy, Fm, To h2, List.take_length, List.drop_eq_nil_of_le (by omega), E0, beq_eq_false_iff_ne.2 h1]; rfl
 | x :: y :: l, h => by
  obtain ⟨h1, h2⟩ := h x (by simp)
  have ih := OF (y :: l) fun z hz => h z (by simp [hz])
  rw [D7, Fm, Sx h2]
  have e1 : (x ++ 47 :: pj (y :: l)).take x.length = x := by simp
  have e2 : (x ++ 47 :: pj (y :: l)).drop (x.length + 1) = pj (y :: l) := by
   rw [List.drop_append, List.drop_eq_nil_of_le (by omega)]; simp
  rw [e1, e2, ih, beq_eq_false_iff_ne.2 h1]; rfl
theorem MP : ∀ (n : Nat) (s : B9), s.length ≤ n → (pj (Dv s)).length ≤ s.length
 | 0, s, h => by
  have : s = [] := List.length_eq_zero_iff.1 (by omega)
  subst this; simp [E0, HY]
 | n + 1, s, h => by
  by_cases hs : s = []
  ·subst hs; simp [E0, HY]
  have hpos : 0 < s.length := List.length_pos_iff.2 hs
  have hle := K1 s
  have ih := MP n (s.drop (Bu s + 1)) (by rw [List.length_drop]; omega)
  rw [List.length_drop] at ih
  rw [Fm s]
  cases hb : (s.take (Bu s) == ([] : B9)) with
  | true =>
   show (pj ([] ++ Dv (s.drop (Bu s + 1)))).length ≤ _
   rw [List.nil_append]
   omega
  | false =>
   show (pj ([s.take (Bu s)] ++ Dv (s.drop (Bu s + 1)))).length ≤ _
   rw [List.singleton_append]
   cases hc : Dv (s.drop (Bu s + 1)) with
   | nil => rw [Fy, List.length_take]; omega
   | cons y l =>
    rw [D7, List.length_append, List.length_cons, ← hc, List.length_take]
    have hne : Bu s < s.length := by
     rcases Nat.lt_or_ge (Bu s) s.length with q | q
     ·exact q
     ·rw [List.drop_eq_nil_of_le (by omega), E0] at hc; cases hc
    omega
theorem OT (s : B9) : (pj (Dv s)).length ≤ s.length := MP s.length s (Nat.le_refl _)
theorem HI : ∀ (l : List B9) (n : Nat), (pj (l.take n)).length ≤ (pj l).length
 | [], n => by simp
 | [x], n => by
  cases n with
  | zero => simp [HY]
  | succ n => simp
 | x :: y :: l, n => by
  match n with
  | 0 => simp [HY]
  | 1 => rw [List.take_succ_cons, List.take_zero, Fy, D7, List.length_append]; omega
  | n + 2 =>
   have := HI (y :: l) (n + 1)
   rw [List.take_succ_cons, List.take_succ_cons, D7, D7, List.length_append, List.length_append, List.length_cons, List.length_cons]
   rw [List.take_succ_cons] at this
   omega
theorem Vu {a b : B9} : Op.bytesLess a b = true ↔ a < b := by rw [Go.Proofs.bytesLess_eq]; simp
end Go.Av.L
