/-
 A part.
-/
import Derived.Test.YtdbkpibbjnhmgaaDoorAvNum
import Derived.Test.YtdbkpibbjnhmgaaDoorAvLib
namespace Go.Av.L
open Go.Av
set_option linter.unusedVariables false
set_option linter.unusedSimpArgs false
abbrev Bw := List UInt8
def Bp : Bw → Nat
 | [] => 0
 | b :: t => if b = 47 then 0 else Bp t + 1
theorem Kz (s : Bw) : Bp s ≤ s.length := by
 induction s with
 | nil => simp [Bp]
 | cons b t ih => rw [Bp, List.length_cons]; split <;> omega
def Qb : Bw → Bw → List Bw
 | cur, [] => [cur]
 | cur, b :: t => if b = 47 then cur :: Qb [] t else Qb (cur ++ [b]) t
def full (l : List Bw) : List Bw := l.filter fun x => !(x == [])
def Di (s : Bw) : List Bw := full (Qb [] s)
theorem Mr (x : Bw) (l : List Bw) : full (x :: l) = bif x == [] then full l else x :: full l := by
 unfold full
 rw [List.filter_cons]
 cases (x == ([] : Bw)) <;> rfl
theorem QP : ∀ (s cur : Bw), Qb cur s = if Bp s = s.length then [cur ++ s] else (cur ++ s.take (Bp s)) :: Qb [] (s.drop (Bp s + 1))
 | [], cur => by simp [Qb, Bp]
 | b :: t, cur => by
  rw [Qb, Bp]
  by_cases hb : b = 47
  ·rw [if_pos hb, if_pos hb, if_neg (by simp)]; simp
  ·rw [if_neg hb, if_neg hb, QP t (cur ++ [b]), List.length_cons]
   by_cases h : Bp t = t.length
   ·rw [if_pos h, if_pos (by omega)]; simp
   ·rw [if_neg h, if_neg (by omega)]; simp
theorem Er : Di [] = [] := rfl
theorem FZ (s : Bw) : Di s = (bif s.take (Bp s) == [] then [] else [s.take (Bp s)]) ++ Di (s.drop (Bp s + 1)) := by
 unfold Di
 rw [QP s []]
 split
 ·rename_i h
  rw [h, List.drop_eq_nil_of_le (by omega), List.take_length, List.nil_append, Mr]
  show _ = _ ++ full (Qb [] [])
  cases (s == ([] : Bw)) <;> rfl
 ·rw [List.nil_append, Mr]
  cases (List.take (Bp s) s == ([] : Bw)) <;> rfl
theorem Nr : ∀ (t cur : Bw), (Qb cur t).length ≤ t.length + 1
 | [], cur => by simp [Qb]
 | b :: t, cur => by
  rw [Qb]
  split
  ·have := Nr t []; simp only [List.length_cons]; omega
  ·have := Nr t (cur ++ [b]); simp only [List.length_cons]; omega
theorem KQ (s : Bw) : (Di s).length ≤ s.length + 1 := Nat.le_trans (List.length_filter_le _ _) (Nr s [])
def Nz (x : Bw) : Prop := x ≠ [] ∧ (47 : UInt8) ∉ x
theorem NH {x : Bw} : ∀ (t cur : Bw), (47 : UInt8) ∉ cur → x ∈ Qb cur t → (47 : UInt8) ∉ x
 | [], cur, h, hx => by simp [Qb] at hx; rw [hx]; exact h
 | b :: t, cur, h, hx => by
  rw [Qb] at hx
  split at hx
  ·rcases List.mem_cons.1 hx with rfl | hx
   ·exact h
   ·exact NH t [] (by simp) hx
  ·rename_i hb
   exact NH t _ (by simp only [List.mem_append, List.mem_singleton, not_or]; exact ⟨h, fun e => hb e.symm⟩) hx
theorem Mu {s x : Bw} (h : x ∈ Di s) : Nz x := by
 unfold Di full at h
 rw [List.mem_filter] at h
 exact ⟨by simpa using h.2, NH s [] (by simp) h.1⟩
def pj (l : List Bw) : Bw := Lib.join l [47]
theorem G6 : pj [] = [] := rfl
theorem Fh (x : Bw) : pj [x] = x := Lib.join_one x _
theorem Dx (x y : Bw) (l : List Bw) : pj (x :: y :: l) = x ++ 47 :: pj (y :: l) := by
 unfold pj
 rw [Lib.join_cons, Lib.join_cons]
 simp [Lib.joinTail]
theorem To {x : Bw} (h : (47 : UInt8) ∉ x) : Bp x = x.length := by
 induction x with
 | nil => rfl
 | cons b t ih =>
  simp only [List.mem_cons, not_or] at h
  rw [Bp, if_neg (fun e => h.1 e.symm), ih h.2, List.length_cons]
theorem Su {x t : Bw} (h : (47 : UInt8) ∉ x) : Bp (x ++ 47 :: t) = x.length := by
 induction x with
 | nil => rfl
 | cons b x ih =>
  simp only [List.mem_cons, not_or] at h
  rw [List.cons_append, Bp, if_neg (fun e => h.1 e.symm), ih h.2, List.length_cons]
theorem Lw : ∀ (l : List Bw), (∀ x ∈ l, Nz x) → Di (pj l) = l
 | [], _ => rfl
 | [x], h => by
  obtain ⟨h1, h2⟩ := h x (by simp)
  rw [Fh, FZ, To h2, List.take_length, List.drop_eq_nil_of_le (by omega), Er, beq_eq_false_iff_ne.2 h1]; rfl
 | x :: y :: l, h => by
  obtain ⟨h1, h2⟩ := h x (by simp)
  have ih := Lw (y :: l) fun z hz => h z (by simp [hz])
  rw [Dx, FZ, Su h2]
  have e1 : (x ++ 47 :: pj (y :: l)).take x.length = x := by simp
  have e2 : (x ++ 47 :: pj (y :: l)).drop (x.length + 1) = pj (y :: l) := by
   rw [List.drop_append, List.drop_eq_nil_of_le (by omega)]; simp
  rw [e1, e2, ih, beq_eq_false_iff_ne.2 h1]; rfl
theorem MX : ∀ (n : Nat) (s : Bw), s.length ≤ n → (pj (Di s)).length ≤ s.length
 | 0, s, h => by
  have : s = [] := List.length_eq_zero_iff.1 (by omega)
  subst this; simp [Er, G6]
 | n + 1, s, h => by
  by_cases hs : s = []
  ·subst hs; simp [Er, G6]
  have hpos : 0 < s.length := List.length_pos_iff.2 hs
  have hle := Kz s
  have ih := MX n (s.drop (Bp s + 1)) (by rw [List.length_drop]; omega)
  rw [List.length_drop] at ih
  rw [FZ s]
  cases hb : (s.take (Bp s) == ([] : Bw)) with
  | true =>
   show (pj ([] ++ Di (s.drop (Bp s + 1)))).length ≤ _
   rw [List.nil_append]
   omega
  | false =>
   show (pj ([s.take (Bp s)] ++ Di (s.drop (Bp s + 1)))).length ≤ _
   rw [List.singleton_append]
   cases hc : Di (s.drop (Bp s + 1)) with
   | nil => rw [Fh, List.length_take]; omega
   | cons y l =>
    rw [Dx, List.length_append, List.length_cons, ← hc, List.length_take]
    have hne : Bp s < s.length := by
     rcases Nat.lt_or_ge (Bp s) s.length with q | q
     ·exact q
     ·rw [List.drop_eq_nil_of_le (by omega), Er] at hc; cases hc
    omega
theorem OZ (s : Bw) : (pj (Di s)).length ≤ s.length := MX s.length s (Nat.le_refl _)
theorem Fa : ∀ (l : List Bw) (n : Nat), (pj (l.take n)).length ≤ (pj l).length
 | [], n => by simp
 | [x], n => by
  cases n with
  | zero => simp [G6]
  | succ n => simp
 | x :: y :: l, n => by
  match n with
  | 0 => simp [G6]
  | 1 => rw [List.take_succ_cons, List.take_zero, Fh, Dx, List.length_append]; omega
  | n + 2 =>
   have := Fa (y :: l) (n + 1)
   rw [List.take_succ_cons, List.take_succ_cons, Dx, Dx, List.length_append, List.length_append, List.length_cons, List.length_cons]
   rw [List.take_succ_cons] at this
   omega
theorem Wq {a b : Bw} : Op.bytesLess a b = true ↔ a < b := by rw [Go.Proofs.bytesLess_eq]; simp
end Go.Av.L
