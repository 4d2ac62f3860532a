/-
  Names: their components; directories that are known, rising.
-/
import Derived.Test.YthnnciphldbmeaaGreatDoorAvNum
import Derived.Test.YthnnciphldbmeaaGreatDoorAvLib
namespace Go.Av.L
open Go.Av
set_option linter.unusedVariables false
set_option linter.unusedSimpArgs false
abbrev CT := List UInt8
def Cm : CT → Nat
 | [] => 0
 | b :: t => if b = 47 then 0 else Cm t + 1
theorem OH (s : CT) : Cm s ≤ s.length := by
 induction s with
 | nil => simp [Cm]
 | cons b t ih => rw [Cm, List.length_cons]; split <;> omega
def P7 : CT → CT → List CT
 | cur, [] => [cur]
 | cur, b :: t => if b = 47 then cur :: P7 [] t else P7 (cur ++ [b]) t
def full (l : List CT) : List CT := l.filter fun x => !(x == [])
def Ae (s : CT) : List CT := full (P7 [] s)
theorem QA (x : CT) (l : List CT) : full (x :: l) = bif x == [] then full l else x :: full l := by
 unfold full
 rw [List.filter_cons]
 cases (x == ([] : CT)) <;> rfl
theorem Ts : ∀ (s cur : CT), P7 cur s = if Cm s = s.length then [cur ++ s] else (cur ++ s.take (Cm s)) :: P7 [] (s.drop (Cm s + 1))
 | [], cur => by simp [P7, Cm]
 | b :: t, cur => by
  rw [P7, Cm]
  by_cases hb : b = 47
  ·rw [if_pos hb, if_pos hb, if_neg (by simp)]; simp
  ·rw [if_neg hb, if_neg hb, Ts t (cur ++ [b]), List.length_cons]
   by_cases h : Cm t = t.length
   ·rw [if_pos h, if_pos (by omega)]; simp
   ·rw [if_neg h, if_neg (by omega)]; simp
theorem HZ : Ae [] = [] := rfl
theorem IU (s : CT) : Ae s = (bif s.take (Cm s) == [] then [] else [s.take (Cm s)]) ++ Ae (s.drop (Cm s + 1)) := by
 unfold Ae
 rw [Ts s []]
 split
 ·rename_i h
  rw [h, List.drop_eq_nil_of_le (by omega), List.take_length, List.nil_append, QA]
  show _ = _ ++ full (P7 [] [])
  cases (s == ([] : CT)) <;> rfl
 ·rw [List.nil_append, QA]
  cases (List.take (Cm s) s == ([] : CT)) <;> rfl
theorem RV : ∀ (t cur : CT), (P7 cur t).length ≤ t.length + 1
 | [], cur => by simp [P7]
 | b :: t, cur => by
  rw [P7]
  split
  ·have := RV t []; simp only [List.length_cons]; omega
  ·have := RV t (cur ++ [b]); simp only [List.length_cons]; omega
theorem Ez (s : CT) : (Ae s).length ≤ s.length + 1 := Nat.le_trans (List.length_filter_le _ _) (RV s [])
def NC (x : CT) : Prop := x ≠ [] ∧ (47 : UInt8) ∉ x
theorem Qs {x : CT} : ∀ (t cur : CT), (47 : UInt8) ∉ cur → x ∈ P7 cur t → (47 : UInt8) ∉ x
 | [], cur, h, hx => by simp [P7] at hx; rw [hx]; exact h
 | b :: t, cur, h, hx => by
  rw [P7] at hx
  split at hx
  ·rcases List.mem_cons.1 hx with rfl | hx
   ·exact h
   ·exact Qs t [] (by simp) hx
  ·rename_i hb
   exact Qs t _ (by simp only [List.mem_append, List.mem_singleton, not_or]; exact ⟨h, fun e => hb e.symm⟩) hx
theorem KC {s x : CT} (h : x ∈ Ae s) : NC x := by
 unfold Ae full at h
 rw [List.mem_filter] at h
 exact ⟨by simpa using h.2, Qs s [] (by simp) h.1⟩
def pj (l : List CT) : CT := Lib.join l [47]
theorem NY : pj [] = [] := rfl
theorem KF (x : CT) : pj [x] = x := Lib.join_one x _
theorem IG (x y : CT) (l : List CT) : pj (x :: y :: l) = x ++ 47 :: pj (y :: l) := by
 unfold pj
 rw [Lib.join_cons, Lib.join_cons]
 simp [Lib.joinTail]
theorem WG {x : CT} (h : (47 : UInt8) ∉ x) : Cm x = x.length := by
 induction x with
 | nil => rfl
 | cons b t ih =>
  simp only [List.mem_cons, not_or] at h
  rw [Cm, if_neg (fun e => h.1 e.symm), ih h.2, List.length_cons]
theorem VV {x t : CT} (h : (47 : UInt8) ∉ x) : Cm (x ++ 47 :: t) = x.length := by
 induction x with
 | nil => rfl
 | cons b x ih =>
  simp only [List.mem_cons, not_or] at h
  rw [List.cons_append, Cm, if_neg (fun e => h.1 e.symm), ih h.2, List.length_cons]
theorem Ir : ∀ (l : List CT), (∀ x ∈ l, NC x) → Ae (pj l) = l
 | [], _ => rfl
 | [x], h => by
  obtain ⟨h1, h2⟩ := h x (by simp)
  rw [KF, IU, WG h2, List.take_length, List.drop_eq_nil_of_le (by omega), HZ, beq_eq_false_iff_ne.2 h1]; rfl
 | x :: y :: l, h => by
  obtain ⟨h1, h2⟩ := h x (by simp)
  have ih := Ir (y :: l) fun z hz => h z (by simp [hz])
  rw [IG, IU, VV h2]
  have e1 : (x ++ 47 :: pj (y :: l)).take x.length = x := by simp
  have e2 : (x ++ 47 :: pj (y :: l)).drop (x.length + 1) = pj (y :: l) := by
   rw [List.drop_append, List.drop_eq_nil_of_le (by omega)]; simp
  rw [e1, e2, ih, beq_eq_false_iff_ne.2 h1]; rfl
theorem QB : ∀ (n : Nat) (s : CT), s.length ≤ n → (pj (Ae s)).length ≤ s.length
 | 0, s, h => by
  have : s = [] := List.length_eq_zero_iff.1 (by omega)
  subst this; simp [HZ, NY]
 | n + 1, s, h => by
  by_cases hs : s = []
  ·subst hs; simp [HZ, NY]
  have hpos : 0 < s.length := List.length_pos_iff.2 hs
  have hle := OH s
  have ih := QB n (s.drop (Cm s + 1)) (by rw [List.length_drop]; omega)
  rw [List.length_drop] at ih
  rw [IU s]
  cases hb : (s.take (Cm s) == ([] : CT)) with
  | true =>
   show (pj ([] ++ Ae (s.drop (Cm s + 1)))).length ≤ _
   rw [List.nil_append]
   omega
  | false =>
   show (pj ([s.take (Cm s)] ++ Ae (s.drop (Cm s + 1)))).length ≤ _
   rw [List.singleton_append]
   cases hc : Ae (s.drop (Cm s + 1)) with
   | nil => rw [KF, List.length_take]; omega
   | cons y l =>
    rw [IG, List.length_append, List.length_cons, ← hc, List.length_take]
    have hne : Cm s < s.length := by
     rcases Nat.lt_or_ge (Cm s) s.length with q | q
     ·exact q
     ·rw [List.drop_eq_nil_of_le (by omega), HZ] at hc; cases hc
    omega
theorem Fp (s : CT) : (pj (Ae s)).length ≤ s.length := QB s.length s (Nat.le_refl _)
theorem KT : ∀ (l : List CT) (n : Nat), (pj (l.take n)).length ≤ (pj l).length
 | [], n => by simp
 | [x], n => by
  cases n with
  | zero => simp [NY]
  | succ n => simp
 | x :: y :: l, n => by
  match n with
  | 0 => simp [NY]
  | 1 => rw [List.take_succ_cons, List.take_zero, KF, IG, List.length_append]; omega
  | n + 2 =>
   have := KT (y :: l) (n + 1)
   rw [List.take_succ_cons, List.take_succ_cons, IG, IG, List.length_append, List.length_append, List.length_cons, List.length_cons]
   rw [List.take_succ_cons] at this
   omega
theorem YG {a b : CT} : Op.bytesLess a b = true ↔ a < b := by rw [Go.Proofs.bytesLess_eq]; simp
def Lt (d : CT) : List CT → Bool → List CT
 | [], done => bif done then [] else [d]
 | y :: l, done => (bif !done && (Op.bytesLess d y || d == y) then [d] else []) ++ ((bif !(y == d) then [y] else []) ++ Lt d l (done || (Op.bytesLess d y || d == y)))
def MW (d : CT) (l : List CT) : List CT := Lt d l false
theorem Oy (d : CT) : ∀ (l : List CT) (done : Bool) (z : CT), z ∈ Lt d l done ↔ (z = d ∧ done = false) ∨ (z ∈ l ∧ z ≠ d)
 | [], done, z => by cases done <;> simp [Lt]
 | y :: l, done, z => by
  have ih := Oy d l (done || (Op.bytesLess d y || d == y)) z
  have hyd : y = d → (Op.bytesLess d y || d == y) = true := by rintro rfl; simp
  unfold Lt
  simp only [List.mem_append, ih, List.mem_cons]
  generalize (Op.bytesLess d y || d == y) = q at hyd ⊢
  by_cases hy : y = d
  ·subst hy
   rw [hyd rfl]
   cases done <;> by_cases hz : z = y <;> simp [hz]
  ·have hb : (!(y == d)) = true := by simp [hy]
   rw [hb]
   by_cases hz : z = d
   ·subst hz
    have : ¬ z = y := fun e => hy e.symm
    cases done <;> cases q <;> simp [this]
   ·cases done <;> cases q <;> simp [hz] <;> (intro e; subst e; exact hz)
theorem Nk (d : CT) : ∀ (l : List CT) (done : Bool), l.Pairwise (fun a b : CT => a < b) → (Lt d l done).Pairwise fun a b : CT => a < b
 | [], done, _ => by cases done <;> simp [Lt]
 | y :: l, done, h => by
  have ⟨h1, h2⟩ := List.pairwise_cons.1 h
  have ih := Nk d l (done || (Op.bytesLess d y || d == y)) h2
  have hm := Oy d l (done || (Op.bytesLess d y || d == y))
  have hq : (Op.bytesLess d y || d == y) = true ↔ d ≤ y := by
   rw [Bool.or_eq_true, YG, beq_iff_eq]
   constructor
   ·rintro (q | rfl)
    ·exact List.le_of_lt q
    ·exact List.le_refl _
   ·intro q
    by_cases e : d = y
    ·exact .inr e
    ·rcases List.le_iff_lt_or_eq.1 q with q | q
     ·exact .inl q
     ·exact absurd q e
  unfold Lt
  generalize (Op.bytesLess d y || d == y) = q at hq hm ih ⊢
  have tail : ((bif !(y == d) then [y] else []) ++ Lt d l (done || q)).Pairwise fun a b : CT => a < b := by
   by_cases hy : y = d
   ·have hb : (!(y == d)) = false := by simp [hy]
    rw [hb]; exact ih
   ·have hb : (!(y == d)) = true := by simp [hy]
    rw [hb]
    refine List.pairwise_cons.2 ⟨fun z hz => ?_, ih⟩
    rcases (hm z).1 hz with ⟨rfl, hd⟩ | ⟨hz, _⟩
    ·have hq' : q = false := by cases q <;> simp_all
     have : ¬ z ≤ y := fun hle => by rw [hq.2 hle] at hq'; cases hq'
     exact List.not_le.1 this
    ·exact h1 z hz
  cases hb : (!done && q) with
  | false => exact tail
  | true =>
   simp only [Bool.and_eq_true, Bool.not_eq_true'] at hb
   obtain ⟨hd, rfl⟩ := hb
   subst hd
   refine List.pairwise_cons.2 ⟨fun z hz => ?_, tail⟩
   have hle := hq.1 rfl
   have hz : z ∈ (bif !(y == d) then [y] else []) ++ Lt d l (false || true) := hz
   rcases List.mem_append.1 hz with hz | hz
   ·by_cases hy : y = d
    ·have hb : (!(y == d)) = false := by simp [hy]
     rw [hb] at hz; cases hz
    ·have hb : (!(y == d)) = true := by simp [hy]
     rw [hb] at hz
     simp at hz
     subst hz
     rcases List.le_iff_lt_or_eq.1 hle with q | q
     ·exact q
     ·exact absurd q.symm hy
   ·rcases (hm z).1 hz with ⟨_, hd⟩ | ⟨hz, _⟩
    ·simp at hd
    ·have := h1 z hz
     rcases List.le_iff_lt_or_eq.1 hle with q | q
     ·exact List.lt_trans q this
     ·rw [q]; exact this
theorem Mp {d z : CT} {l : List CT} : z ∈ MW d l ↔ z = d ∨ z ∈ l := by
 unfold MW
 rw [Oy]
 by_cases h : z = d <;> simp [h]
theorem Rw {d : CT} {l : List CT} (h : l.Pairwise fun a b : CT => a < b) : (MW d l).Pairwise fun a b : CT => a < b := Nk d l false h
theorem TE {a b : List CT} (ha : a.Pairwise fun x y : CT => x ≤ y) (hn : a.Nodup) (hb : b.Pairwise fun x y : CT => x < y) (h : ∀ z, z ∈ a ↔ z ∈ b) : a = b := by
 have hb' : b.Nodup := hb.imp fun q e => by subst e; exact List.lt_irrefl _ q
 exact List.Perm.eq_of_pairwise (le := fun x y : CT => x ≤ y) (fun x y _ _ h1 h2 => List.le_antisymm h1 h2) ha (hb.imp fun q => List.le_of_lt q) ((List.perm_ext_iff_of_nodup hn hb').2 h)
end Go.Av.L
