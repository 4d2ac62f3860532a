/-
  Directories that members tag: what the program and the document tell.
-/
import Derived.Test.YthnnciphldbmeaaGreatDoorFiB
namespace Go.Av.L
open Go.Av Go.Lib
set_option linter.unusedVariables false
set_option linter.unusedSimpArgs false
theorem Q7 : ∀ (u cur v : CT), P7 cur (u ++ 47 :: v) = P7 cur u ++ P7 [] v
 | [], cur, v => by simp [P7]
 | b :: u, cur, v => by
  rw [List.cons_append, P7, P7]
  split
  ·rw [Q7 u [] v]; rfl
  ·exact Q7 u _ v
theorem Uy (a b : List CT) : full (a ++ b) = full a ++ full b := by unfold full; exact List.filter_append _ _
theorem NW (u v : CT) : Ae (u ++ 47 :: v) = Ae u ++ Ae v := by unfold Ae; rw [Q7, Uy]
theorem PY (t : CT) : ∀ k, Ae (t ++ List.replicate k 47) = Ae t
 | 0 => by simp
 | k + 1 => by
  have h : ∀ k, Ae (List.replicate k 47) = [] := by
   intro k
   induction k with
   | zero => rfl
   | succ k ih =>
    have := NW [] (List.replicate k 47)
    rw [List.nil_append] at this
    rw [List.replicate_succ, this, ih]; rfl
  rw [List.replicate_succ, NW, h, List.append_nil]
theorem UW {v : CT} (h : NC v) : Ae v = [v] := by
 have := Ir [v] (by simpa using h)
 rwa [KF] at this
theorem Wk : ∀ (n : Nat) (s : CT), s.length ≤ n → s.length < 900000000 → ∃ (t : CT) (k : Nat), loop (CB 47) s = some t ∧ s = t ++ List.replicate k 47 ∧ (t = [] ∨ ∃ u b, t = u ++ [b] ∧ b ≠ 47)
 | 0, s, h, _ => by
  have : s = [] := List.length_eq_zero_iff.1 (by omega)
  subst this
  exact ⟨[], 0, CJ rfl, rfl, .inl rfl⟩
 | n + 1, s, h, hb => by
  by_cases hs : s = []
  ·subst hs; exact ⟨[], 0, CJ rfl, rfl, .inl rfl⟩
  obtain ⟨u, b, rfl⟩ : ∃ u b, s = u ++ [b] := ⟨_, _, (List.dropLast_concat_getLast hs).symm⟩
  have hl : (u ++ [b]).length = u.length + 1 := by simp
  have e : IntKind.i64.wrap (((u ++ [b]).length : Int) - 1) = (u.length : Int) := by rw [hl, Ti (by omega) (by omega)]; omega
  have e2 : (u ++ [b])[u.length]? = some b := by simp
  by_cases hq : b = 47
  ·subst hq
   have step : CB 47 (u ++ [47]) = some (.inl u) := by
    rw [CB, BT, if_pos (by omega), e, RQ e2, Option.bind_some]
    show (Option.bind (some true) _) = _
    rw [Option.bind_some, Dm, OL (by simp), List.take_left]; rfl
   obtain ⟨t, k, h1, h2, h3⟩ := Wk n u (by omega) (by omega)
   exact ⟨t, k + 1, by rw [Ey step]; exact h1, by rw [List.replicate_succ', ← List.append_assoc, ← h2], h3⟩
  ·refine ⟨u ++ [b], 0, CJ ?_, by simp, .inr ⟨u, b, rfl, hq⟩⟩
   have hne : ((b.toNat : Int) == 47) = false := by
    rw [beq_eq_false_iff_ne]
    intro e
    exact hq (UInt8.toNat_inj.1 (by show b.toNat = 47; omega))
   rw [CB, BT, if_pos (by omega), e, RQ e2, Option.bind_some, hne]
   rfl
theorem US (t : CT) (hb : t.length < 900000000) : ∃ (r : Int) (v : CT), C6 t 47 = some r ∧ -1 ≤ r ∧ r < t.length ∧ t.drop (r + 1).toNat = v ∧ (47 : UInt8) ∉ v ∧ ((r = -1 ∧ t = v) ∨ ∃ u, t = u ++ 47 :: v) := by
 have key : ∀ (n : Nat), n ≤ t.length → (47 : UInt8) ∉ t.drop n → ∃ (r : Int) (v : CT), (loop (BY t 47) ((n : Int) - 1)).bind (fun o1 => (match o1 with | .inl _ => some (-1 : Int) | .inr x2 => some x2)) = some r ∧ -1 ≤ r ∧ r < t.length ∧ t.drop (r + 1).toNat = v ∧ (47 : UInt8) ∉ v ∧ ((r = -1 ∧ t = v) ∨ ∃ u, t = u ++ 47 :: v) := by
  intro n
  induction n with
  | zero =>
   intro _ h
   refine ⟨-1, t, ?_, by omega, by omega, rfl, by simpa using h, .inl ⟨rfl, rfl⟩⟩
   rw [CJ (r := .inl ()) (by rw [BY, BT, if_neg (by omega)])]
   rfl
  | succ n ih =>
   intro hn h
   have hlt : n < t.length := by omega
   have e : ((n + 1 : Nat) : Int) - 1 = (n : Int) := by omega
   rw [e]
   by_cases hq : t[n] = 47
   ·refine ⟨n, t.drop (n + 1), ?_, by omega, by omega, ?_, h, .inr ⟨t.take n, ?_⟩⟩
    ·rw [CJ (r := .inr (n : Int)) (by rw [BY, BT, if_pos (by omega), ON hlt, hq]; rfl)]
     rfl
    ·congr 1
    ·have := List.take_append_drop n t
     rw [drop_cons hlt, hq] at this
     exact this.symm
   ·have hne : ((t[n].toNat : Int) == 47) = false := by
     rw [beq_eq_false_iff_ne]
     intro e
     exact hq (UInt8.toNat_inj.1 (by show t[n].toNat = 47; omega))
    have step : BY t 47 (n : Int) = some (.inl ((n : Int) - 1)) := by
     rw [BY, BT, if_pos (by omega), ON hlt, Option.bind_some, hne, B5, Ti (by omega) (by omega)]
    rw [Ey step]
    refine ih (by omega) ?_
    rw [drop_cons hlt]
    simp only [List.mem_cons, not_or]
    exact ⟨fun e => hq e.symm, h⟩
 obtain ⟨r, v, h1, h2⟩ := key t.length (Nat.le_refl _) (by simp)
 refine ⟨r, v, ?_, h2⟩
 unfold C6 Cp
 rw [Ti (by omega) (by omega)]
 exact congrArg (fun q => Option.bind q fun x1 => some x1) h1
theorem UT {s : CT} (hb : s.length < 900000000) : F6 s = some ((Ae s).getLast?.getD []) := by
 obtain ⟨t, k, h1, h2, h3⟩ := Wk s.length s (Nat.le_refl _) hb
 have ht : t.length ≤ s.length := by rw [h2, List.length_append]; omega
 have hT : CW s = some t := by
  unfold CW C7
  rw [show (([47] : List UInt8) == ([] : List UInt8)) = false from rfl, Bool.or_false]
  by_cases hs : s = []
  ·subst hs
   have : t = [] := by
    have := congrArg List.length h2
    simp at this
    exact List.length_eq_zero_iff.1 (by omega)
   subst this; rfl
  ·rw [beq_eq_false_iff_ne.2 hs, B5, h1]
   rfl
 obtain ⟨r, v, g1, g2, g3, g4, g5, g6⟩ := US t (by omega)
 have e : IntKind.i64.wrap (r + 1) = (((r + 1).toNat : Nat) : Int) := by rw [Ti (by omega) (by omega)]; omega
 unfold F6
 rw [hT, Option.bind_some, g1, Option.bind_some, e, Tx (by omega), g4, Option.bind_some]
 congr 1
 have hc : Ae s = Ae t := by rw [h2]; exact PY t k
 rw [hc]
 rcases h3 with rfl | ⟨u, b, hu, hbne⟩
 ·rcases g6 with ⟨_, rfl⟩ | ⟨u, hu⟩
  ·rfl
  ·cases u <;> simp at hu
 ·have hv : v ≠ [] := by
   rintro rfl
   rcases g6 with ⟨_, e⟩ | ⟨u', hu'⟩
   ·rw [e] at hu; simp at hu
   ·rw [hu] at hu'
    have := List.append_inj_right' hu' rfl
    simp at this
    exact hbne this
  have hcv := UW ⟨hv, g5⟩
  rcases g6 with ⟨_, rfl⟩ | ⟨u', hu'⟩
  ·rw [hcv]; rfl
  ·rw [hu', NW, hcv]; simp
theorem hasPrefix (p q : CT) : Ch p q = some (p.take q.length == q) := by
 simp only [Ch, Dp]
 rw [BT]
 by_cases h : q.length ≤ p.length
 ·rw [if_pos (by omega), OL h]; rfl
 ·rw [if_neg (by omega)]
  have : (p.take q.length == q) = false := by
   rw [beq_eq_false_iff_ne]
   intro he
   have := congrArg List.length he
   rw [List.length_take] at this
   omega
  rw [this]; rfl
def G4 : CT := [67, 65, 67, 72, 69, 68, 73, 82, 46, 84, 65, 71]
def TJ : CT := [83, 105, 103, 110, 97, 116, 117, 114, 101, 58, 32, 56, 97, 52, 55, 55, 102, 53, 57, 55, 100, 50, 56, 100, 49, 55, 50, 55, 56, 57, 102, 48, 54, 56, 56, 54, 56, 48, 54, 98, 99, 53, 53]
def tagged (n : CT) (k : Int) (p : CT) : Bool := k == 48 && (Ae n).getLast? == some G4 && p.take 43 == TJ
theorem Rj (n : CT) : ((Ae n).getLast?.getD [] == G4) = ((Ae n).getLast? == some G4) := by
 cases (Ae n).getLast? with
 | none => rfl
 | some x => rfl
theorem GM {s x : CT} (h : x ∈ (Ae s).dropLast) : NC x := KC (List.dropLast_subset _ h)
theorem JV (l : List CT) : (pj l.dropLast).length ≤ (pj l).length := by rw [List.dropLast_eq_take]; exact KT l _
end Go.Av.L
