/-
  Names: what the functions of strip, cachedir and of the document tell.
-/
import Derived.Test.YthnnciphldbmeaaGreatDoorFiA
import Derived.Test.YthnnciphldbmeaaGreatDoorK0
import Derived.Test.YthnnciphldbmeaaGreatDoorK1
import Derived.Test.YthnnciphldbmeaaGreatDoorK2
import Derived.Test.YthnnciphldbmeaaGreatDoorK3
import Derived.Test.YthnnciphldbmeaaGreatDoorK4
import Derived.Test.YthnnciphldbmeaaGreatDoorK5
import Derived.Test.YthnnciphldbmeaaGreatDoorK6
import Derived.Test.YthnnciphldbmeaaGreatDoorK7
import Derived.Test.YthnnciphldbmeaaGreatDoorK8
namespace Go.Av.L
open Go.Av
set_option linter.unusedVariables false
set_option linter.unusedSimpArgs false
theorem LS : ∀ (x : CT), Lib.indexByte x 47 = if Cm x < x.length then (Cm x : Int) else -1
 | [] => rfl
 | b :: t => by
  have ih := LS t
  have hl := OH t
  unfold Lib.indexByte Cm
  by_cases hb : b = 47
  ·subst hb; simp
  ·rw [if_neg hb, List.length_cons]
   have e : (b == 47) = false := beq_eq_false_iff_ne.2 hb
   by_cases h : Cm t < t.length
   ·rw [if_pos h] at ih
    have e2 : ((Cm t : Int) == -1) = false := beq_eq_false_iff_ne.2 (by omega)
    rw [if_pos (show Cm t + 1 < t.length + 1 by omega), ih]
    simp [e, e2]
   ·rw [if_neg h] at ih
    rw [if_neg (show ¬ Cm t + 1 < t.length + 1 by omega), ih]
    simp [e]
theorem Oc (x : CT) : Lib.index x [47] = if Cm x < x.length then (Cm x : Int) else -1 := by rw [Lib.index_one, LS]
theorem SE {acc : List CT} {v : CT} (ha : acc.length < 1000000000) : DZ acc v = some (.inl (acc ++ (bif v == [] then [] else [v]))) := by
 rw [DZ]
 cases (v == ([] : CT)) with
 | true => simp
 | false => simp [La (b := 16) (n := acc.length + 1) (by omega) (by omega)]
theorem Te {X σ ρ : Type} {Y : σ → X → Option (σ ⊕ ρ)} {s : σ} {x : X} {o : σ ⊕ ρ} (h : Y s x = some o) : T0 Y (.inl s) x = some (o.isLeft, o) := by
 show (Y s x).map _ = _
 rw [h]; rfl
theorem Sr : ∀ (n : Nat) (x : CT) (acc : List CT), x.length ≤ n → acc.length + x.length < 900000000 →
  ∃ (x' : CT) (acc' : List CT), loop (Bo DZ) (x, .inl acc) = some (.inl (x', .inl acc')) ∧ acc'.length + x'.length ≤ acc.length + x.length ∧ acc' ++ (bif x' == [] then [] else [x']) = acc ++ Ae x := by
 intro n
 induction n with
 | zero =>
  intro x acc hn hb
  have : x = [] := List.length_eq_zero_iff.1 (by omega)
  subst this
  exact ⟨[], acc, CJ rfl, Nat.le_refl _, rfl⟩
 | succ n ih =>
  intro x acc hn hb
  have hle := OH x
  by_cases hs : Cm x < x.length
  ·have e1 : IntKind.i64.wrap ((Cm x : Int) + 0) = (Cm x : Int) := Ti (by omega) (by omega)
   have e2 : IntKind.i64.wrap ((Cm x : Int) + 1) = ((Cm x + 1 : Nat) : Int) := by rw [Ti (by omega) (by omega)]; omega
   have step : Bo DZ (x, .inl acc) = some (.inl (x.drop (Cm x + 1), .inl (acc ++ (bif x.take (Cm x) == [] then [] else [x.take (Cm x)])))) := by
    rw [Bo, decide_eq_true (by omega), EJ, Oc, if_pos hs, BT, if_neg (by omega), e1, OL hle, Option.bind_some, Te (SE (by omega)), Option.bind_some]
    dsimp only
    rw [e2, Tx (by omega)]
    rfl
   obtain ⟨x', acc', h1, h2, h3⟩ := ih (x.drop (Cm x + 1)) (acc ++ (bif x.take (Cm x) == [] then [] else [x.take (Cm x)])) (by rw [List.length_drop]; omega) (by
    rw [List.length_append, List.length_drop]
    have : (bif x.take (Cm x) == [] then ([] : List CT) else [x.take (Cm x)]).length ≤ 1 := by cases (x.take (Cm x) == []) <;> simp
    omega)
   refine ⟨x', acc', by rw [Ey step]; exact h1, ?_, by rw [h3, List.append_assoc, ← IU]⟩
   rw [List.length_append, List.length_drop] at h2
   have : (bif x.take (Cm x) == [] then ([] : List CT) else [x.take (Cm x)]).length ≤ 1 := by cases (x.take (Cm x) == []) <;> simp
   omega
  ·refine ⟨x, acc, CJ ?_, Nat.le_refl _, ?_⟩
   ·rw [Bo, decide_eq_true (by omega), EJ, Oc, if_neg hs]; rfl
   ·have e : Cm x = x.length := by omega
    rw [IU, e, List.take_length, List.drop_eq_nil_of_le (by omega), HZ, List.append_nil]
theorem MH {s : CT} (h : s.length < 900000000) : EH s = some (Ae s) := by
 obtain ⟨x', acc', h1, h2, h3⟩ := Sr s.length s [] (Nat.le_refl _) (by simpa using h)
 simp only [List.length_nil, Nat.zero_add] at h2
 unfold EH ED Dn Cv
 simp only [Option.bind_some]
 rw [h1, Option.bind_some]
 dsimp only
 rw [Te (SE (by omega)), Option.bind_some]
 dsimp only
 rw [Option.bind_some, h3]
 rfl
theorem WW {l : List CT} (h : ∀ x ∈ l, x ≠ []) (hl : l.length < 900000000) : Bj l = some l := by
 have key : ∀ (k i : Nat), i + k = l.length → loop (BQ l) (i : Int) = some (.inl ()) := by
  intro k
  induction k with
  | zero =>
   intro i hi
   refine CJ ?_
   rw [BQ, BT, if_neg (by omega)]
  | succ k ih =>
   intro i hi
   have hlt : i < l.length := by omega
   have step : BQ l (i : Int) = some (.inl ((i + 1 : Nat) : Int)) := by
    rw [BQ, BT, if_pos (by omega), Eh hlt, Option.bind_some, G6, Option.bind_some, beq_eq_false_iff_ne.2 (h _ (List.getElem_mem hlt)), B5, Md (by omega)]
   rw [Ey step]
   exact ih (i + 1) (by omega)
 unfold Bj B7
 rw [show (0 : Int) = ((0 : Nat) : Int) from rfl, key l.length 0 (by omega)]
 rfl
theorem NT {l : List CT} (h : ∀ x ∈ l, NC x) (hl : l.length < 900000000) (hj : (pj l).length < 900000000) : EE l = some (pj l) := by
 unfold EE
 rw [La (by omega) (by omega), EJ, WW (fun x hx => (h x hx).1) hl, Option.bind_some]
 have : RN l [47] = true := decide_eq_true ⟨by omega, by show (pj l).length ≤ _; omega⟩
 rw [this, EJ]
 rfl
theorem RO : ∀ (l : List CT) (x : CT), l ≠ [] → pj (l ++ [x]) = pj l ++ 47 :: x
 | [], x, h => absurd rfl h
 | [y], x, _ => by rw [List.singleton_append, IG, KF, KF]
 | y :: z :: l, x, _ => by
  rw [List.cons_append, List.cons_append, IG, IG, ← List.cons_append, RO (z :: l) x (by simp)]
  simp
theorem Xz {l : List CT} (h : ∀ x ∈ l, NC x) (hl : l ≠ []) : pj l ≠ [] := by
 match l, hl with
 | [x], _ => rw [KF]; exact (h x (by simp)).1
 | x :: y :: l, _ => rw [IG]; simp
end Go.Av.L
