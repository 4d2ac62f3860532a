/-
  Names: what the functions of strip, cachedir and of the document tell.
-/
import Derived.Test.YthnnciphldbmeaaGreatDoorFiA
import Derived.Test.YthnnciphldbmeaaGreatDoorK0
import Derived.Test.YthnnciphldbmeaaGreatDoorK1
import Derived.Test.YthnnciphldbmeaaGreatDoorK2
import Derived.Test.YthnnciphldbmeaaGreatDoorK3
import Derived.Test.YthnnciphldbmeaaGreatDoorK4
import Derived.Test.YthnnciphldbmeaaGreatDoorK5
import Derived.Test.YthnnciphldbmeaaGreatDoorK6
import Derived.Test.YthnnciphldbmeaaGreatDoorK7
import Derived.Test.YthnnciphldbmeaaGreatDoorK8
import Derived.Test.YthnnciphldbmeaaGreatDoorK9
namespace Go.Av.L
open Go.Av
set_option linter.unusedVariables false
set_option linter.unusedSimpArgs false
theorem Ks : ∀ (x : Em), Lib.indexByte x 47 = if Dy x < x.length then (Dy x : Int) else -1
 | [] => rfl
 | b :: t => by
  have ih := Ks t
  have hl := Qa t
  unfold Lib.indexByte Dy
  by_cases hb : b = 47
  ·subst hb; simp
  ·rw [if_neg hb, List.length_cons]
   have e : (b == 47) = false := beq_eq_false_iff_ne.2 hb
   by_cases h : Dy t < t.length
   ·rw [if_pos h] at ih
    have e2 : ((Dy t : Int) == -1) = false := beq_eq_false_iff_ne.2 (by omega)
    rw [if_pos (show Dy t + 1 < t.length + 1 by omega), ih]
    simp [e, e2]
   ·rw [if_neg h] at ih
    rw [if_neg (show ¬ Dy t + 1 < t.length + 1 by omega), ih]
    simp [e]
theorem Ob (x : Em) : Lib.index x [47] = if Dy x < x.length then (Dy x : Int) else -1 := by rw [Lib.index_one, Ks]
theorem R4 {acc : List Em} {v : Em} (ha : acc.length < 1000000000) : Dk acc v = some (.inl (acc ++ (bif v == [] then [] else [v]))) := by
 rw [Dk]
 cases (v == ([] : Em)) with
 | true => simp
 | false => simp [NT (b := 16) (n := acc.length + 1) (by omega) (by omega)]
theorem Qm {X σ ρ : Type} {Y : σ → X → Option (σ ⊕ ρ)} {s : σ} {x : X} {o : σ ⊕ ρ} (h : Y s x = some o) : SI Y (.inl s) x = some (o.isLeft, o) := by
 show (Y s x).map _ = _
 rw [h]; rfl
theorem Sa : ∀ (n : Nat) (x : Em) (acc : List Em), x.length ≤ n → acc.length + x.length < 900000000 →
  ∃ (x' : Em) (acc' : List Em), loop (By Dk) (x, .inl acc) = some (.inl (x', .inl acc')) ∧ acc'.length + x'.length ≤ acc.length + x.length ∧ acc' ++ (bif x' == [] then [] else [x']) = acc ++ Cj x := by
 intro n
 induction n with
 | zero =>
  intro x acc hn hb
  have : x = [] := List.length_eq_zero_iff.1 (by omega)
  subst this
  exact ⟨[], acc, Bo rfl, Nat.le_refl _, rfl⟩
 | succ n ih =>
  intro x acc hn hb
  have hle := Qa x
  by_cases hs : Dy x < x.length
  ·have e1 : IntKind.i64.wrap ((Dy x : Int) + 0) = (Dy x : Int) := UB (by omega) (by omega)
   have e2 : IntKind.i64.wrap ((Dy x : Int) + 1) = ((Dy x + 1 : Nat) : Int) := by rw [UB (by omega) (by omega)]; omega
   have step : By Dk (x, .inl acc) = some (.inl (x.drop (Dy x + 1), .inl (acc ++ (bif x.take (Dy x) == [] then [] else [x.take (Dy x)])))) := by
    rw [By, decide_eq_true (by omega), Gy, Ob, if_pos hs, Ba, if_neg (by omega), e1, OD hle, Option.bind_some, Qm (R4 (by omega)), Option.bind_some]
    dsimp only
    rw [e2, Tb (by omega)]
    rfl
   obtain ⟨x', acc', h1, h2, h3⟩ := ih (x.drop (Dy x + 1)) (acc ++ (bif x.take (Dy x) == [] then [] else [x.take (Dy x)])) (by rw [List.length_drop]; omega) (by
    rw [List.length_append, List.length_drop]
    have : (bif x.take (Dy x) == [] then ([] : List Em) else [x.take (Dy x)]).length ≤ 1 := by cases (x.take (Dy x) == []) <;> simp
    omega)
   refine ⟨x', acc', by rw [Dl step]; exact h1, ?_, by rw [h3, List.append_assoc, ← Jo]⟩
   rw [List.length_append, List.length_drop] at h2
   have : (bif x.take (Dy x) == [] then ([] : List Em) else [x.take (Dy x)]).length ≤ 1 := by cases (x.take (Dy x) == []) <;> simp
   omega
  ·refine ⟨x, acc, Bo ?_, Nat.le_refl _, ?_⟩
   ·rw [By, decide_eq_true (by omega), Gy, Ob, if_neg hs]; rfl
   ·have e : Dy x = x.length := by omega
    rw [Jo, e, List.take_length, List.drop_eq_nil_of_le (by omega), J2, List.append_nil]
theorem MC {s : Em} (h : s.length < 900000000) : EV s = some (Cj s) := by
 obtain ⟨x', acc', h1, h2, h3⟩ := Sa s.length s [] (Nat.le_refl _) (by simpa using h)
 simp only [List.length_nil, Nat.zero_add] at h2
 unfold EV ES D1 DC
 simp only [Option.bind_some]
 rw [h1, Option.bind_some]
 dsimp only
 rw [Qm (R4 (by omega)), Option.bind_some]
 dsimp only
 rw [Option.bind_some, h3]
 rfl
theorem Vh {l : List Em} (h : ∀ x ∈ l, x ≠ []) (hl : l.length < 900000000) : Bu l = some l := by
 have key : ∀ (k i : Nat), i + k = l.length → loop (BX l) (i : Int) = some (.inl ()) := by
  intro k
  induction k with
  | zero =>
   intro i hi
   refine Bo ?_
   rw [BX, Ba, if_neg (by omega)]
  | succ k ih =>
   intro i hi
   have hlt : i < l.length := by omega
   have step : BX l (i : Int) = some (.inl ((i + 1 : Nat) : Int)) := by
    rw [BX, Ba, if_pos (by omega), Fm hlt, Option.bind_some, G8, Option.bind_some, beq_eq_false_iff_ne.2 (h _ (List.getElem_mem hlt)), B0, OI (by omega)]
   rw [Dl step]
   exact ih (i + 1) (by omega)
 unfold Bu CJ
 rw [show (0 : Int) = ((0 : Nat) : Int) from rfl, key l.length 0 (by omega)]
 rfl
theorem Px {l : List Em} (h : ∀ x ∈ l, UP x) (hl : l.length < 900000000) (hj : (pj l).length < 900000000) : Et l = some (pj l) := by
 unfold Et
 rw [NT (by omega) (by omega), Gy, Vh (fun x hx => (h x hx).1) hl, Option.bind_some]
 have : Q1 l [47] = true := decide_eq_true ⟨by omega, by show (pj l).length ≤ _; omega⟩
 rw [this, Gy]
 rfl
end Go.Av.L
