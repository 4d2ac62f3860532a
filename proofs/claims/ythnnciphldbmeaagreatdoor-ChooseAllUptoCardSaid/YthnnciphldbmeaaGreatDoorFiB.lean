/-
  Names: what the functions of strip, cachedir and of the document tell.
-/
import Derived.Test.YthnnciphldbmeaaGreatDoorFiA
import Derived.Test.YthnnciphldbmeaaGreatDoorK0
import Derived.Test.YthnnciphldbmeaaGreatDoorK1
import Derived.Test.YthnnciphldbmeaaGreatDoorK2
import Derived.Test.YthnnciphldbmeaaGreatDoorK3
import Derived.Test.YthnnciphldbmeaaGreatDoorK4
import Derived.Test.YthnnciphldbmeaaGreatDoorK5
import Derived.Test.YthnnciphldbmeaaGreatDoorK6
import Derived.Test.YthnnciphldbmeaaGreatDoorK7
import Derived.Test.YthnnciphldbmeaaGreatDoorK8
import Derived.Test.YthnnciphldbmeaaGreatDoorK9
namespace Go.Av.L
open Go.Av
set_option linter.unusedVariables false
set_option linter.unusedSimpArgs false
theorem Kc : ∀ (x : GO), Lib.indexByte x 47 = if D6 x < x.length then (D6 x : Int) else -1
 | [] => rfl
 | b :: t => by
  have ih := Kc t
  have hl := Pz t
  unfold Lib.indexByte D6
  by_cases hb : b = 47
  ·subst hb; simp
  ·rw [if_neg hb, List.length_cons]
   have e : (b == 47) = false := beq_eq_false_iff_ne.2 hb
   by_cases h : D6 t < t.length
   ·rw [if_pos h] at ih
    have e2 : ((D6 t : Int) == -1) = false := beq_eq_false_iff_ne.2 (by omega)
    rw [if_pos (show D6 t + 1 < t.length + 1 by omega), ih]
    simp [e, e2]
   ·rw [if_neg h] at ih
    rw [if_neg (show ¬ D6 t + 1 < t.length + 1 by omega), ih]
    simp [e]
theorem OQ (x : GO) : Lib.index x [47] = if D6 x < x.length then (D6 x : Int) else -1 := by rw [Lib.index_one, Kc]
theorem RP {acc : List GO} {v : GO} (ha : acc.length < 1000000000) : DZ acc v = some (.inl (acc ++ (bif v == [] then [] else [v]))) := by
 rw [DZ]
 cases (v == ([] : GO)) with
 | true => simp
 | false => simp [Ri (b := 16) (n := acc.length + 1) (by omega) (by omega)]
theorem Sj {X σ ρ : Type} {Y : σ → X → Option (σ ⊕ ρ)} {s : σ} {x : X} {o : σ ⊕ ρ} (h : Y s x = some o) : TS Y (.inl s) x = some (o.isLeft, o) := by
 show (Y s x).map _ = _
 rw [h]; rfl
theorem R3 : ∀ (n : Nat) (x : GO) (acc : List GO), x.length ≤ n → acc.length + x.length < 900000000 →
  ∃ (x' : GO) (acc' : List GO), loop (Bu DZ) (x, .inl acc) = some (.inl (x', .inl acc')) ∧ acc'.length + x'.length ≤ acc.length + x.length ∧ acc' ++ (bif x' == [] then [] else [x']) = acc ++ Hi x := by
 intro n
 induction n with
 | zero =>
  intro x acc hn hb
  have : x = [] := List.length_eq_zero_iff.1 (by omega)
  subst this
  exact ⟨[], acc, CR rfl, Nat.le_refl _, rfl⟩
 | succ n ih =>
  intro x acc hn hb
  have hle := Pz x
  by_cases hs : D6 x < x.length
  ·have e1 : IntKind.i64.wrap ((D6 x : Int) + 0) = (D6 x : Int) := Vt (by omega) (by omega)
   have e2 : IntKind.i64.wrap ((D6 x : Int) + 1) = ((D6 x + 1 : Nat) : Int) := by rw [Vt (by omega) (by omega)]; omega
   have step : Bu DZ (x, .inl acc) = some (.inl (x.drop (D6 x + 1), .inl (acc ++ (bif x.take (D6 x) == [] then [] else [x.take (D6 x)])))) := by
    rw [Bu, decide_eq_true (by omega), Je, OQ, if_pos hs, CP, if_neg (by omega), e1, Sc hle, Option.bind_some, Sj (RP (by omega)), Option.bind_some]
    dsimp only
    rw [e2, VK (by omega)]
    rfl
   obtain ⟨x', acc', h1, h2, h3⟩ := ih (x.drop (D6 x + 1)) (acc ++ (bif x.take (D6 x) == [] then [] else [x.take (D6 x)])) (by rw [List.length_drop]; omega) (by
    rw [List.length_append, List.length_drop]
    have : (bif x.take (D6 x) == [] then ([] : List GO) else [x.take (D6 x)]).length ≤ 1 := by cases (x.take (D6 x) == []) <;> simp
    omega)
   refine ⟨x', acc', by rw [Fb step]; exact h1, ?_, by rw [h3, List.append_assoc, ← Mf]⟩
   rw [List.length_append, List.length_drop] at h2
   have : (bif x.take (D6 x) == [] then ([] : List GO) else [x.take (D6 x)]).length ≤ 1 := by cases (x.take (D6 x) == []) <;> simp
   omega
  ·refine ⟨x, acc, CR ?_, Nat.le_refl _, ?_⟩
   ·rw [Bu, decide_eq_true (by omega), Je, OQ, if_neg hs]; rfl
   ·have e : D6 x = x.length := by omega
    rw [Mf, e, List.take_length, List.drop_eq_nil_of_le (by omega), LB, List.append_nil]
theorem Ns {s : GO} (h : s.length < 900000000) : Et s = some (Hi s) := by
 obtain ⟨x', acc', h1, h2, h3⟩ := R3 s.length s [] (Nat.le_refl _) (by simpa using h)
 simp only [List.length_nil, Nat.zero_add] at h2
 unfold Et EF Dr Cy
 simp only [Option.bind_some]
 rw [h1, Option.bind_some]
 dsimp only
 rw [Sj (RP (by omega)), Option.bind_some]
 dsimp only
 rw [Option.bind_some, h3]
 rfl
theorem VG {l : List GO} (h : ∀ x ∈ l, x ≠ []) (hl : l.length < 900000000) : Bq l = some l := by
 have key : ∀ (k i : Nat), i + k = l.length → loop (BQ l) (i : Int) = some (.inl ()) := by
  intro k
  induction k with
  | zero =>
   intro i hi
   refine CR ?_
   rw [BQ, CP, if_neg (by omega)]
  | succ k ih =>
   intro i hi
   have hlt : i < l.length := by omega
   have step : BQ l (i : Int) = some (.inl ((i + 1 : Nat) : Int)) := by
    rw [BQ, CP, if_pos (by omega), Gv hlt, Option.bind_some, Gt, Option.bind_some, beq_eq_false_iff_ne.2 (h _ (List.getElem_mem hlt)), CK, Rw (by omega)]
   rw [Fb step]
   exact ih (i + 1) (by omega)
 unfold Bq CD
 rw [show (0 : Int) = ((0 : Nat) : Int) from rfl, key l.length 0 (by omega)]
 rfl
theorem TM {l : List GO} (h : ∀ x ∈ l, Wm x) (hl : l.length < 900000000) (hj : (pj l).length < 900000000) : FO l = some (pj l) := by
 unfold FO
 rw [Ri (by omega) (by omega), Je, VG (fun x hx => (h x hx).1) hl, Option.bind_some]
 have : QY l [47] = true := decide_eq_true ⟨by omega, by show (pj l).length ≤ _; omega⟩
 rw [this, Je]
 rfl
end Go.Av.L
