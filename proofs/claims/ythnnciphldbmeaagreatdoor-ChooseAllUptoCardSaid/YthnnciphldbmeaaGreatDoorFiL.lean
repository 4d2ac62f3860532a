/-
  Loops; members that are not too long.
-/
import Derived.Test.YthnnciphldbmeaaGreatDoorFiA
import Derived.Test.YthnnciphldbmeaaGreatDoorK0
import Derived.Test.YthnnciphldbmeaaGreatDoorK1
import Derived.Test.YthnnciphldbmeaaGreatDoorK2
import Derived.Test.YthnnciphldbmeaaGreatDoorK3
import Derived.Test.YthnnciphldbmeaaGreatDoorK4
import Derived.Test.YthnnciphldbmeaaGreatDoorK5
import Derived.Test.YthnnciphldbmeaaGreatDoorK6
import Derived.Test.YthnnciphldbmeaaGreatDoorK7
import Derived.Test.YthnnciphldbmeaaGreatDoorK8
import Derived.Test.YthnnciphldbmeaaGreatDoorK9
namespace Go.Av.L
open Go.Av Go.Lib
set_option linter.unusedVariables false
set_option linter.unusedSimpArgs false
abbrev Mb := AV
def UX (m : Mb) : Prop := m.Name.length ≤ 600 ∧ m.Bf.length ≤ 600 ∧ m.CB.length ≤ 100 ∧ m.Ca.length ≤ 100 ∧ m.Extra.length ≤ 12 ∧ ∀ p ∈ m.Extra, p.Key.length ≤ 300
def foldI {α σ : Type} (f : σ → Nat → α → σ) : σ → List α → Nat → σ
 | s, [], _ => s
 | s, x :: l, k => foldI f (f s k x) l (k + 1)
theorem Wy {α σ τ ρ : Type} {step : τ → Option (τ ⊕ ρ)} {l : List α} (enc : σ → Nat → τ) (f : σ → Nat → α → σ) (P : σ → Nat → Prop) (fin : σ → ρ)
  (hend : ∀ s, P s l.length → step (enc s l.length) = some (.inr (fin s)))
  (hstep : ∀ s i (hi : i < l.length), P s i → step (enc s i) = some (.inl (enc (f s i l[i]) (i + 1))) ∧ P (f s i l[i]) (i + 1)) (s : σ) (h0 : P s 0) :
  loop step (enc s 0) = some (fin (foldI f s l 0)) ∧ P (foldI f s l 0) l.length := by
 have key : ∀ (m : List α) (i : Nat) (s : σ), l.drop i = m → i ≤ l.length → P s i → loop step (enc s i) = some (fin (foldI f s m i)) ∧ P (foldI f s m i) l.length := by
  intro m
  induction m with
  | nil =>
   intro i s hd hi hp
   have : i = l.length := by have := congrArg List.length hd; simp at this; omega
   subst this
   exact ⟨CR (hend s hp), hp⟩
  | cons x m ih =>
   intro i s hd hi hp
   have hlt : i < l.length := by have := congrArg List.length hd; simp at this; omega
   have hx : l[i] = x ∧ l.drop (i + 1) = m := by
    rw [List.drop_eq_getElem_cons hlt] at hd
    exact ⟨(List.cons.inj hd).1, (List.cons.inj hd).2⟩
   obtain ⟨h1, h2⟩ := hstep s i hlt hp
   rw [hx.1] at h1 h2
   rw [Fb h1]
   exact ih (i + 1) _ hx.2 (by omega) h2
 exact key l 0 s rfl (Nat.zero_le _) h0
theorem XZ {k : Nat} (h : k < 9223372036854775807) : IntKind.i64.wrap ((k : Int) + 1) = ((k + 1 : Nat) : Int) := by rw [Vt (by omega) (by omega)]; omega
theorem SU {α ρ : Type} {step : Int → Option (Int ⊕ ρ)} {l : List α} (p : α → Bool) (a b : ρ) (hl : l.length ≤ 9223372036854775807)
  (hend : step (l.length : Int) = some (.inr b)) (hstep : ∀ i (hi : i < l.length), step (i : Int) = bif p l[i] then some (.inr a) else some (.inl (IntKind.i64.wrap ((i : Int) + 1)))) :
  loop step 0 = some (bif l.any p then a else b) := by
 have key : ∀ (m : List α) (i : Nat), l.drop i = m → i ≤ l.length → loop step (i : Int) = some (bif m.any p then a else b) := by
  intro m
  induction m with
  | nil =>
   intro i hd hi
   have : i = l.length := by have := congrArg List.length hd; simp at this; omega
   subst this
   exact CR hend
  | cons x m ih =>
   intro i hd hi
   have hlt : i < l.length := by have := congrArg List.length hd; simp at this; omega
   have hx : l[i] = x ∧ l.drop (i + 1) = m := by
    rw [List.drop_eq_getElem_cons hlt] at hd
    exact ⟨(List.cons.inj hd).1, (List.cons.inj hd).2⟩
   have h1 := hstep i hlt
   rw [hx.1] at h1
   rw [List.any_cons]
   cases hp : p x
   ·rw [hp] at h1
    rw [Fb h1, XZ (by omega), ih (i + 1) hx.2 (by omega)]; rfl
   ·rw [hp] at h1
    exact CR h1
 exact key l 0 rfl (Nat.zero_le _)
theorem UT {α : Type} {step : Int → Option (Int ⊕ (Unit ⊕ Bool))} {a b : List α} (same : α → α → Option Bool) (hs : ∀ x ∈ a, ∀ y, ∃ r, same x y = some r ∧ (r = true ↔ x = y)) (hl : a.length = b.length) (hb : a.length < 4611686018427387904)
  (hstep : ∀ x1 : Int, step x1 = Ae (decide (x1 < (a.length : Int))) ((HR a x1).bind fun x3 => (HR b x1).bind fun x4 => (same x3 x4).bind fun x5 => Ae (!x5) (some (.inr (.inr false))) (some (.inl (IntKind.i64.wrap (x1 + (1 : Int)))))) (some (.inr (.inl ())))) :
  ∃ r, (loop step 0).bind (fun o1 => (match o1 with | .inl _ => some true | .inr x2 => some x2)) = some r ∧ (r = true ↔ a = b) := by
 have key : ∀ (n i : Nat), i + n = a.length → ∃ r, (loop step (i : Int)).bind (fun o1 => (match o1 with | .inl _ => some true | .inr x2 => some x2)) = some r ∧ (r = true ↔ a.drop i = b.drop i) := by
  intro n
  induction n with
  | zero =>
   intro i hi
   have h1 : step (i : Int) = some (.inr (.inl ())) := by rw [hstep, CP, if_neg (by omega)]
   refine ⟨true, by rw [CR h1]; rfl, ?_⟩
   rw [List.drop_of_length_le (by omega), List.drop_of_length_le (by omega)]; simp
  | succ n ih =>
   intro i hi
   have ha : i < a.length := by omega
   have hb' : i < b.length := by omega
   obtain ⟨r, h1, h2⟩ := hs a[i] (List.getElem_mem ha) b[i]
   rw [List.drop_eq_getElem_cons ha, List.drop_eq_getElem_cons hb', List.cons.injEq]
   have h3 := hstep (i : Int)
   rw [CP, if_pos (by omega), Gv ha, Option.bind_some, Gv hb', Option.bind_some, h1, Option.bind_some] at h3
   cases r with
   | false =>
    exact ⟨false, by rw [CR h3]; rfl, by simp at h2; simp [h2]⟩
   | true =>
    rw [Bool.not_true, CK, Rw (by omega)] at h3
    rw [Fb h3]
    obtain ⟨r, h4, h5⟩ := ih (i + 1) (by omega)
    exact ⟨r, h4, by rw [h5]; simp at h2; simp [h2]⟩
 simpa using key a.length 0 (by omega)
theorem WQ (p : List Am) : ∃ b, D3 p = some b ∧ (b = false → p.length ≤ 12 ∧ ∀ x ∈ p, x.Key.length ≤ 300) := by
 unfold D3
 rw [CP]
 by_cases h : (p.length : Int) > 12
 ·rw [if_pos h]; exact ⟨true, rfl, by simp⟩
 ·rw [if_neg h]
  have hl := SU (l := p) (step := DL p) (fun x => decide ((x.Key.length : Int) > 300) || decide ((x.Value.length : Int) > 300)) (.inr true) (.inl ()) (by omega)
   (by unfold DL; dsimp only; rw [CP, if_neg (by omega)])
   (fun i hi => by
    unfold DL
    dsimp only
    rw [CP, if_pos (by omega), Gv hi, Option.bind_some]
    simp only [Option.bind_some, LG]
    cases (decide ((p[i].Key.length : Int) > 300) || decide ((p[i].Value.length : Int) > 300)) <;> rfl)
  rw [hl]
  cases hb : p.any fun x => decide ((x.Key.length : Int) > 300) || decide ((x.Value.length : Int) > 300)
  ·refine ⟨false, rfl, fun _ => ⟨by omega, fun x hx => ?_⟩⟩
   rw [List.any_eq_false] at hb
   have := hb x hx
   simp only [Bool.or_eq_true, decide_eq_true_eq, not_or] at this
   omega
  ·exact ⟨true, rfl, by simp⟩
theorem Td (m : Mb) : ∃ b, Co m = some b ∧ (b = false → UX m) := by
 unfold Co
 obtain ⟨b, h1, h2⟩ := WQ m.Extra
 rw [h1, Option.bind_some]
 refine ⟨_, rfl, fun h => ?_⟩
 simp only [Bool.or_eq_false_iff, decide_eq_false_iff_not] at h
 obtain ⟨⟨⟨⟨⟨h3, h4⟩, h5⟩, h6⟩, h7⟩, _⟩ := h
 exact ⟨by omega, by omega, by omega, by omega, (h2 h3).1, (h2 h3).2⟩
noncomputable def Sf (m : Mb) : Bool := (Co m).getD true
theorem RB (m : Mb) : Co m = some (Sf m) := by obtain ⟨b, h1, _⟩ := Td m; simp only [Sf, h1]; rfl
theorem Q4 {m : Mb} (h : Sf m = false) : UX m := by
 obtain ⟨b, h1, h2⟩ := Td m
 rw [RB m] at h1
 injection h1 with h1
 exact h2 (by rw [← h1]; exact h)
end Go.Av.L
