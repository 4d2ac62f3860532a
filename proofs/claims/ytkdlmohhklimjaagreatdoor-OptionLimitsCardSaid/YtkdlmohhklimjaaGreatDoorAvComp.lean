/-
  Models that are reckoned: a twin with rounds that are counted tells what the model tells.
-/
import Derived.Test.YtkdlmohhklimjaaGreatDoorAvNum
namespace Go.Av.L
open Go.Av
set_option linter.unusedVariables false

/-- what the one tells the other tells -/
def Le {α : Type} (a b : Option α) : Prop := ∀ r, a = some r → b = some r
theorem Le.refl {α : Type} (a : Option α) : Le a a := fun _ h => h
theorem Le.none {α : Type} (a : Option α) : Le Option.none a := fun _ h => by cases h
theorem Le.bind {α β : Type} {a b : Option α} {f g : α → Option β} (h : Le a b) (hf : ∀ x, Le (f x) (g x)) : Le (a.bind f) (b.bind g) := by
  intro r hr
  obtain ⟨x, e, hx⟩ := bind_some hr
  rw [h x e]; exact hf x r hx
theorem Le.iteB {α : Type} {c : Bool} {x y x' y' : Option α} (h1 : Le x x') (h2 : Le y y') : Le (iteB c x y) (iteB c x' y') := by
  cases c; exact h2; exact h1
theorem Le.need {α : Type} {c : Bool} {x x' : Option α} (h : Le x x') : Le (need c x) (need c x') := by
  cases c; exact fun _ h => h; exact h
theorem loopN_le {σ ρ : Type} {st st' : σ → Option (σ ⊕ ρ)} (h : ∀ s, Le (st s) (st' s)) : ∀ (n : Nat) (s : σ), Le (loopN st n s) (loopN st' n s)
  | 0, _ => fun _ h => by cases h
  | n + 1, s => by
    intro r hr
    unfold loopN at hr ⊢
    cases hs : st s with
    | none => rw [hs] at hr; cases hr
    | some o =>
      rw [hs] at hr
      rw [h s o hs]
      cases o with
      | inl s' => exact loopN_le h n s' r hr
      | inr r' => exact hr
theorem Le.loop {σ ρ : Type} {st st' : σ → Option (σ ⊕ ρ)} {n : Nat} {s : σ} (h : ∀ s, Le (st s) (st' s)) : Le (loopN st n s) (Av.loop st' s) := fun r hr => loop_of (loopN_le h n s r hr)
end Go.Av.L
