/-
 A part.
-/
import Derived.Test.YtdjbadhilkmiiaaGreatDoorAvMap
import Derived.Test.YtdjbadhilkmiiaaGreatDoorAvMore
namespace Go.Av.L
open Go.Av
set_option linter.unusedVariables false
set_option linter.unusedSimpArgs false
def Wo {σ ρ : Type} (step : σ → Option (σ ⊕ ρ)) (Q : ρ → Prop) : σ ⊕ ρ → Prop
 | .inl s' => W (Av.loop step s') Q
 | .inr r => Q r
theorem W.MH {σ ρ : Type} {step : σ → Option (σ ⊕ ρ)} {s : σ} {Q : ρ → Prop} (w : W (step s) (Wo step Q)) : W (Av.loop step s) Q := by
 obtain ⟨o, e, q⟩ := w
 cases o with
 | inl s' => rw [Jg e]; exact q
 | inr r => exact ⟨r, El e, q⟩
end Go.Av.L
