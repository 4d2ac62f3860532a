/-
  Delta: the last ones.
-/
import Derived.Test.YtcmfogjpkkodbaaDeA
namespace Go.Av.L
open Go.Av Go.Lib
set_option linter.unusedVariables false
set_option linter.unusedSimpArgs false

theorem lastD (l : List Mb) (hl : l.length ≤ 1000) (hE : ∀ x ∈ l, Short x) : M_delta_Last l = some (lastL l) := by
  unfold M_delta_Last
  rw [places38 l hl, Option.bind_some, kept38 l _ (fun _ => true) hl hE (fun x _ => by rw [placesL_find]; rfl)]
  simp
end Go.Av.L
