/-
  Arrays that are handed in.
-/
import Derived.Test.YtmjljpnalhknfaaDoorAbsRep
namespace Go.Abs
open Go
set_option linter.unusedVariables false
theorem argArr {P : Program} {α : Type} {t e : TypeId} {n : Nat} {R : RT P α} (hu : P.underlying t = some (.array n e)) (hz : R.sz = P.cellsOf t) (hok : n * P.cellsOf e = P.cellsOf t) (a : ArgL P (List.replicate n e) R) : ArgT P t R := by
  refine ⟨hz, fun fuel cs d ps ht h => ?_⟩
  cases fuel with
  | zero => simp [DataW.trod] at ht
  | succ fuel =>
    unfold DataW.trod at ht
    rw [hu] at ht
    split at ht <;> first | contradiction | cases ‹(some (_ : TypeDesc)) = some _› | exact absurd rfl (‹∀ (n_1 : Nat) (e_1 : TypeId), (some (TypeDesc.array n e) : Option TypeDesc) = some (TypeDesc.array n_1 e_1) → False› n e)
    split at ht <;> try contradiction
    simp only [Option.map_eq_some_iff, Prod.mk.injEq] at ht
    obtain ⟨xs, hx, rfl, _⟩ := ht
    have hlen : xs.length = n := by simpa using mapM_some_length hx
    obtain ⟨x, as, h', f1, f2, f3, f4, f5, f6⟩ := a fuel (xs.map (·.1)) (by simpa using hlen) (fun i d t hd ht => by
      rw [List.getElem?_map, Option.map_eq_some_iff] at hd
      obtain ⟨x, hx', rfl⟩ := hd
      have hi : i < n := by rw [← hlen]; exact (List.getElem?_eq_some_iff.1 hx').1
      have et : t = e := by rw [List.getElem?_replicate] at ht; split at ht <;> simp_all
      subst et
      have := mapM_some_get hx i i (by simp [hi])
      rw [hx'] at this
      exact ⟨_, x.2, this⟩) h
    refine ⟨x, as, h', ?_, f2, f3, f4, f5, ?_⟩
    · simp only [absD, hu, hok, if_true, f1]
    · simp only [bulk]; omega
end Go.Abs
