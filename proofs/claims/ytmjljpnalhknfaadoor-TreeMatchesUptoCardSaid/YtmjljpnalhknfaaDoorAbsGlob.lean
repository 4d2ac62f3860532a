/-
  From a row's list of package variables to what the run reads of them.
-/
import Derived.Test.YtmjljpnalhknfaaDoorAbsLaw
import Derived.Test.YtmjljpnalhknfaaDoorAbsMore
import Derived.Lib.LaidTab
namespace Go.Abs
open Go
theorem laid_rest {P : Program} {x : String × DataW Unit} {r : List (String × DataW Unit)} {w : World} (h : laidMet P (x :: r) w) : laidMet P r w := by
  obtain ⟨ps, hv, hnd, hrows⟩ := h
  obtain ⟨n, d⟩ := x
  obtain ⟨g, t, cs, fuel, p, q, _, _, _, _, hq, rfl⟩ := hv
  exact ⟨q, hq, List.Nodup.sublist (List.sublist_append_right _ _) hnd, fun b off hm => hrows b off (List.mem_append_right _ hm)⟩
/-- one variable -/
def GlobEnt (W : World) (g : Nat) (cs : List AVal) : Prop :=
  g < W.heap.size ∧ ∃ cur e fz, W.heap[g]? = some (.cells cur e fz) ∧ ∀ (j : Nat) (a : AVal), cs[j]? = some a → a.one = true ∧ Abs.flat1 a = true ∧ ∃ c, cur[j]? = some c ∧ VR (fun _ => none) a c
theorem globEnt_of_tab {P : Program} {W : World} {name : String} {k : IntKind} {zs : List Int} {g : Nat} (hg : P.globalNamed name = some g) (h : Lib.TabIs P W name k zs) : GlobEnt W g (zs.map fun z => AVal.int k z) := by
  unfold Lib.TabIs World.var? at h
  rw [hg] at h
  simp only [Option.bind_some] at h
  split at h
  · rename_i cs e fz hc
    injection h with h
    have hlt : g < W.heap.size := by
      by_cases hlt : g < W.heap.size
      · exact hlt
      · rw [Array.getElem?_eq_none (by omega)] at hc; cases hc
    refine ⟨hlt, cs, e, fz, hc, fun j a ha => ?_⟩
    rw [List.getElem?_map, Option.map_eq_some_iff] at ha
    obtain ⟨z, hz, rfl⟩ := ha
    refine ⟨rfl, rfl, .int k z, ?_, VR.int k z⟩
    rw [h]
    simp [hz]
  · cases h
theorem globOk_cons {W : World} {g : Nat} {cs : List AVal} {l : List (Nat × List AVal)} (h : GlobEnt W g cs) (hl : GlobOk (lookG l) W) : GlobOk (lookG ((g, cs) :: l)) W := fun g' cs' e => by
  unfold lookG at e
  rw [bif_beq] at e
  by_cases hx : g = g'
  · rw [if_pos hx] at e
    have := Option.some.inj e
    subst this; subst hx
    exact h
  · rw [if_neg hx] at e
    exact hl g' cs' e
theorem globOk_nil (W : World) : GlobOk (lookG []) W := fun g cs e => by cases e
end Go.Abs
