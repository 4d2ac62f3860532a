/-
  ABS, 40: what a configuration of its own tells of closed calls: that they tell true; that they come back.
-/
import Derived.Test.YtkdlmohhklimjaaGreatDoorAvLib
import Derived.Test.YtkdlmohhklimjaaGreatDoorAvFast
namespace Go.Av
open Go.RowKit
set_option linter.unusedVariables false
set_option linter.unusedSimpArgs false

theorem canL_nil (l : List Bool) : canL l [] = [] := by cases l with | nil => rfl | cons b l => cases b <;> rfl
/-- a closed call that tells true, by its own configuration -/
theorem tellTrue_ok {C1 : Cfg} (hC : CfgOk C1) {f : FuncId} (hk : C1.kind f = 4) (hb : ∃ h', Bodies C1 ⟨0, []⟩ ⟨0, .leaf⟩ f [] (.bool true) h') : ExtOk C1.P C1.glob f fun _ h args => extTrue h args := by
  obtain ⟨h1, n, hn⟩ := hb
  intro g h f' args v h' hc
  dsimp only at hc
  split at hc
  · rename_i e
    subst e
    unfold extTrue at hc
    split at hc
    · simp only [Option.some.injEq, Prod.mk.injEq] at hc
      obtain ⟨rfl, rfl⟩ := hc
      have hcall : (selfN C1 (n + 1)).call g h f' [] = some (.bool true, h) := by
        show callA C1 (selfN C1 n) g h f' [] = _
        unfold callA
        rw [hk]
        simp [hn, flat3, flat2, flat1]
      exact (selfN_ok hC (n + 1)).sub.call g h f' [] _ _ hcall
    · cases hc
  · cases hc
/-- a closed call of which nothing is told but that it comes back -/
theorem tellNone_ok {C1 : Cfg} (hC : CfgOk C1) {f : FuncId} (hk : C1.kind f = 1) (hb : ∃ v h', Bodies C1 ⟨0, []⟩ ⟨0, .leaf⟩ f [] v h') : ExtOk C1.P C1.glob f fun _ h args => extNone h args := by
  obtain ⟨u, h1, n, hn⟩ := hb
  intro g h f' args v h' hc
  dsimp only at hc
  split at hc
  · rename_i e
    subst e
    unfold extNone at hc
    split at hc
    · simp only [Option.some.injEq, Prod.mk.injEq] at hc
      obtain ⟨rfl, rfl⟩ := hc
      have hcall : (selfN C1 (n + 1)).call ⟨0, []⟩ ⟨0, .leaf⟩ f' [] = some (u, h1) := by
        show callA C1 (selfN C1 n) _ _ f' [] = _
        unfold callA
        rw [hk]
        simp only [canL_nil]
        exact hn
      obtain ⟨_, k2⟩ := (selfN_ok hC (n + 1)).sub.call _ _ f' [] _ _ hcall
      refine ⟨Keeps.refl _ _, fun w0 m w cargs hz r hv => ?_⟩
      have hv0 : VRs ⟨fun _ => none, fun _ _ => none, fun _ => False⟩ [] cargs.toList := ⟨hv.1, fun i x y hx hy => by simp at hx⟩
      have r0 : Rel C1.P w ⟨fun _ => none, fun _ _ => none, fun _ => False⟩ ⟨0, .leaf⟩ w := ⟨Below.refl _ _, fun id E hE => by simp at hE, fun id E o hE => by simp at hE, fun id E o hE => by simp at hE, fun id id' E E' o o' _ hE => by simp at hE, fun g o v hv => (by cases hv), fun id E o hE => (by simp at hE), fun g hg => hg.elim, fun id E o hE => by simp at hE⟩
      exact (k2 w _ w cargs (hz.later r.below) r0 hv0).mono fun v' w' ⟨m', g1, g2, g3⟩ => ⟨m, Inj.ext.refl _ _, r.later g2.below, VR.undef _⟩
    · cases hc
  · cases hc
section
variable {C : Cfg}
/-- a closed call that comes back, reckoned fast -/
theorem closedU {f : FuncId} (n : Nat) (hr : (bodyB C false f).f (selfF C n) ⟨0, []⟩ ⟨0, .leaf⟩ [] (fun _ _ => some (.undef, ⟨0, .leaf⟩)) = some (.undef, ⟨0, .leaf⟩)) : ∃ v h', Bodies C ⟨0, []⟩ ⟨0, .leaf⟩ f [] v h' := by
  obtain ⟨x, h', h1, h2⟩ := body_ok (selfF_ok n) hr
  exact ⟨_, h', n, h1⟩
variable {l : List (Nat × Nat × Nat × Nat)} {g : Gd} {h : AHeap} {f : Nat}
theorem runsTrue (hk : C.kind f = 3) (hx : C.ext = extL C.P l) (hl : lookE l f = some (30, 0, 0)) : Runs C g h f [] (.bool true) h := runsX hk hx hl rfl
theorem runsNone (hk : C.kind f = 3) (hx : C.ext = extL C.P l) (hl : lookE l f = some (31, 0, 0)) : Runs C g h f [] .undef h := runsX hk hx hl rfl
end
end Go.Av
