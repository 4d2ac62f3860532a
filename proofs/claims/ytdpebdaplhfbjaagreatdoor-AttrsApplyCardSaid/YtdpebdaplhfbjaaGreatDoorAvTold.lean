/-
  ABS, 40: what a configuration of its own tells of closed calls: that they tell true; that they come back.
-/
import Derived.Test.YtdpebdaplhfbjaaGreatDoorAvLib
import Derived.Test.YtdpebdaplhfbjaaGreatDoorAvFast
namespace Go.Av
open Go.RowKit
set_option linter.unusedVariables false
set_option linter.unusedSimpArgs false
theorem tellTrue_ok {C1 : Cfg} (hC : CfgOk C1) {f : FuncId} (hk : C1.kind f = 4) (hb : ∃ h', Bodies C1 ⟨0, []⟩ ⟨0, .leaf⟩ f [] (.bool true) h') : ExtOk C1.P C1.glob f fun _ h args => extTrue h args := by
 obtain ⟨h1, n, hn⟩ := hb
 intro g h f' args v h' hc
 dsimp only at hc
 split at hc
 ·rename_i e
  subst e
  unfold extTrue at hc
  split at hc
  ·simp only [Option.some.injEq, Prod.mk.injEq] at hc
   obtain ⟨rfl, rfl⟩ := hc
   have hcall : (selfN C1 (n + 1)).call g h f' [] = some (.bool true, h) := by
    show callA C1 (selfN C1 n) g h f' [] = _
    unfold callA
    rw [hk]
    simp [hn, flat3, flat2, flat1]
   exact (selfN_ok hC (n + 1)).sub.call g h f' [] _ _ hcall
  ·cases hc
 ·cases hc
section
variable {C : Cfg}
variable {km : KMs} {l : List (Nat × Nat × Nat × Nat)} {g : Gd} {h : AHeap} {f : Nat}
theorem runsTrue (hk : C.kind f = 3) (hx : C.ext = extL C.P km l) (hl : lookE l f = some (30, 0, 0)) : Runs C g h f [] (.bool true) h := runsX hk hx hl rfl
theorem runsLM {j n : Nat} {args : List AVal} {es : List (AVal × AVal)} (hk : C.kind f = 3) (hx : C.ext = extL C.P km l) (hl : lookE l f = some (33, j, n)) (hn : (Nat.beq args.length n && args.all isPtr) = true) (he : renE args (km.getD j []) = some es) : Runs C g h f args (.map (some h.size)) (h.push (.map 3 es)) := by
 refine runsX hk hx hl ?_
 show extLM (km.getD j []) n h args = _
 unfold extLM
 rw [hn, he]
 rfl
end
end Go.Av
