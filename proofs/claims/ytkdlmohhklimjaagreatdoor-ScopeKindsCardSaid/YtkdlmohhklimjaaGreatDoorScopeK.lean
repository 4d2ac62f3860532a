/-
  ScopeKinds: a Link is rewritten of Soft and Hard members alone, by the flags.
-/
import Derived.Test.YtkdlmohhklimjaaGreatDoorK0
import Derived.Test.YtkdlmohhklimjaaGreatDoorK1
import Derived.Test.YtkdlmohhklimjaaGreatDoorK2
import Derived.Test.YtkdlmohhklimjaaGreatDoorK3
import Derived.Test.YtkdlmohhklimjaaGreatDoorK4
import Derived.Test.YtkdlmohhklimjaaGreatDoorK5
import Derived.Test.YtkdlmohhklimjaaGreatDoorK6
import Derived.Test.YtkdlmohhklimjaaGreatDoorK7
import Derived.Test.YtkdlmohhklimjaaGreatDoorK8
import Derived.Test.YtkdlmohhklimjaaGreatDoorAvNum
namespace Go.Av.L
open Go.Av Go.Lib
set_option linter.unusedVariables false
set_option linter.unusedSimpArgs false
set_option maxRecDepth 100000 in
theorem awake_eq : M_boulterlaw25_awake = some true := by kernel_rfl
set_option maxRecDepth 100000 in
theorem kinds50 : ∀ b1 b2 b3 : Bool, (M_boulterlaw25_ScopeKinds 50 b1 b2 b3) = some true := by
 unfold M_boulterlaw25_ScopeKinds
 rw [awake_eq]
 intro b1 b2 b3
 cases b1 <;> cases b2 <;> cases b3 <;> kernel_rfl
set_option maxRecDepth 100000 in
theorem kinds49 : ∀ b1 b2 b3 : Bool, (M_boulterlaw25_ScopeKinds 49 b1 b2 b3) = some true := by
 unfold M_boulterlaw25_ScopeKinds
 rw [awake_eq]
 intro b1 b2 b3
 cases b1 <;> cases b2 <;> cases b3 <;> kernel_rfl
noncomputable def newOf (b1 b2 b3 : Bool) : Option ((Option S_scope_Rules) × Int × Int) := M_scope_New_sOII ([(⟨([97] : List UInt8), ([98] : List UInt8), false, false, false, (1 : Int), b1, b2, b3⟩ : S_rewrite_Expr)] : List S_rewrite_Expr) (100 : Int) (100 : Int)
noncomputable def rulesOf (b1 b2 b3 : Bool) : S_scope_Rules := match newOf b1 b2 b3 with
 | some (some r, _) => r
 | _ => ⟨[], 0⟩
set_option maxRecDepth 100000 in
theorem new_eq (b1 b2 b3 : Bool) : newOf b1 b2 b3 = some (some (rulesOf b1 b2 b3), 0, 0) := by
 cases b1 <;> cases b2 <;> cases b3 <;> kernel_rfl
def memA (p0 : Int) (nm : List UInt8) : S_api_Member := ⟨nm, ([97] : List UInt8), p0, (0 : Int), (0 : Int), (0 : Int), ([] : List UInt8), ([] : List UInt8), (0 : Int), (0 : Int), (⟨(0 : Int), (0 : Int)⟩ : S_api_Stamp), ([] : List S_api_Pair), ([] : List UInt8)⟩
set_option maxRecDepth 100000 in
theorem mem_no (p0 : Int) (h1 : (p0 == 50) = false) (h2 : (p0 == 49) = false) (b1 b2 b3 : Bool) : M_scope_Rules_Member_sPOR (rulesOf b1 b2 b3) (memA p0 [97]) = some (memA p0 (bif b1 then [98] else [97]), 0) := by
 unfold M_scope_Rules_Member_sPOR
 simp only [memA]
 rw [h1, h2]
 cases b1 <;> cases b2 <;> cases b3 <;> kernel_rfl
theorem kindsNo (p0 : Int) (h1 : (p0 == 50) = false) (h2 : (p0 == 49) = false) (b1 b2 b3 : Bool) : (M_boulterlaw25_ScopeKinds p0 b1 b2 b3) = some true := by
 have hn := new_eq b1 b2 b3
 have hm := mem_no p0 h1 h2 b1 b2 b3
 unfold newOf at hn
 unfold memA at hm
 unfold M_boulterlaw25_ScopeKinds
 rw [hn, Option.bind_some]
 simp only []
 rw [hm, awake_eq, h1, h2]
 cases b1 <;> simp [iteB]
theorem lawScopeKinds (p0 : Int) {Q0 : Prop} (k0 : Q0) (p1 : Bool) {Q1 : Prop} (k1 : Q1) (p2 : Bool) {Q2 : Prop} (k2 : Q2) (p3 : Bool) {Q3 : Prop} (k3 : Q3) : M_boulterlaw25_ScopeKinds p0 p1 p2 p3 = some true := by
 by_cases h1 : p0 = 50
 ·subst h1; exact kinds50 p1 p2 p3
 by_cases h2 : p0 = 49
 ·subst h2; exact kinds49 p1 p2 p3
 exact kindsNo p0 (by simpa using h1) (by simpa using h2) p1 p2 p3
end Go.Av.L
