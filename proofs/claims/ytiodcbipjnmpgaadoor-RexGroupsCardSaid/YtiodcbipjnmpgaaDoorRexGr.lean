/-
  What boulterlaw19_RexGroups tells, reckoned by the kernel on its model's twin.
-/
import Derived.Test.YtiodcbipjnmpgaaDoorKAll
import Derived.Test.YtiodcbipjnmpgaaDoorAvComp
import Derived.Test.YtiodcbipjnmpgaaDoorAvSm
namespace Go.Av.L
open Go.Av
set_option linter.unusedVariables false
set_option maxRecDepth 100000

noncomputable abbrev lpN {σ ρ : Type} (n : Nat) (st : σ → Option (σ ⊕ ρ)) (s : σ) : Option ρ := loopN st n s
noncomputable def C_rex_walk_ok_sPO (n : Nat) (p0 : S_rex_walk) : Option (Bool) :=
 some (decide (p0.wrong_ < (0 : Int)))
theorem le_C_rex_walk_ok_sPO (n : Nat) (hn : n ≤ bigF) : ∀ (p0 : S_rex_walk), Le (C_rex_walk_ok_sPO n p0) (M_rex_walk_ok_sPO p0) := by
  intro p0
  unfold C_rex_walk_ok_sPO M_rex_walk_ok_sPO
  repeat' (first | with_reducible (first | exact Le.refl _ | exact Le.none _ | refine Le.bind ?_ (fun _ => ?_) | refine Le.iteB ?_ ?_ | refine Le.need ?_) | refine Le.loop (fun _ => ?_) | split | dsimp only)
noncomputable def C_stringslite_HasPrefix (n : Nat) (p0 : List UInt8) (p1 : List UInt8) : Option (Bool) :=
 (iteB (decide ((p0.length : Int) ≥ (p1.length : Int))) ((subS p0 none (some (p1.length : Int))).bind fun x2 => some (x2 == p1)) (some false) : Option (Bool)).bind fun x1 => some x1
theorem le_C_stringslite_HasPrefix (n : Nat) (hn : n ≤ bigF) : ∀ (p0 : List UInt8) (p1 : List UInt8), Le (C_stringslite_HasPrefix n p0 p1) (M_stringslite_HasPrefix p0 p1) := by
  intro p0 p1
  unfold C_stringslite_HasPrefix M_stringslite_HasPrefix
  repeat' (first | with_reducible (first | exact Le.refl _ | exact Le.none _ | refine Le.bind ?_ (fun _ => ?_) | refine Le.iteB ?_ ?_ | refine Le.need ?_) | refine Le.loop (fun _ => ?_) | split | dsimp only)
noncomputable def C_strings_HasPrefix (n : Nat) (p0 : List UInt8) (p1 : List UInt8) : Option (Bool) :=
 (C_stringslite_HasPrefix n p0 p1).bind fun x1 => some x1
theorem le_C_strings_HasPrefix (n : Nat) (hn : n ≤ bigF) : ∀ (p0 : List UInt8) (p1 : List UInt8), Le (C_strings_HasPrefix n p0 p1) (M_strings_HasPrefix p0 p1) := by
  intro p0 p1
  unfold C_strings_HasPrefix M_strings_HasPrefix
  repeat' (first | with_reducible (first | exact Le.refl _ | apply le_C_stringslite_HasPrefix n hn | exact Le.none _ | refine Le.bind ?_ (fun _ => ?_) | refine Le.iteB ?_ ?_ | refine Le.need ?_) | refine Le.loop (fun _ => ?_) | split | dsimp only)
noncomputable def C_rex_walk_sign_sPOS (n : Nat) (p0 : S_rex_walk) (p1 : List UInt8) : Option (Bool) :=
 (iteB (!p0.extended_) (need (decide (([92] : List UInt8).length + p1.length ≤ 9223372036854775807)) <| some (([92] : List UInt8) ++ p1)) (some p1) : Option (((List UInt8)))).bind fun x1 => (subS p0.s_ (some p0.at_) none).bind fun x2 => (C_strings_HasPrefix n x2 x1).bind fun x3 => some x3
theorem le_C_rex_walk_sign_sPOS (n : Nat) (hn : n ≤ bigF) : ∀ (p0 : S_rex_walk) (p1 : List UInt8), Le (C_rex_walk_sign_sPOS n p0 p1) (M_rex_walk_sign_sPOS p0 p1) := by
  intro p0 p1
  unfold C_rex_walk_sign_sPOS M_rex_walk_sign_sPOS
  repeat' (first | with_reducible (first | exact Le.refl _ | apply le_C_strings_HasPrefix n hn | exact Le.none _ | refine Le.bind ?_ (fun _ => ?_) | refine Le.iteB ?_ ?_ | refine Le.need ?_) | refine Le.loop (fun _ => ?_) | split | dsimp only)
noncomputable def C_rex_walk_closes_sPO (n : Nat) (p0 : S_rex_walk) : Option (Bool) :=
 (iteB (p0.at_ == (p0.s_.length : Int)) (some true) ((C_rex_walk_sign_sPOS n p0 ([124] : List UInt8)).bind fun x2 => some x2) : Option (Bool)).bind fun x1 => (iteB x1 (some true) ((C_rex_walk_sign_sPOS n p0 ([41] : List UInt8)).bind fun x4 => some x4) : Option (Bool)).bind fun x3 => some x3
theorem le_C_rex_walk_closes_sPO (n : Nat) (hn : n ≤ bigF) : ∀ (p0 : S_rex_walk), Le (C_rex_walk_closes_sPO n p0) (M_rex_walk_closes_sPO p0) := by
  intro p0
  unfold C_rex_walk_closes_sPO M_rex_walk_closes_sPO
  repeat' (first | with_reducible (first | exact Le.refl _ | apply le_C_rex_walk_sign_sPOS n hn | exact Le.none _ | refine Le.bind ?_ (fun _ => ?_) | refine Le.iteB ?_ ?_ | refine Le.need ?_) | refine Le.loop (fun _ => ?_) | split | dsimp only)
noncomputable def C_class_Set_add (n : Nat) (p0 : A4_uint64) (p1 : Int) : Option (A4_uint64) :=
 (ixV ([p0.w0, p0.w1, p0.w2, p0.w3] : List Int) (bShr .u8 p1 (6 : Int))).bind fun x1 => need (decide (0 ≤ (bAnd .u8 p1 (63 : Int)))) <| (ixV ([p0.w0, p0.w1, p0.w2, p0.w3] : List Int) (bShr .u8 p1 (6 : Int))).bind fun x2 => some (⟨(bif (bShr .u8 p1 (6 : Int)) == 0 then bOr .u64 x1 (bShl .u64 (1 : Int) (bAnd .u8 p1 (63 : Int))) else p0.w0), (bif ((bShr .u8 p1 (6 : Int)) - 1) == 0 then bOr .u64 x1 (bShl .u64 (1 : Int) (bAnd .u8 p1 (63 : Int))) else p0.w1), (bif (((bShr .u8 p1 (6 : Int)) - 1) - 1) == 0 then bOr .u64 x1 (bShl .u64 (1 : Int) (bAnd .u8 p1 (63 : Int))) else p0.w2), (bif ((((bShr .u8 p1 (6 : Int)) - 1) - 1) - 1) == 0 then bOr .u64 x1 (bShl .u64 (1 : Int) (bAnd .u8 p1 (63 : Int))) else p0.w3)⟩ : A4_uint64)
theorem le_C_class_Set_add (n : Nat) (hn : n ≤ bigF) : ∀ (p0 : A4_uint64) (p1 : Int), Le (C_class_Set_add n p0 p1) (M_class_Set_add p0 p1) := by
  intro p0 p1
  unfold C_class_Set_add M_class_Set_add
  repeat' (first | with_reducible (first | exact Le.refl _ | exact Le.none _ | refine Le.bind ?_ (fun _ => ?_) | refine Le.iteB ?_ ?_ | refine Le.need ?_) | refine Le.loop (fun _ => ?_) | split | dsimp only)
noncomputable def C_class_Range_L0 (n : Nat) (p1 : Int) (s : Int × Int × Int × Int × Int) : Option ((Int × Int × Int × Int × Int) ⊕ ((Int × Int × Int × Int))) :=
 match s with
 | (x1, x2, x3, x4, x5) => iteB (decide (x5 ≤ (IntKind.i64.wrap p1))) ((C_class_Set_add n (⟨x1, x2, x3, x4⟩ : A4_uint64) (IntKind.u8.wrap x5)).bind fun x10 => some (.inl (x10.w0, x10.w1, x10.w2, x10.w3, IntKind.i64.wrap (x5 + (1 : Int))))) (some (.inr (x1, x2, x3, x4)))
theorem le_C_class_Range_L0 (n : Nat) (hn : n ≤ bigF) : ∀ (p1 : Int) (s : Int × Int × Int × Int × Int), Le (C_class_Range_L0 n p1 s) (M_class_Range_L0 p1 s) := by
  intro p1 s
  unfold C_class_Range_L0 M_class_Range_L0
  repeat' (first | with_reducible (first | exact Le.refl _ | apply le_C_class_Set_add n hn | exact Le.none _ | refine Le.bind ?_ (fun _ => ?_) | refine Le.iteB ?_ ?_ | refine Le.need ?_) | refine Le.loop (fun _ => ?_) | split | dsimp only)
noncomputable def C_class_Range (n : Nat) (p0 : Int) (p1 : Int) : Option (A4_uint64) :=
 (lpN n (C_class_Range_L0 n p1) ((0 : Int), (0 : Int), (0 : Int), (0 : Int), IntKind.i64.wrap p0)).bind fun (x6, x7, x8, x9) => some (⟨x6, x7, x8, x9⟩ : A4_uint64)
theorem le_C_class_Range (n : Nat) (hn : n ≤ bigF) : ∀ (p0 : Int) (p1 : Int), Le (C_class_Range n p0 p1) (M_class_Range p0 p1) := by
  intro p0 p1
  unfold C_class_Range M_class_Range
  repeat' (first | with_reducible (first | exact Le.refl _ | apply le_C_class_Range_L0 n hn | exact Le.none _ | refine Le.bind ?_ (fun _ => ?_) | refine Le.iteB ?_ ?_ | refine Le.need ?_) | refine Le.loop (fun _ => ?_) | split | dsimp only)
noncomputable def C_tree_bare (n : Nat) (p0 : S_tree_Node) : Option (S_tree_Node × Bool) :=
 (iteB (p0.Kind == (0 : Int)) (some true) (iteB (p0.Kind == (6 : Int)) (some true) (some (p0.Kind == (7 : Int)))) : Option ((Bool))).bind fun x1 => iteB x1 (some ((⟨p0.Kind, (0 : Int), (0 : Int), (0 : Int), (0 : Int), (0 : Int), (⟨(0 : Int), (0 : Int), (0 : Int), (0 : Int)⟩ : A4_uint64)⟩ : S_tree_Node), true)) (iteB (p0.Kind == (1 : Int)) (some ((⟨(1 : Int), (0 : Int), (0 : Int), (0 : Int), (0 : Int), (0 : Int), p0.Set⟩ : S_tree_Node), true)) ((iteB (p0.Kind == (2 : Int)) (some true) (some (p0.Kind == (3 : Int))) : Option ((Bool))).bind fun x2 => iteB x2 (some ((⟨p0.Kind, p0.A, p0.B, (0 : Int), (0 : Int), (0 : Int), (⟨(0 : Int), (0 : Int), (0 : Int), (0 : Int)⟩ : A4_uint64)⟩ : S_tree_Node), true)) (iteB (p0.Kind == (4 : Int)) (some ((⟨(4 : Int), p0.A, (0 : Int), p0.Min, p0.Max, (0 : Int), (⟨(0 : Int), (0 : Int), (0 : Int), (0 : Int)⟩ : A4_uint64)⟩ : S_tree_Node), true)) (iteB (p0.Kind == (5 : Int)) (some ((⟨(5 : Int), p0.A, (0 : Int), (0 : Int), (0 : Int), p0.Group, (⟨(0 : Int), (0 : Int), (0 : Int), (0 : Int)⟩ : A4_uint64)⟩ : S_tree_Node), true)) (some ((⟨(0 : Int), (0 : Int), (0 : Int), (0 : Int), (0 : Int), (0 : Int), (⟨(0 : Int), (0 : Int), (0 : Int), (0 : Int)⟩ : A4_uint64)⟩ : S_tree_Node), false))))))
theorem le_C_tree_bare (n : Nat) (hn : n ≤ bigF) : ∀ (p0 : S_tree_Node), Le (C_tree_bare n p0) (M_tree_bare p0) := by
  intro p0
  unfold C_tree_bare M_tree_bare
  repeat' (first | with_reducible (first | exact Le.refl _ | exact Le.none _ | refine Le.bind ?_ (fun _ => ?_) | refine Le.iteB ?_ ?_ | refine Le.need ?_) | refine Le.loop (fun _ => ?_) | split | dsimp only)
noncomputable def C_tree_may_1_sIP (n : Nat) (p0 : Int) (p1 : Int) : Option (Bool) :=
 some ((decide (p0 ≥ (0 : Int))) && (decide (p0 < p1)))
theorem le_C_tree_may_1_sIP (n : Nat) (hn : n ≤ bigF) : ∀ (p0 : Int) (p1 : Int), Le (C_tree_may_1_sIP n p0 p1) (M_tree_may_1_sIP p0 p1) := by
  intro p0 p1
  unfold C_tree_may_1_sIP M_tree_may_1_sIP
  repeat' (first | with_reducible (first | exact Le.refl _ | exact Le.none _ | refine Le.bind ?_ (fun _ => ?_) | refine Le.iteB ?_ ?_ | refine Le.need ?_) | refine Le.loop (fun _ => ?_) | split | dsimp only)
noncomputable def C_rex_walk_next_sPOS (n : Nat) (p0 : S_rex_walk) (p1 : List UInt8) : Option (Bool × S_rex_walk) :=
 (C_rex_walk_sign_sPOS n p0 p1).bind fun x1 => iteB (!x1) (some (false, p0)) ((iteB (!p0.extended_) (some (IntKind.i64.wrap ((IntKind.i64.wrap (p0.at_ + (p1.length : Int))) + (1 : Int)))) (some (IntKind.i64.wrap (p0.at_ + (p1.length : Int)))) : Option ((Int))).bind fun x2 => some (true, (⟨p0.s_, x2, p0.extended_, p0.t_, p0.groups_, p0.depth_, p0.wrong_, p0.full_⟩ : S_rex_walk)))
theorem le_C_rex_walk_next_sPOS (n : Nat) (hn : n ≤ bigF) : ∀ (p0 : S_rex_walk) (p1 : List UInt8), Le (C_rex_walk_next_sPOS n p0 p1) (M_rex_walk_next_sPOS p0 p1) := by
  intro p0 p1
  unfold C_rex_walk_next_sPOS M_rex_walk_next_sPOS
  repeat' (first | with_reducible (first | exact Le.refl _ | apply le_C_rex_walk_sign_sPOS n hn | exact Le.none _ | refine Le.bind ?_ (fun _ => ?_) | refine Le.iteB ?_ ?_ | refine Le.need ?_) | refine Le.loop (fun _ => ?_) | split | dsimp only)
noncomputable def C_rex_walk_back_sPO (n : Nat) (p0 : S_rex_walk) : Option (Bool) :=
 (C_rex_walk_closes_sPO n (⟨p0.s_, IntKind.i64.wrap (p0.at_ + (1 : Int)), p0.extended_, p0.t_, p0.groups_, p0.depth_, p0.wrong_, p0.full_⟩ : S_rex_walk)).bind fun x1 => some x1
theorem le_C_rex_walk_back_sPO (n : Nat) (hn : n ≤ bigF) : ∀ (p0 : S_rex_walk), Le (C_rex_walk_back_sPO n p0) (M_rex_walk_back_sPO p0) := by
  intro p0
  unfold C_rex_walk_back_sPO M_rex_walk_back_sPO
  repeat' (first | with_reducible (first | exact Le.refl _ | apply le_C_rex_walk_closes_sPO n hn | exact Le.none _ | refine Le.bind ?_ (fun _ => ?_) | refine Le.iteB ?_ ?_ | refine Le.need ?_) | refine Le.loop (fun _ => ?_) | split | dsimp only)
noncomputable def C_rex_walk_fail_sPOI (n : Nat) (p0 : S_rex_walk) (p1 : Int) : Option (S_rex_walk) :=
 iteB (decide (p0.wrong_ < (0 : Int))) (some (⟨p0.s_, p0.at_, p0.extended_, p0.t_, p0.groups_, p0.depth_, p1, p0.full_⟩ : S_rex_walk)) (some p0)
theorem le_C_rex_walk_fail_sPOI (n : Nat) (hn : n ≤ bigF) : ∀ (p0 : S_rex_walk) (p1 : Int), Le (C_rex_walk_fail_sPOI n p0 p1) (M_rex_walk_fail_sPOI p0 p1) := by
  intro p0 p1
  unfold C_rex_walk_fail_sPOI M_rex_walk_fail_sPOI
  repeat' (first | with_reducible (first | exact Le.refl _ | exact Le.none _ | refine Le.bind ?_ (fun _ => ?_) | refine Le.iteB ?_ ?_ | refine Le.need ?_) | refine Le.loop (fun _ => ?_) | split | dsimp only)
noncomputable def C_tree_may (n : Nat) (p0 : S_tree_Node) (p1 : Int) : Option (Bool) :=
 (C_tree_bare n p0).bind fun (x1, x2) => (iteB (!x2) (some true) ((eqG cfg.P 45 [.int .i64 x1.Kind, .int .i64 x1.A, .int .i64 x1.B, .int .i64 x1.Min, .int .i64 x1.Max, .int .i64 x1.Group, .int .u64 x1.Set.w0, .int .u64 x1.Set.w1, .int .u64 x1.Set.w2, .int .u64 x1.Set.w3] [.int .i64 p0.Kind, .int .i64 p0.A, .int .i64 p0.B, .int .i64 p0.Min, .int .i64 p0.Max, .int .i64 p0.Group, .int .u64 p0.Set.w0, .int .u64 p0.Set.w1, .int .u64 p0.Set.w2, .int .u64 p0.Set.w3]).bind fun x4 => some (!x4)) : Option (Bool)).bind fun x3 => iteB x3 (some false) ((iteB (p0.Kind == (2 : Int)) (some true) (some (p0.Kind == (3 : Int))) : Option ((Bool))).bind fun x5 => iteB x5 ((C_tree_may_1_sIP n p0.A p1).bind fun x6 => (iteB x6 ((C_tree_may_1_sIP n p0.B p1).bind fun x8 => some x8) (some false) : Option (Bool)).bind fun x7 => some x7) (iteB (p0.Kind == (4 : Int)) ((C_tree_may_1_sIP n p0.A p1).bind fun x9 => some (((x9 && (decide (p0.Min ≥ (0 : Int)))) && (decide (p0.Min ≤ (255 : Int)))) && ((p0.Max == (-1 : Int)) || ((decide (p0.Max ≥ p0.Min)) && (decide (p0.Max ≤ (255 : Int))))))) (iteB (p0.Kind == (5 : Int)) ((C_tree_may_1_sIP n p0.A p1).bind fun x10 => some ((x10 && (decide (p0.Group ≥ (1 : Int)))) && (decide (p0.Group ≤ (1024 : Int))))) (some true))))
theorem le_C_tree_may (n : Nat) (hn : n ≤ bigF) : ∀ (p0 : S_tree_Node) (p1 : Int), Le (C_tree_may n p0 p1) (M_tree_may p0 p1) := by
  intro p0 p1
  unfold C_tree_may M_tree_may
  repeat' (first | with_reducible (first | exact Le.refl _ | apply le_C_tree_bare n hn | apply le_C_tree_may_1_sIP n hn | exact Le.none _ | refine Le.bind ?_ (fun _ => ?_) | refine Le.iteB ?_ ?_ | refine Le.need ?_) | refine Le.loop (fun _ => ?_) | split | dsimp only)
theorem may_one (st : A4_uint64) (i : Int) : M_tree_may ⟨1, 0, 0, 0, 0, 0, st⟩ i = some true := by
  have hb : M_tree_bare ⟨1, 0, 0, 0, 0, 0, st⟩ = some (⟨1, 0, 0, 0, 0, 0, st⟩, true) := rfl
  unfold M_tree_may
  rw [hb, Option.bind_some]
  simp only []
  rw [eqG_self (by kernel_rfl) (by kernel_rfl)]
  rfl
theorem may_cat {a b i : Int} (ha : 0 ≤ a ∧ a < i) (hb : 0 ≤ b ∧ b < i) : M_tree_may ⟨2, a, b, 0, 0, 0, ⟨0, 0, 0, 0⟩⟩ i = some true := by
  have hbr : M_tree_bare ⟨2, a, b, 0, 0, 0, ⟨0, 0, 0, 0⟩⟩ = some (⟨2, a, b, 0, 0, 0, ⟨0, 0, 0, 0⟩⟩, true) := rfl
  have m1 : M_tree_may_1_sIP a i = some true := by unfold M_tree_may_1_sIP; rw [decide_eq_true ha.1, decide_eq_true ha.2]; rfl
  have m2 : M_tree_may_1_sIP b i = some true := by unfold M_tree_may_1_sIP; rw [decide_eq_true hb.1, decide_eq_true hb.2]; rfl
  unfold M_tree_may
  rw [hbr, Option.bind_some]
  simp only []
  rw [eqG_self (by kernel_rfl) (by kernel_rfl), m1, m2]
  rfl
theorem may_group {a g i : Int} (ha : 0 ≤ a ∧ a < i) (hg : 1 ≤ g ∧ g ≤ 1024) : M_tree_may ⟨5, a, 0, 0, 0, g, ⟨0, 0, 0, 0⟩⟩ i = some true := by
  have hbr : M_tree_bare ⟨5, a, 0, 0, 0, g, ⟨0, 0, 0, 0⟩⟩ = some (⟨5, a, 0, 0, 0, g, ⟨0, 0, 0, 0⟩⟩, true) := rfl
  have m1 : M_tree_may_1_sIP a i = some true := by unfold M_tree_may_1_sIP; rw [decide_eq_true ha.1, decide_eq_true ha.2]; rfl
  unfold M_tree_may
  rw [hbr, Option.bind_some]
  simp only []
  rw [eqG_self (by kernel_rfl) (by kernel_rfl), m1]
  show some ((true && decide (g ≥ 1)) && decide (g ≤ 1024)) = some true
  rw [decide_eq_true hg.1, decide_eq_true hg.2]; rfl
noncomputable def C0_tree_may (n : Nat) (x : S_tree_Node) (i : Int) : Option Bool :=
  match x with
  | ⟨k, a, b, mi, ma, g, ⟨w0, w1, w2, w3⟩⟩ =>
    if k = 1 ∧ a = 0 ∧ b = 0 ∧ mi = 0 ∧ ma = 0 ∧ g = 0 then some true else
    if k = 2 ∧ mi = 0 ∧ ma = 0 ∧ g = 0 ∧ w0 = 0 ∧ w1 = 0 ∧ w2 = 0 ∧ w3 = 0 ∧ (0 ≤ a ∧ a < i) ∧ (0 ≤ b ∧ b < i) then some true else
    if k = 5 ∧ b = 0 ∧ mi = 0 ∧ ma = 0 ∧ w0 = 0 ∧ w1 = 0 ∧ w2 = 0 ∧ w3 = 0 ∧ (0 ≤ a ∧ a < i) ∧ (1 ≤ g ∧ g ≤ 1024) then some true else C_tree_may n ⟨k, a, b, mi, ma, g, ⟨w0, w1, w2, w3⟩⟩ i
theorem le_C0_tree_may (n : Nat) (hn : n ≤ bigF) : ∀ (x : S_tree_Node) (i : Int), Le (C0_tree_may n x i) (M_tree_may x i) := by
  rintro ⟨k, a, b, mi, ma, g, ⟨w0, w1, w2, w3⟩⟩ i r hr
  unfold C0_tree_may at hr
  simp only at hr
  split at hr
  · rename_i h; obtain ⟨rfl, rfl, rfl, rfl, rfl, rfl⟩ := h; rw [may_one]; exact hr
  split at hr
  · rename_i h; obtain ⟨rfl, rfl, rfl, rfl, rfl, rfl, rfl, rfl, ha, hb⟩ := h; rw [may_cat ha hb]; exact hr
  split at hr
  · rename_i h; obtain ⟨rfl, rfl, rfl, rfl, rfl, rfl, rfl, rfl, ha, hg⟩ := h; rw [may_group ha hg]; exact hr
  · exact le_C_tree_may n hn _ _ r hr
noncomputable def C_tree_Tree_Add_sQ3OR (n : Nat) (p0 : S_rex_walk) (p1 : S_tree_Node) : Option (Int × Int × S_rex_walk × (List S_tree_Node)) :=
 iteB (decide ((p0.t_.Nodes.length : Int) ≥ (1024 : Int))) (some ((0 : Int), (8 : Int), p0, p0.t_.Nodes)) ((C0_tree_may n p1 (p0.t_.Nodes.length : Int)).bind fun x1 => iteB (!x1) (some ((0 : Int), (1 : Int), p0, p0.t_.Nodes)) (need (okN 80 (p0.t_.Nodes.length + ([p1] : List S_tree_Node).length)) <| some (IntKind.i64.wrap (((p0.t_.Nodes ++ ([p1] : List S_tree_Node)).length : Int) - (1 : Int)), (0 : Int), (⟨p0.s_, p0.at_, p0.extended_, (⟨(p0.t_.Nodes ++ ([p1] : List S_tree_Node)), IntKind.i64.wrap (((p0.t_.Nodes ++ ([p1] : List S_tree_Node)).length : Int) - (1 : Int))⟩ : S_tree_Tree), p0.groups_, p0.depth_, p0.wrong_, p0.full_⟩ : S_rex_walk), (p0.t_.Nodes ++ ([p1] : List S_tree_Node)))))
theorem le_C_tree_Tree_Add_sQ3OR (n : Nat) (hn : n ≤ bigF) : ∀ (p0 : S_rex_walk) (p1 : S_tree_Node), Le (C_tree_Tree_Add_sQ3OR n p0 p1) (M_tree_Tree_Add_sQ3OR p0 p1) := by
  intro p0 p1
  unfold C_tree_Tree_Add_sQ3OR M_tree_Tree_Add_sQ3OR
  repeat' (first | with_reducible (first | exact Le.refl _ | apply le_C0_tree_may n hn | exact Le.none _ | refine Le.bind ?_ (fun _ => ?_) | refine Le.iteB ?_ ?_ | refine Le.need ?_) | refine Le.loop (fun _ => ?_) | split | dsimp only)
noncomputable def C_rex_walk_add_sPOR (n : Nat) (p0 : S_rex_walk) (p1 : S_tree_Node) : Option (Int × S_rex_walk × (List S_tree_Node)) :=
 iteB p0.full_ (some ((0 : Int), p0, p0.t_.Nodes)) ((C_tree_Tree_Add_sQ3OR n p0 p1).bind fun (x1, x2, x3, x4) => (iteB (x2 != (0 : Int)) (some true) (some x3.full_) : Option ((Bool))).bind fun x5 => some (x1, (⟨x3.s_, x3.at_, x3.extended_, (⟨x4, x3.t_.Root⟩ : S_tree_Tree), x3.groups_, x3.depth_, x3.wrong_, x5⟩ : S_rex_walk), x4))
theorem le_C_rex_walk_add_sPOR (n : Nat) (hn : n ≤ bigF) : ∀ (p0 : S_rex_walk) (p1 : S_tree_Node), Le (C_rex_walk_add_sPOR n p0 p1) (M_rex_walk_add_sPOR p0 p1) := by
  intro p0 p1
  unfold C_rex_walk_add_sPOR M_rex_walk_add_sPOR
  repeat' (first | with_reducible (first | exact Le.refl _ | apply le_C_tree_Tree_Add_sQ3OR n hn | exact Le.none _ | refine Le.bind ?_ (fun _ => ?_) | refine Le.iteB ?_ ?_ | refine Le.need ?_) | refine Le.loop (fun _ => ?_) | split | dsimp only)
noncomputable def C_rex_walk_one_sPOI (n : Nat) (p0 : S_rex_walk) (p1 : Int) : Option (Int × S_rex_walk × (List S_tree_Node)) :=
 (C_class_Range n p1 p1).bind fun x1 => (C_rex_walk_add_sPOR n p0 (⟨(1 : Int), (0 : Int), (0 : Int), (0 : Int), (0 : Int), (0 : Int), x1⟩ : S_tree_Node)).bind fun (x2, x3, x4) => some (x2, (⟨x3.s_, x3.at_, x3.extended_, (⟨x4, x3.t_.Root⟩ : S_tree_Tree), x3.groups_, x3.depth_, x3.wrong_, x3.full_⟩ : S_rex_walk), x4)
theorem le_C_rex_walk_one_sPOI (n : Nat) (hn : n ≤ bigF) : ∀ (p0 : S_rex_walk) (p1 : Int), Le (C_rex_walk_one_sPOI n p0 p1) (M_rex_walk_one_sPOI p0 p1) := by
  intro p0 p1
  unfold C_rex_walk_one_sPOI M_rex_walk_one_sPOI
  repeat' (first | with_reducible (first | exact Le.refl _ | apply le_C_class_Range n hn | apply le_C_rex_walk_add_sPOR n hn | exact Le.none _ | refine Le.bind ?_ (fun _ => ?_) | refine Le.iteB ?_ ?_ | refine Le.need ?_) | refine Le.loop (fun _ => ?_) | split | dsimp only)
noncomputable def C_rex_walk_repeats_sPOI_L0 (n : Nat) (s : (List UInt8) × Int × Bool × Int × Int × Int × Int × Bool × (List S_tree_Node) × Int) : Option (((List UInt8) × Int × Bool × Int × Int × Int × Int × Bool × (List S_tree_Node) × Int) ⊕ (((List UInt8) × Int × Bool × Int × Int × Int × Int × Bool × (List S_tree_Node) × Int) ⊕ ((List UInt8) × Int × Bool × Int × Int × Int × Int × Bool × (List S_tree_Node) × Int))) :=
 match s with
 | (x1, x2, x3, x4, x5, x6, x7, x8, x9, x10) => (C_rex_walk_ok_sPO n (⟨x1, x2, x3, (⟨x9, x4⟩ : S_tree_Tree), x5, x6, x7, x8⟩ : S_rex_walk)).bind fun x31 => iteB x31 (((subS x1 (some x2) none).bind fun x51 => (C_strings_HasPrefix n x51 ([42] : List UInt8)).bind fun x52 => iteB x52 (some (.inl (x1, IntKind.i64.wrap (x2 + (1 : Int)), x3, x4, x5, x6, x7, x8, (0 : Int), (-1 : Int)))) ((C_rex_walk_next_sPOS n (⟨x1, x2, x3, (⟨x9, x4⟩ : S_tree_Tree), x5, x6, x7, x8⟩ : S_rex_walk) ([43] : List UInt8)).bind fun (x53, x54) => iteB x53 (some (.inl (x54.s_, x54.at_, x54.extended_, x54.t_.Root, x54.groups_, x54.depth_, x54.wrong_, x54.full_, (1 : Int), (-1 : Int)))) ((C_rex_walk_next_sPOS n (⟨x54.s_, x54.at_, x54.extended_, (⟨x9, x54.t_.Root⟩ : S_tree_Tree), x54.groups_, x54.depth_, x54.wrong_, x54.full_⟩ : S_rex_walk) ([63] : List UInt8)).bind fun (x55, x56) => iteB x55 (some (.inl (x56.s_, x56.at_, x56.extended_, x56.t_.Root, x56.groups_, x56.depth_, x56.wrong_, x56.full_, (0 : Int), (1 : Int)))) ((C_rex_walk_next_sPOS n (⟨x56.s_, x56.at_, x56.extended_, (⟨x9, x56.t_.Root⟩ : S_tree_Tree), x56.groups_, x56.depth_, x56.wrong_, x56.full_⟩ : S_rex_walk) ([123] : List UInt8)).bind fun (x57, x58) => iteB x57 (none) (some (.inr (x58.s_, x58.at_, x58.extended_, x58.t_.Root, x58.groups_, x58.depth_, x58.wrong_, x58.full_, x10)))))) : Option (((List UInt8) × Int × Bool × Int × Int × Int × Int × Bool × Int × Int) ⊕ ((List UInt8) × Int × Bool × Int × Int × Int × Int × Bool × Int))).bind fun o2 => (match o2 with | .inl (x32, x33, x34, x35, x36, x37, x38, x39, x40, x41) => (C_rex_walk_add_sPOR n (⟨x32, x33, x34, (⟨x9, x35⟩ : S_tree_Tree), x36, x37, x38, x39⟩ : S_rex_walk) (⟨(4 : Int), x10, (0 : Int), x40, x41, (0 : Int), (⟨(0 : Int), (0 : Int), (0 : Int), (0 : Int)⟩ : A4_uint64)⟩ : S_tree_Node)).bind fun (x59, x60, x61) => some (.inl (x60.s_, x60.at_, x60.extended_, x60.t_.Root, x60.groups_, x60.depth_, x60.wrong_, x60.full_, x61, x59)) | .inr (x42, x43, x44, x45, x46, x47, x48, x49, x50) => some (.inr (.inr (x42, x43, x44, x45, x46, x47, x48, x49, x9, x50))))) (some (.inr (.inl (x1, x2, x3, x4, x5, x6, x7, x8, x9, x10))))
theorem le_C_rex_walk_repeats_sPOI_L0 (n : Nat) (hn : n ≤ bigF) : ∀ (s : (List UInt8) × Int × Bool × Int × Int × Int × Int × Bool × (List S_tree_Node) × Int), Le (C_rex_walk_repeats_sPOI_L0 n s) (M_rex_walk_repeats_sPOI_L0 s) := by
  intro s
  unfold C_rex_walk_repeats_sPOI_L0 M_rex_walk_repeats_sPOI_L0
  repeat' (first | with_reducible (first | exact Le.refl _ | apply le_C_rex_walk_ok_sPO n hn | apply le_C_strings_HasPrefix n hn | apply le_C_rex_walk_next_sPOS n hn | apply le_C_rex_walk_add_sPOR n hn | exact Le.none _ | refine Le.bind ?_ (fun _ => ?_) | refine Le.iteB ?_ ?_ | refine Le.need ?_) | refine Le.loop (fun _ => ?_) | split | dsimp only)
noncomputable def C_rex_walk_repeats_sPOI (n : Nat) (p0 : S_rex_walk) (p1 : Int) : Option (Int × S_rex_walk × (List S_tree_Node)) :=
 (lpN n (C_rex_walk_repeats_sPOI_L0 n) (p0.s_, p0.at_, p0.extended_, p0.t_.Root, p0.groups_, p0.depth_, p0.wrong_, p0.full_, p0.t_.Nodes, p1)).bind fun o1 => (match o1 with | .inl (x11, x12, x13, x14, x15, x16, x17, x18, x19, x20) => some (x20, (⟨x11, x12, x13, (⟨x19, x14⟩ : S_tree_Tree), x15, x16, x17, x18⟩ : S_rex_walk), x19) | .inr (x21, x22, x23, x24, x25, x26, x27, x28, x29, x30) => some (x30, (⟨x21, x22, x23, (⟨x29, x24⟩ : S_tree_Tree), x25, x26, x27, x28⟩ : S_rex_walk), x29))
theorem le_C_rex_walk_repeats_sPOI (n : Nat) (hn : n ≤ bigF) : ∀ (p0 : S_rex_walk) (p1 : Int), Le (C_rex_walk_repeats_sPOI n p0 p1) (M_rex_walk_repeats_sPOI p0 p1) := by
  intro p0 p1
  unfold C_rex_walk_repeats_sPOI M_rex_walk_repeats_sPOI
  repeat' (first | with_reducible (first | exact Le.refl _ | apply le_C_rex_walk_repeats_sPOI_L0 n hn | exact Le.none _ | refine Le.bind ?_ (fun _ => ?_) | refine Le.iteB ?_ ?_ | refine Le.need ?_) | refine Le.loop (fun _ => ?_) | split | dsimp only)
noncomputable def C_rex_walk_nest_sPOIO_L0 (n : Nat) (p1 : Int) (p2 : List Int) (s : (List UInt8) × Int × Bool × Int × Int × Int × Int × Bool × (List S_tree_Node) × Int × Int) : Option (((List UInt8) × Int × Bool × Int × Int × Int × Int × Bool × (List S_tree_Node) × Int × Int) ⊕ (((List UInt8) × Int × Bool × Int × Int × Int × Int × Bool × (List S_tree_Node) × Int))) :=
 match s with
 | (x5, x6, x7, x8, x9, x10, x11, x12, x13, x14, x15) => iteB (decide (x15 ≥ (0 : Int))) ((ixV p2 x15).bind fun x26 => (C_rex_walk_add_sPOR n (⟨x5, x6, x7, (⟨x13, x8⟩ : S_tree_Tree), x9, x10, x11, x12⟩ : S_rex_walk) (⟨p1, x26, x14, (0 : Int), (0 : Int), (0 : Int), (⟨(0 : Int), (0 : Int), (0 : Int), (0 : Int)⟩ : A4_uint64)⟩ : S_tree_Node)).bind fun (x27, x28, x29) => some (.inl (x28.s_, x28.at_, x28.extended_, x28.t_.Root, x28.groups_, x28.depth_, x28.wrong_, x28.full_, x29, x27, IntKind.i64.wrap (x15 - (1 : Int))))) (some (.inr (x5, x6, x7, x8, x9, x10, x11, x12, x13, x14)))
theorem le_C_rex_walk_nest_sPOIO_L0 (n : Nat) (hn : n ≤ bigF) : ∀ (p1 : Int) (p2 : List Int) (s : (List UInt8) × Int × Bool × Int × Int × Int × Int × Bool × (List S_tree_Node) × Int × Int), Le (C_rex_walk_nest_sPOIO_L0 n p1 p2 s) (M_rex_walk_nest_sPOIO_L0 p1 p2 s) := by
  intro p1 p2 s
  unfold C_rex_walk_nest_sPOIO_L0 M_rex_walk_nest_sPOIO_L0
  repeat' (first | with_reducible (first | exact Le.refl _ | apply le_C_rex_walk_add_sPOR n hn | exact Le.none _ | refine Le.bind ?_ (fun _ => ?_) | refine Le.iteB ?_ ?_ | refine Le.need ?_) | refine Le.loop (fun _ => ?_) | split | dsimp only)
noncomputable def C_rex_walk_nest_sPOIO (n : Nat) (p0 : S_rex_walk) (p1 : Int) (p2 : List Int) : Option (Int × S_rex_walk × (List S_tree_Node)) :=
 iteB ((p2.length : Int) == (0 : Int)) ((C_rex_walk_add_sPOR n p0 (⟨(0 : Int), (0 : Int), (0 : Int), (0 : Int), (0 : Int), (0 : Int), (⟨(0 : Int), (0 : Int), (0 : Int), (0 : Int)⟩ : A4_uint64)⟩ : S_tree_Node)).bind fun (x1, x2, x3) => some (x1, (⟨x2.s_, x2.at_, x2.extended_, (⟨x3, x2.t_.Root⟩ : S_tree_Tree), x2.groups_, x2.depth_, x2.wrong_, x2.full_⟩ : S_rex_walk), x3)) ((ixV p2 (IntKind.i64.wrap ((p2.length : Int) - (1 : Int)))).bind fun x4 => (lpN n (C_rex_walk_nest_sPOIO_L0 n p1 p2) (p0.s_, p0.at_, p0.extended_, p0.t_.Root, p0.groups_, p0.depth_, p0.wrong_, p0.full_, p0.t_.Nodes, x4, IntKind.i64.wrap ((p2.length : Int) - (2 : Int)))).bind fun (x16, x17, x18, x19, x20, x21, x22, x23, x24, x25) => some (x25, (⟨x16, x17, x18, (⟨x24, x19⟩ : S_tree_Tree), x20, x21, x22, x23⟩ : S_rex_walk), x24))
theorem le_C_rex_walk_nest_sPOIO (n : Nat) (hn : n ≤ bigF) : ∀ (p0 : S_rex_walk) (p1 : Int) (p2 : List Int), Le (C_rex_walk_nest_sPOIO n p0 p1 p2) (M_rex_walk_nest_sPOIO p0 p1 p2) := by
  intro p0 p1 p2
  unfold C_rex_walk_nest_sPOIO M_rex_walk_nest_sPOIO
  repeat' (first | with_reducible (first | exact Le.refl _ | apply le_C_rex_walk_add_sPOR n hn | apply le_C_rex_walk_nest_sPOIO_L0 n hn | exact Le.none _ | refine Le.bind ?_ (fun _ => ?_) | refine Le.iteB ?_ ?_ | refine Le.need ?_) | refine Le.loop (fun _ => ?_) | split | dsimp only)
noncomputable def C_tree_Tree_Right_L0 (n : Nat) (p0 : S_tree_Tree) (s : Int) : Option ((Int) ⊕ ((Unit) ⊕ (Bool))) :=
 match s with
 | x1 => iteB (decide (x1 < (p0.Nodes.length : Int))) ((ixV p0.Nodes x1).bind fun x3 => (C0_tree_may n x3 x1).bind fun x4 => iteB (!x4) (some (.inr (.inr false))) (some (.inl (IntKind.i64.wrap (x1 + (1 : Int)))))) (some (.inr (.inl ())))
theorem le_C_tree_Tree_Right_L0 (n : Nat) (hn : n ≤ bigF) : ∀ (p0 : S_tree_Tree) (s : Int), Le (C_tree_Tree_Right_L0 n p0 s) (M_tree_Tree_Right_L0 p0 s) := by
  intro p0 s
  unfold C_tree_Tree_Right_L0 M_tree_Tree_Right_L0
  repeat' (first | with_reducible (first | exact Le.refl _ | apply le_C0_tree_may n hn | exact Le.none _ | refine Le.bind ?_ (fun _ => ?_) | refine Le.iteB ?_ ?_ | refine Le.need ?_) | refine Le.loop (fun _ => ?_) | split | dsimp only)
noncomputable def C_tree_Tree_Right (n : Nat) (p0 : S_tree_Tree) : Option (Bool) :=
 iteB (((decide ((p0.Nodes.length : Int) > (1024 : Int))) || (decide (p0.Root < (0 : Int)))) || (decide (p0.Root ≥ (p0.Nodes.length : Int)))) (some false) ((lpN n (C_tree_Tree_Right_L0 n p0) (0 : Int)).bind fun o1 => (match o1 with | .inl _ => some true | .inr x2 => some x2))
theorem le_C_tree_Tree_Right (n : Nat) (hn : n ≤ bigF) : ∀ (p0 : S_tree_Tree), Le (C_tree_Tree_Right n p0) (M_tree_Tree_Right p0) := by
  intro p0
  unfold C_tree_Tree_Right M_tree_Tree_Right
  repeat' (first | with_reducible (first | exact Le.refl _ | apply le_C_tree_Tree_Right_L0 n hn | exact Le.none _ | refine Le.bind ?_ (fun _ => ?_) | refine Le.iteB ?_ ?_ | refine Le.need ?_) | refine Le.loop (fun _ => ?_) | split | dsimp only)
noncomputable def C_tree_Tree_used_L0 (n : Nat) (p0 : S_tree_Tree) (s : (List Bool) × Int) : Option (((List Bool) × Int) ⊕ (((List Bool)))) :=
 match s with
 | (x2, x3) => iteB (decide (x3 ≥ (0 : Int))) (((ixV x2 x3).bind fun x6 => iteB (!x6) (some x2) ((ixV p0.Nodes x3).bind fun x7 => (iteB (x7.Kind == (2 : Int)) (some true) (some (x7.Kind == (3 : Int))) : Option ((Bool))).bind fun x8 => iteB x8 ((ixV x2 x7.A).bind fun x9 => (ixV (x2.set x7.A.toNat true) x7.B).bind fun x10 => some ((x2.set x7.A.toNat true).set x7.B.toNat true)) ((iteB (x7.Kind == (4 : Int)) (some true) (some (x7.Kind == (5 : Int))) : Option ((Bool))).bind fun x11 => iteB x11 ((ixV x2 x7.A).bind fun x12 => some (x2.set x7.A.toNat true)) (some x2))) : Option (((List Bool)))).bind fun x5 => some (.inl (x5, IntKind.i64.wrap (x3 - (1 : Int))))) (some (.inr x2))
theorem le_C_tree_Tree_used_L0 (n : Nat) (hn : n ≤ bigF) : ∀ (p0 : S_tree_Tree) (s : (List Bool) × Int), Le (C_tree_Tree_used_L0 n p0 s) (M_tree_Tree_used_L0 p0 s) := by
  intro p0 s
  unfold C_tree_Tree_used_L0 M_tree_Tree_used_L0
  repeat' (first | with_reducible (first | exact Le.refl _ | exact Le.none _ | refine Le.bind ?_ (fun _ => ?_) | refine Le.iteB ?_ ?_ | refine Le.need ?_) | refine Le.loop (fun _ => ?_) | split | dsimp only)
noncomputable def C_tree_Tree_used (n : Nat) (p0 : S_tree_Tree) : Option ((List Bool)) :=
 need (mkN 1 (p0.Nodes.length : Int)) <| (ixV (List.replicate (p0.Nodes.length : Int).toNat false) p0.Root).bind fun x1 => (lpN n (C_tree_Tree_used_L0 n p0) (((List.replicate (p0.Nodes.length : Int).toNat false).set p0.Root.toNat true), p0.Root)).bind fun x4 => some x4
theorem le_C_tree_Tree_used (n : Nat) (hn : n ≤ bigF) : ∀ (p0 : S_tree_Tree), Le (C_tree_Tree_used n p0) (M_tree_Tree_used p0) := by
  intro p0
  unfold C_tree_Tree_used M_tree_Tree_used
  repeat' (first | with_reducible (first | exact Le.refl _ | apply le_C_tree_Tree_used_L0 n hn | exact Le.none _ | refine Le.bind ?_ (fun _ => ?_) | refine Le.iteB ?_ ?_ | refine Le.need ?_) | refine Le.loop (fun _ => ?_) | split | dsimp only)
noncomputable def C_tree_Tree_Groups_L0 (n : Nat) (p0 : S_tree_Tree) (x2 : List Bool) (s : Int × Int) : Option ((Int × Int) ⊕ ((Int))) :=
 match s with
 | (x3, x4) => iteB (decide (x4 < (x2.length : Int))) (((ixV x2 x4).bind fun x7 => iteB x7 ((ixV p0.Nodes x4).bind fun x8 => some (mx x3 x8.Group)) (some x3) : Option ((Int))).bind fun x6 => some (.inl (x6, IntKind.i64.wrap (x4 + (1 : Int))))) (some (.inr x3))
theorem le_C_tree_Tree_Groups_L0 (n : Nat) (hn : n ≤ bigF) : ∀ (p0 : S_tree_Tree) (x2 : List Bool) (s : Int × Int), Le (C_tree_Tree_Groups_L0 n p0 x2 s) (M_tree_Tree_Groups_L0 p0 x2 s) := by
  intro p0 x2 s
  unfold C_tree_Tree_Groups_L0 M_tree_Tree_Groups_L0
  repeat' (first | with_reducible (first | exact Le.refl _ | exact Le.none _ | refine Le.bind ?_ (fun _ => ?_) | refine Le.iteB ?_ ?_ | refine Le.need ?_) | refine Le.loop (fun _ => ?_) | split | dsimp only)
noncomputable def C_tree_Tree_Groups (n : Nat) (p0 : S_tree_Tree) : Option (Int) :=
 (C_tree_Tree_Right n p0).bind fun x1 => iteB (!x1) (some (0 : Int)) ((C_tree_Tree_used n p0).bind fun x2 => (lpN n (C_tree_Tree_Groups_L0 n p0 x2) ((0 : Int), (0 : Int))).bind fun x5 => some x5)
theorem le_C_tree_Tree_Groups (n : Nat) (hn : n ≤ bigF) : ∀ (p0 : S_tree_Tree), Le (C_tree_Tree_Groups n p0) (M_tree_Tree_Groups p0) := by
  intro p0
  unfold C_tree_Tree_Groups M_tree_Tree_Groups
  repeat' (first | with_reducible (first | exact Le.refl _ | apply le_C_tree_Tree_Right n hn | apply le_C_tree_Tree_used n hn | apply le_C_tree_Tree_Groups_L0 n hn | exact Le.none _ | refine Le.bind ?_ (fun _ => ?_) | refine Le.iteB ?_ ?_ | refine Le.need ?_) | refine Le.loop (fun _ => ?_) | split | dsimp only)
structure LeSC_rex_walk_group_sPO (S T : SC_rex_walk_group_sPO) : Prop where
  lM_rex_walk_group_sPO : ∀ a0, Le (S.M_rex_walk_group_sPO a0) (T.M_rex_walk_group_sPO a0)
  lM_rex_walk_expression_sPO : ∀ a0, Le (S.M_rex_walk_expression_sPO a0) (T.M_rex_walk_expression_sPO a0)
  lM_rex_walk_branch_sPO : ∀ a0, Le (S.M_rex_walk_branch_sPO a0) (T.M_rex_walk_branch_sPO a0)
  lM_rex_walk_atom_sPO : ∀ a0, Le (S.M_rex_walk_atom_sPO a0) (T.M_rex_walk_atom_sPO a0)
noncomputable def CB_rex_walk_group_sPO (n : Nat) (S : SC_rex_walk_group_sPO) (p0 : S_rex_walk) : Option (Int × S_rex_walk × (List S_tree_Node)) :=
 (iteB (decide ((IntKind.i64.wrap (p0.groups_ + (1 : Int))) > (1024 : Int))) (some true) (some p0.full_) : Option ((Bool))).bind fun x1 => (S.M_rex_walk_expression_sPO (⟨p0.s_, p0.at_, p0.extended_, p0.t_, IntKind.i64.wrap (p0.groups_ + (1 : Int)), IntKind.i64.wrap (p0.depth_ + (1 : Int)), p0.wrong_, x1⟩ : S_rex_walk)).bind fun (x2, x3, x4) => ((C_rex_walk_ok_sPO n (⟨x3.s_, x3.at_, x3.extended_, (⟨x4, x3.t_.Root⟩ : S_tree_Tree), x3.groups_, IntKind.i64.wrap (x3.depth_ - (1 : Int)), x3.wrong_, x3.full_⟩ : S_rex_walk)).bind fun x13 => (iteB x13 ((C_rex_walk_next_sPOS n (⟨x3.s_, x3.at_, x3.extended_, (⟨x4, x3.t_.Root⟩ : S_tree_Tree), x3.groups_, IntKind.i64.wrap (x3.depth_ - (1 : Int)), x3.wrong_, x3.full_⟩ : S_rex_walk) ([41] : List UInt8)).bind fun (x23, x24) => some (x24.s_, x24.at_, x24.extended_, x24.t_.Root, x24.groups_, x24.depth_, x24.wrong_, x24.full_, !x23)) (some (x3.s_, x3.at_, x3.extended_, x3.t_.Root, x3.groups_, IntKind.i64.wrap (x3.depth_ - (1 : Int)), x3.wrong_, x3.full_, false)) : Option ((List UInt8) × Int × Bool × Int × Int × Int × Int × Bool × Bool)).bind fun (x14, x15, x16, x17, x18, x19, x20, x21, x22) => iteB x22 ((C_rex_walk_fail_sPOI n (⟨x14, x15, x16, (⟨x4, x17⟩ : S_tree_Tree), x18, x19, x20, x21⟩ : S_rex_walk) (x14.length : Int)).bind fun x25 => some (x25.s_, x25.at_, x25.extended_, x25.t_.Root, x25.groups_, x25.depth_, x25.wrong_, x25.full_)) (some (x14, x15, x16, x17, x18, x19, x20, x21)) : Option (((List UInt8) × Int × Bool × Int × Int × Int × Int × Bool))).bind fun (x5, x6, x7, x8, x9, x10, x11, x12) => (C_rex_walk_add_sPOR n (⟨x5, x6, x7, (⟨x4, x8⟩ : S_tree_Tree), x9, x10, x11, x12⟩ : S_rex_walk) (⟨(5 : Int), x2, (0 : Int), (0 : Int), (0 : Int), mn (IntKind.i64.wrap (p0.groups_ + (1 : Int))) (1024 : Int), (⟨(0 : Int), (0 : Int), (0 : Int), (0 : Int)⟩ : A4_uint64)⟩ : S_tree_Node)).bind fun (x26, x27, x28) => some (x26, (⟨x27.s_, x27.at_, x27.extended_, (⟨x28, x27.t_.Root⟩ : S_tree_Tree), x27.groups_, x27.depth_, x27.wrong_, x27.full_⟩ : S_rex_walk), x28)
theorem le_CB_rex_walk_group_sPO (n : Nat) (hn : n ≤ bigF) {S T : SC_rex_walk_group_sPO} (h : LeSC_rex_walk_group_sPO S T) : ∀ (p0 : S_rex_walk), Le (CB_rex_walk_group_sPO n S p0) (B_rex_walk_group_sPO T p0) := by
  intro p0
  unfold CB_rex_walk_group_sPO B_rex_walk_group_sPO
  repeat' (first | with_reducible (first | exact Le.refl _ | apply le_C_rex_walk_ok_sPO n hn | apply le_C_rex_walk_next_sPOS n hn | apply le_C_rex_walk_fail_sPOI n hn | apply le_C_rex_walk_add_sPOR n hn | apply h.lM_rex_walk_expression_sPO | exact Le.none _ | refine Le.bind ?_ (fun _ => ?_) | refine Le.iteB ?_ ?_ | refine Le.need ?_) | refine Le.loop (fun _ => ?_) | split | dsimp only)
noncomputable def C_rex_walk_expression_sPO_L0 (n : Nat) (S : SC_rex_walk_group_sPO) (s : (List Int) × (List UInt8) × Int × Bool × Int × Int × Int × Int × Bool × (List S_tree_Node)) : Option (((List Int) × (List UInt8) × Int × Bool × Int × Int × Int × Int × Bool × (List S_tree_Node)) ⊕ (((List Int) × (List UInt8) × Int × Bool × Int × Int × Int × Int × Bool × (List S_tree_Node)))) :=
 match s with
 | (x1, x2, x3, x4, x5, x6, x7, x8, x9, x10) => (S.M_rex_walk_branch_sPO (⟨x2, x3, x4, (⟨x10, x5⟩ : S_tree_Tree), x6, x7, x8, x9⟩ : S_rex_walk)).bind fun (x21, x22, x23) => need (okN 8 (x1.length + ([x21] : List Int).length)) <| (C_rex_walk_ok_sPO n (⟨x22.s_, x22.at_, x22.extended_, (⟨x23, x22.t_.Root⟩ : S_tree_Tree), x22.groups_, x22.depth_, x22.wrong_, x22.full_⟩ : S_rex_walk)).bind fun x24 => (iteB (!x24) (some (x22.s_, x22.at_, x22.extended_, x22.t_.Root, x22.groups_, x22.depth_, x22.wrong_, x22.full_, true)) ((C_rex_walk_next_sPOS n (⟨x22.s_, x22.at_, x22.extended_, (⟨x23, x22.t_.Root⟩ : S_tree_Tree), x22.groups_, x22.depth_, x22.wrong_, x22.full_⟩ : S_rex_walk) ([124] : List UInt8)).bind fun (x34, x35) => some (x35.s_, x35.at_, x35.extended_, x35.t_.Root, x35.groups_, x35.depth_, x35.wrong_, x35.full_, !x34)) : Option ((List UInt8) × Int × Bool × Int × Int × Int × Int × Bool × Bool)).bind fun (x25, x26, x27, x28, x29, x30, x31, x32, x33) => iteB x33 (some (.inr ((x1 ++ ([x21] : List Int)), x25, x26, x27, x28, x29, x30, x31, x32, x23))) (some (.inl ((x1 ++ ([x21] : List Int)), x25, x26, x27, x28, x29, x30, x31, x32, x23)))
theorem le_C_rex_walk_expression_sPO_L0 (n : Nat) (hn : n ≤ bigF) {S T : SC_rex_walk_group_sPO} (h : LeSC_rex_walk_group_sPO S T) : ∀ (s : (List Int) × (List UInt8) × Int × Bool × Int × Int × Int × Int × Bool × (List S_tree_Node)), Le (C_rex_walk_expression_sPO_L0 n S s) (M_rex_walk_expression_sPO_L0 T s) := by
  intro s
  unfold C_rex_walk_expression_sPO_L0 M_rex_walk_expression_sPO_L0
  repeat' (first | with_reducible (first | exact Le.refl _ | apply le_C_rex_walk_ok_sPO n hn | apply le_C_rex_walk_next_sPOS n hn | apply h.lM_rex_walk_branch_sPO | exact Le.none _ | refine Le.bind ?_ (fun _ => ?_) | refine Le.iteB ?_ ?_ | refine Le.need ?_) | refine Le.loop (fun _ => ?_) | split | dsimp only)
noncomputable def CB_rex_walk_expression_sPO (n : Nat) (S : SC_rex_walk_group_sPO) (p0 : S_rex_walk) : Option (Int × S_rex_walk × (List S_tree_Node)) :=
 (lpN n (C_rex_walk_expression_sPO_L0 n S) (([] : List Int), p0.s_, p0.at_, p0.extended_, p0.t_.Root, p0.groups_, p0.depth_, p0.wrong_, p0.full_, p0.t_.Nodes)).bind fun (x11, x12, x13, x14, x15, x16, x17, x18, x19, x20) => (C_rex_walk_nest_sPOIO n (⟨x12, x13, x14, (⟨x20, x15⟩ : S_tree_Tree), x16, x17, x18, x19⟩ : S_rex_walk) (3 : Int) x11).bind fun (x36, x37, x38) => some (x36, (⟨x37.s_, x37.at_, x37.extended_, (⟨x38, x37.t_.Root⟩ : S_tree_Tree), x37.groups_, x37.depth_, x37.wrong_, x37.full_⟩ : S_rex_walk), x38)
theorem le_CB_rex_walk_expression_sPO (n : Nat) (hn : n ≤ bigF) {S T : SC_rex_walk_group_sPO} (h : LeSC_rex_walk_group_sPO S T) : ∀ (p0 : S_rex_walk), Le (CB_rex_walk_expression_sPO n S p0) (B_rex_walk_expression_sPO T p0) := by
  intro p0
  unfold CB_rex_walk_expression_sPO B_rex_walk_expression_sPO
  repeat' (first | with_reducible (first | exact Le.refl _ | apply le_C_rex_walk_expression_sPO_L0 n hn h | apply le_C_rex_walk_nest_sPOIO n hn | exact Le.none _ | refine Le.bind ?_ (fun _ => ?_) | refine Le.iteB ?_ ?_ | refine Le.need ?_) | refine Le.loop (fun _ => ?_) | split | dsimp only)
noncomputable def C_rex_walk_branch_sPO_L0 (n : Nat) (S : SC_rex_walk_group_sPO) (s : (List Int) × (List UInt8) × Int × Bool × Int × Int × Int × Int × Bool × (List S_tree_Node) × Bool) : Option (((List Int) × (List UInt8) × Int × Bool × Int × Int × Int × Int × Bool × (List S_tree_Node) × Bool) ⊕ (((List Int) × (List UInt8) × Int × Bool × Int × Int × Int × Int × Bool × (List S_tree_Node)))) :=
 match s with
 | (x1, x2, x3, x4, x5, x6, x7, x8, x9, x10, x11) => (C_rex_walk_ok_sPO n (⟨x2, x3, x4, (⟨x10, x5⟩ : S_tree_Tree), x6, x7, x8, x9⟩ : S_rex_walk)).bind fun x22 => (iteB x22 ((C_rex_walk_closes_sPO n (⟨x2, x3, x4, (⟨x10, x5⟩ : S_tree_Tree), x6, x7, x8, x9⟩ : S_rex_walk)).bind fun x24 => some (!x24)) (some false) : Option (Bool)).bind fun x23 => iteB x23 ((iteB (!x4) ((ixS x2 x3).bind fun x26 => some (x26 == (42 : Int))) (some false) : Option (Bool)).bind fun x25 => iteB (x25 && (((x1.length : Int) == (0 : Int)) || x11)) ((C_rex_walk_one_sPOI n (⟨x2, IntKind.i64.wrap (x3 + (1 : Int)), x4, (⟨x10, x5⟩ : S_tree_Tree), x6, x7, x8, x9⟩ : S_rex_walk) (42 : Int)).bind fun (x27, x28, x29) => (C_rex_walk_repeats_sPOI n (⟨x28.s_, x28.at_, x28.extended_, (⟨x29, x28.t_.Root⟩ : S_tree_Tree), x28.groups_, x28.depth_, x28.wrong_, x28.full_⟩ : S_rex_walk) x27).bind fun (x30, x31, x32) => need (okN 8 (x1.length + ([x30] : List Int).length)) <| some (.inl ((x1 ++ ([x30] : List Int)), x31.s_, x31.at_, x31.extended_, x31.t_.Root, x31.groups_, x31.depth_, x31.wrong_, x31.full_, x32, false))) ((iteB (!x4) ((ixS x2 x3).bind fun x34 => some (x34 == (94 : Int))) (some false) : Option (Bool)).bind fun x33 => iteB (x33 && ((x1.length : Int) == (0 : Int))) ((C_rex_walk_add_sPOR n (⟨x2, IntKind.i64.wrap (x3 + (1 : Int)), x4, (⟨x10, x5⟩ : S_tree_Tree), x6, x7, x8, x9⟩ : S_rex_walk) (⟨(6 : Int), (0 : Int), (0 : Int), (0 : Int), (0 : Int), (0 : Int), (⟨(0 : Int), (0 : Int), (0 : Int), (0 : Int)⟩ : A4_uint64)⟩ : S_tree_Node)).bind fun (x35, x36, x37) => need (okN 8 (x1.length + ([x35] : List Int).length)) <| some (.inl ((x1 ++ ([x35] : List Int)), x36.s_, x36.at_, x36.extended_, x36.t_.Root, x36.groups_, x36.depth_, x36.wrong_, x36.full_, x37, true))) ((S.M_rex_walk_atom_sPO (⟨x2, x3, x4, (⟨x10, x5⟩ : S_tree_Tree), x6, x7, x8, x9⟩ : S_rex_walk)).bind fun (x38, x39, x40) => (C_rex_walk_ok_sPO n (⟨x39.s_, x39.at_, x39.extended_, (⟨x40, x39.t_.Root⟩ : S_tree_Tree), x39.groups_, x39.depth_, x39.wrong_, x39.full_⟩ : S_rex_walk)).bind fun x41 => iteB (!x41) (some (.inr (x1, x39.s_, x39.at_, x39.extended_, x39.t_.Root, x39.groups_, x39.depth_, x39.wrong_, x39.full_, x40))) (iteB (x39.at_ == x3) ((C_rex_walk_fail_sPOI n (⟨x39.s_, x39.at_, x39.extended_, (⟨x40, x39.t_.Root⟩ : S_tree_Tree), x39.groups_, x39.depth_, x39.wrong_, x39.full_⟩ : S_rex_walk) x3).bind fun x42 => some (.inr (x1, x42.s_, x42.at_, x42.extended_, x42.t_.Root, x42.groups_, x42.depth_, x42.wrong_, x42.full_, x40))) ((C_rex_walk_repeats_sPOI n (⟨x39.s_, x39.at_, x39.extended_, (⟨x40, x39.t_.Root⟩ : S_tree_Tree), x39.groups_, x39.depth_, x39.wrong_, x39.full_⟩ : S_rex_walk) x38).bind fun (x43, x44, x45) => need (okN 8 (x1.length + ([x43] : List Int).length)) <| some (.inl ((x1 ++ ([x43] : List Int)), x44.s_, x44.at_, x44.extended_, x44.t_.Root, x44.groups_, x44.depth_, x44.wrong_, x44.full_, x45, false))))))) (some (.inr (x1, x2, x3, x4, x5, x6, x7, x8, x9, x10)))
theorem le_C_rex_walk_branch_sPO_L0 (n : Nat) (hn : n ≤ bigF) {S T : SC_rex_walk_group_sPO} (h : LeSC_rex_walk_group_sPO S T) : ∀ (s : (List Int) × (List UInt8) × Int × Bool × Int × Int × Int × Int × Bool × (List S_tree_Node) × Bool), Le (C_rex_walk_branch_sPO_L0 n S s) (M_rex_walk_branch_sPO_L0 T s) := by
  intro s
  unfold C_rex_walk_branch_sPO_L0 M_rex_walk_branch_sPO_L0
  repeat' (first | with_reducible (first | exact Le.refl _ | apply le_C_rex_walk_ok_sPO n hn | apply le_C_rex_walk_closes_sPO n hn | apply le_C_rex_walk_one_sPOI n hn | apply le_C_rex_walk_repeats_sPOI n hn | apply le_C_rex_walk_add_sPOR n hn | apply le_C_rex_walk_fail_sPOI n hn | apply h.lM_rex_walk_atom_sPO | exact Le.none _ | refine Le.bind ?_ (fun _ => ?_) | refine Le.iteB ?_ ?_ | refine Le.need ?_) | refine Le.loop (fun _ => ?_) | split | dsimp only)
noncomputable def CB_rex_walk_branch_sPO (n : Nat) (S : SC_rex_walk_group_sPO) (p0 : S_rex_walk) : Option (Int × S_rex_walk × (List S_tree_Node)) :=
 (lpN n (C_rex_walk_branch_sPO_L0 n S) (([] : List Int), p0.s_, p0.at_, p0.extended_, p0.t_.Root, p0.groups_, p0.depth_, p0.wrong_, p0.full_, p0.t_.Nodes, false)).bind fun (x12, x13, x14, x15, x16, x17, x18, x19, x20, x21) => (C_rex_walk_nest_sPOIO n (⟨x13, x14, x15, (⟨x21, x16⟩ : S_tree_Tree), x17, x18, x19, x20⟩ : S_rex_walk) (2 : Int) x12).bind fun (x46, x47, x48) => some (x46, (⟨x47.s_, x47.at_, x47.extended_, (⟨x48, x47.t_.Root⟩ : S_tree_Tree), x47.groups_, x47.depth_, x47.wrong_, x47.full_⟩ : S_rex_walk), x48)
theorem le_CB_rex_walk_branch_sPO (n : Nat) (hn : n ≤ bigF) {S T : SC_rex_walk_group_sPO} (h : LeSC_rex_walk_group_sPO S T) : ∀ (p0 : S_rex_walk), Le (CB_rex_walk_branch_sPO n S p0) (B_rex_walk_branch_sPO T p0) := by
  intro p0
  unfold CB_rex_walk_branch_sPO B_rex_walk_branch_sPO
  repeat' (first | with_reducible (first | exact Le.refl _ | apply le_C_rex_walk_branch_sPO_L0 n hn h | apply le_C_rex_walk_nest_sPOIO n hn | exact Le.none _ | refine Le.bind ?_ (fun _ => ?_) | refine Le.iteB ?_ ?_ | refine Le.need ?_) | refine Le.loop (fun _ => ?_) | split | dsimp only)
noncomputable def CB_rex_walk_atom_sPO (n : Nat) (S : SC_rex_walk_group_sPO) (p0 : S_rex_walk) : Option (Int × S_rex_walk × (List S_tree_Node)) :=
 (ixS p0.s_ p0.at_).bind fun x1 => iteB (x1 == (91 : Int)) (none) (iteB (x1 == (46 : Int)) (none) ((iteB (x1 == (36 : Int)) ((iteB p0.extended_ (some true) ((C_rex_walk_back_sPO n p0).bind fun x4 => some x4) : Option (Bool)).bind fun x3 => some x3) (some false) : Option (Bool)).bind fun x2 => iteB x2 ((C_rex_walk_add_sPOR n (⟨p0.s_, IntKind.i64.wrap (p0.at_ + (1 : Int)), p0.extended_, p0.t_, p0.groups_, p0.depth_, p0.wrong_, p0.full_⟩ : S_rex_walk) (⟨(7 : Int), (0 : Int), (0 : Int), (0 : Int), (0 : Int), (0 : Int), (⟨(0 : Int), (0 : Int), (0 : Int), (0 : Int)⟩ : A4_uint64)⟩ : S_tree_Node)).bind fun (x5, x6, x7) => some (x5, (⟨x6.s_, x6.at_, x6.extended_, (⟨x7, x6.t_.Root⟩ : S_tree_Tree), x6.groups_, x6.depth_, x6.wrong_, x6.full_⟩ : S_rex_walk), x7)) (iteB ((x1 == (94 : Int)) && p0.extended_) ((C_rex_walk_add_sPOR n (⟨p0.s_, IntKind.i64.wrap (p0.at_ + (1 : Int)), p0.extended_, p0.t_, p0.groups_, p0.depth_, p0.wrong_, p0.full_⟩ : S_rex_walk) (⟨(6 : Int), (0 : Int), (0 : Int), (0 : Int), (0 : Int), (0 : Int), (⟨(0 : Int), (0 : Int), (0 : Int), (0 : Int)⟩ : A4_uint64)⟩ : S_tree_Node)).bind fun (x8, x9, x10) => some (x8, (⟨x9.s_, x9.at_, x9.extended_, (⟨x10, x9.t_.Root⟩ : S_tree_Tree), x9.groups_, x9.depth_, x9.wrong_, x9.full_⟩ : S_rex_walk), x10)) ((C_rex_walk_next_sPOS n p0 ([40] : List UInt8)).bind fun (x11, x12) => iteB x11 ((S.M_rex_walk_group_sPO (⟨x12.s_, x12.at_, x12.extended_, (⟨p0.t_.Nodes, x12.t_.Root⟩ : S_tree_Tree), x12.groups_, x12.depth_, x12.wrong_, x12.full_⟩ : S_rex_walk)).bind fun (x13, x14, x15) => some (x13, (⟨x14.s_, x14.at_, x14.extended_, (⟨x15, x14.t_.Root⟩ : S_tree_Tree), x14.groups_, x14.depth_, x14.wrong_, x14.full_⟩ : S_rex_walk), x15)) (iteB (x1 == (92 : Int)) (none) ((iteB x12.extended_ (((iteB (x1 == (42 : Int)) (some true) (some (x1 == (43 : Int))) : Option ((Bool))).bind fun x17 => iteB x17 (some (.inl ())) ((iteB (x1 == (63 : Int)) (some true) (some (x1 == (123 : Int))) : Option ((Bool))).bind fun x18 => iteB x18 (some (.inl ())) ((iteB (x1 == (124 : Int)) (some true) (some (x1 == (41 : Int))) : Option ((Bool))).bind fun x19 => iteB x19 (some (.inl ())) (some (.inr ())))) : Option ((Unit) ⊕ (Unit))).bind fun o2 => (match o2 with | .inl _ => some (.inr (0 : Int)) | .inr _ => some (.inl ()))) (some (.inl ())) : Option ((Unit) ⊕ (Int))).bind fun o1 => (match o1 with | .inl _ => (C_rex_walk_one_sPOI n (⟨x12.s_, IntKind.i64.wrap (x12.at_ + (1 : Int)), x12.extended_, (⟨p0.t_.Nodes, x12.t_.Root⟩ : S_tree_Tree), x12.groups_, x12.depth_, x12.wrong_, x12.full_⟩ : S_rex_walk) x1).bind fun (x20, x21, x22) => some (x20, (⟨x21.s_, x21.at_, x21.extended_, (⟨x22, x21.t_.Root⟩ : S_tree_Tree), x21.groups_, x21.depth_, x21.wrong_, x21.full_⟩ : S_rex_walk), x22) | .inr x16 => some (x16, (⟨x12.s_, x12.at_, x12.extended_, (⟨p0.t_.Nodes, x12.t_.Root⟩ : S_tree_Tree), x12.groups_, x12.depth_, x12.wrong_, x12.full_⟩ : S_rex_walk), p0.t_.Nodes))))))))
theorem le_CB_rex_walk_atom_sPO (n : Nat) (hn : n ≤ bigF) {S T : SC_rex_walk_group_sPO} (h : LeSC_rex_walk_group_sPO S T) : ∀ (p0 : S_rex_walk), Le (CB_rex_walk_atom_sPO n S p0) (B_rex_walk_atom_sPO T p0) := by
  intro p0
  unfold CB_rex_walk_atom_sPO B_rex_walk_atom_sPO
  repeat' (first | with_reducible (first | exact Le.refl _ | apply le_C_rex_walk_back_sPO n hn | apply le_C_rex_walk_add_sPOR n hn | apply le_C_rex_walk_next_sPOS n hn | apply le_C_rex_walk_one_sPOI n hn | apply h.lM_rex_walk_group_sPO | exact Le.none _ | refine Le.bind ?_ (fun _ => ?_) | refine Le.iteB ?_ ?_ | refine Le.need ?_) | refine Le.loop (fun _ => ?_) | split | dsimp only)
noncomputable def cSC_rex_walk_group_sPO (n : Nat) : Nat → SC_rex_walk_group_sPO
  | 0 => ⟨fun _ => none, fun _ => none, fun _ => none, fun _ => none⟩
  | k + 1 => ⟨CB_rex_walk_group_sPO n (cSC_rex_walk_group_sPO n k), CB_rex_walk_expression_sPO n (cSC_rex_walk_group_sPO n k), CB_rex_walk_branch_sPO n (cSC_rex_walk_group_sPO n k), CB_rex_walk_atom_sPO n (cSC_rex_walk_group_sPO n k)⟩
theorem le_cSC_rex_walk_group_sPO (n : Nat) (hn : n ≤ bigF) : ∀ k m, k ≤ m → LeSC_rex_walk_group_sPO (cSC_rex_walk_group_sPO n k) (rSC_rex_walk_group_sPO m)
  | 0, _, _ => ⟨fun _ => Le.none _, fun _ => Le.none _, fun _ => Le.none _, fun _ => Le.none _⟩
  | k + 1, 0, h => by omega
  | k + 1, m + 1, h => ⟨le_CB_rex_walk_group_sPO n hn (le_cSC_rex_walk_group_sPO n hn k m (by omega)), le_CB_rex_walk_expression_sPO n hn (le_cSC_rex_walk_group_sPO n hn k m (by omega)), le_CB_rex_walk_branch_sPO n hn (le_cSC_rex_walk_group_sPO n hn k m (by omega)), le_CB_rex_walk_atom_sPO n hn (le_cSC_rex_walk_group_sPO n hn k m (by omega))⟩
noncomputable def C_rex_walk_expression_sPO (n : Nat) : S_rex_walk → Option (Int × S_rex_walk × (List S_tree_Node)) := (cSC_rex_walk_group_sPO n n).M_rex_walk_expression_sPO
theorem le_C_rex_walk_expression_sPO (n : Nat) (hn : n ≤ bigF) : ∀ a0, Le (C_rex_walk_expression_sPO n a0) (M_rex_walk_expression_sPO a0) := (le_cSC_rex_walk_group_sPO n hn n bigF hn).lM_rex_walk_expression_sPO
noncomputable def C_rex_Parse (n : Nat) (p0 : List UInt8) (p1 : Bool) : Option (S_tree_Tree × Int × Int) :=
 iteB (decide ((p0.length : Int) > (8192 : Int))) (some ((⟨([] : List S_tree_Node), (0 : Int)⟩ : S_tree_Tree), (0 : Int), (12 : Int))) ((C_rex_walk_expression_sPO n (⟨p0, (0 : Int), p1, (⟨([] : List S_tree_Node), (0 : Int)⟩ : S_tree_Tree), (0 : Int), (0 : Int), (-1 : Int), false⟩ : S_rex_walk)).bind fun (x1, x2, x3) => ((C_rex_walk_ok_sPO n (⟨x2.s_, x2.at_, x2.extended_, (⟨x3, x2.t_.Root⟩ : S_tree_Tree), x2.groups_, x2.depth_, x2.wrong_, x2.full_⟩ : S_rex_walk)).bind fun x12 => iteB (x12 && (decide (x2.at_ < (p0.length : Int)))) ((C_rex_walk_fail_sPOI n (⟨x2.s_, x2.at_, x2.extended_, (⟨x3, x2.t_.Root⟩ : S_tree_Tree), x2.groups_, x2.depth_, x2.wrong_, x2.full_⟩ : S_rex_walk) x2.at_).bind fun x13 => some (x13.s_, x13.at_, x13.extended_, x13.t_.Root, x13.groups_, x13.depth_, x13.wrong_, x13.full_)) (some (x2.s_, x2.at_, x2.extended_, x2.t_.Root, x2.groups_, x2.depth_, x2.wrong_, x2.full_)) : Option (((List UInt8) × Int × Bool × Int × Int × Int × Int × Bool))).bind fun (x4, x5, x6, x7, x8, x9, x10, x11) => (C_rex_walk_ok_sPO n (⟨x4, x5, x6, (⟨x3, x7⟩ : S_tree_Tree), x8, x9, x10, x11⟩ : S_rex_walk)).bind fun x14 => iteB (!x14) (some ((⟨([] : List S_tree_Node), (0 : Int)⟩ : S_tree_Tree), x10, (11 : Int))) (iteB x11 (some ((⟨([] : List S_tree_Node), (0 : Int)⟩ : S_tree_Tree), (0 : Int), (8 : Int))) (some ((⟨x3, x7⟩ : S_tree_Tree), (0 : Int), (0 : Int)))))
theorem le_C_rex_Parse (n : Nat) (hn : n ≤ bigF) : ∀ (p0 : List UInt8) (p1 : Bool), Le (C_rex_Parse n p0 p1) (M_rex_Parse p0 p1) := by
  intro p0 p1
  unfold C_rex_Parse M_rex_Parse
  repeat' (first | with_reducible (first | exact Le.refl _ | apply le_C_rex_walk_expression_sPO n hn | apply le_C_rex_walk_ok_sPO n hn | apply le_C_rex_walk_fail_sPOI n hn | exact Le.none _ | refine Le.bind ?_ (fun _ => ?_) | refine Le.iteB ?_ ?_ | refine Le.need ?_) | refine Le.loop (fun _ => ?_) | split | dsimp only)
noncomputable def C_boulterlaw19_RexGroups_L0 (n : Nat) (p0 : Int) (x1 : List UInt8) (x2 : List UInt8) (s : (List UInt8) × Int) : Option (((List UInt8) × Int) ⊕ (((List UInt8)))) :=
 match s with
 | (x3, x4) => iteB (decide (x4 < (Int.tmod (IntKind.i64.wrap p0) (20 : Int)))) (need (decide (x1.length + ([97] : List UInt8).length ≤ 9223372036854775807)) <| need (decide ((x1 ++ ([97] : List UInt8)).length + x2.length ≤ 9223372036854775807)) <| need (decide (x3.length + ((x1 ++ ([97] : List UInt8)) ++ x2).length ≤ 9223372036854775807)) <| some (.inl (x3 ++ ((x1 ++ ([97] : List UInt8)) ++ x2), IntKind.i64.wrap (x4 + (1 : Int))))) (some (.inr x3))
theorem le_C_boulterlaw19_RexGroups_L0 (n : Nat) (hn : n ≤ bigF) : ∀ (p0 : Int) (x1 : List UInt8) (x2 : List UInt8) (s : (List UInt8) × Int), Le (C_boulterlaw19_RexGroups_L0 n p0 x1 x2 s) (M_boulterlaw19_RexGroups_L0 p0 x1 x2 s) := by
  intro p0 x1 x2 s
  unfold C_boulterlaw19_RexGroups_L0 M_boulterlaw19_RexGroups_L0
  repeat' (first | with_reducible (first | exact Le.refl _ | exact Le.none _ | refine Le.bind ?_ (fun _ => ?_) | refine Le.iteB ?_ ?_ | refine Le.need ?_) | refine Le.loop (fun _ => ?_) | split | dsimp only)
noncomputable def C_boulterlaw19_RexGroups_L1 (n : Nat) (p1 : Int) (x1 : List UInt8) (s : (List UInt8) × Int) : Option (((List UInt8) × Int) ⊕ (((List UInt8)))) :=
 match s with
 | (x6, x7) => iteB (decide (x7 < (Int.tmod (IntKind.i64.wrap p1) (20 : Int)))) (need (decide (x6.length + x1.length ≤ 9223372036854775807)) <| some (.inl (x6 ++ x1, IntKind.i64.wrap (x7 + (1 : Int))))) (some (.inr x6))
theorem le_C_boulterlaw19_RexGroups_L1 (n : Nat) (hn : n ≤ bigF) : ∀ (p1 : Int) (x1 : List UInt8) (s : (List UInt8) × Int), Le (C_boulterlaw19_RexGroups_L1 n p1 x1 s) (M_boulterlaw19_RexGroups_L1 p1 x1 s) := by
  intro p1 x1 s
  unfold C_boulterlaw19_RexGroups_L1 M_boulterlaw19_RexGroups_L1
  repeat' (first | with_reducible (first | exact Le.refl _ | exact Le.none _ | refine Le.bind ?_ (fun _ => ?_) | refine Le.iteB ?_ ?_ | refine Le.need ?_) | refine Le.loop (fun _ => ?_) | split | dsimp only)
noncomputable def C_boulterlaw19_RexGroups_L2 (n : Nat) (p1 : Int) (x2 : List UInt8) (s : (List UInt8) × Int) : Option (((List UInt8) × Int) ⊕ (((List UInt8)))) :=
 match s with
 | (x9, x10) => iteB (decide (x10 < (Int.tmod (IntKind.i64.wrap p1) (20 : Int)))) (need (decide (([98] : List UInt8).length + x2.length ≤ 9223372036854775807)) <| need (decide (x9.length + (([98] : List UInt8) ++ x2).length ≤ 9223372036854775807)) <| some (.inl (x9 ++ (([98] : List UInt8) ++ x2), IntKind.i64.wrap (x10 + (1 : Int))))) (some (.inr x9))
theorem le_C_boulterlaw19_RexGroups_L2 (n : Nat) (hn : n ≤ bigF) : ∀ (p1 : Int) (x2 : List UInt8) (s : (List UInt8) × Int), Le (C_boulterlaw19_RexGroups_L2 n p1 x2 s) (M_boulterlaw19_RexGroups_L2 p1 x2 s) := by
  intro p1 x2 s
  unfold C_boulterlaw19_RexGroups_L2 M_boulterlaw19_RexGroups_L2
  repeat' (first | with_reducible (first | exact Le.refl _ | exact Le.none _ | refine Le.bind ?_ (fun _ => ?_) | refine Le.iteB ?_ ?_ | refine Le.need ?_) | refine Le.loop (fun _ => ?_) | split | dsimp only)
noncomputable def C_boulterlaw19_RexGroups (n : Nat) (p0 : Int) (p1 : Int) (p2 : Bool) : Option (Bool) :=
 (iteB p2 (some (([40] : List UInt8), ([41] : List UInt8))) (some (([92, 40] : List UInt8), ([92, 41] : List UInt8))) : Option (((List UInt8) × (List UInt8)))).bind fun (x1, x2) => (lpN n (C_boulterlaw19_RexGroups_L0 n p0 x1 x2) (([] : List UInt8), (0 : Int))).bind fun x5 => (lpN n (C_boulterlaw19_RexGroups_L1 n p1 x1) (x5, (0 : Int))).bind fun x8 => (lpN n (C_boulterlaw19_RexGroups_L2 n p1 x2) (x8, (0 : Int))).bind fun x11 => (C_rex_Parse n x11 p2).bind fun (x12, x13, x14) => (iteB (x14 == (0 : Int)) ((C_tree_Tree_Groups n x12).bind fun x16 => some (x16 == (IntKind.i64.wrap ((Int.tmod (IntKind.i64.wrap p0) (20 : Int)) + (Int.tmod (IntKind.i64.wrap p1) (20 : Int)))))) (some false) : Option (Bool)).bind fun x15 => (iteB x15 ((M_boulterlaw19_awake).bind fun x18 => some x18) (some false) : Option (Bool)).bind fun x17 => some x17
theorem le_C_boulterlaw19_RexGroups (n : Nat) (hn : n ≤ bigF) : ∀ (p0 : Int) (p1 : Int) (p2 : Bool), Le (C_boulterlaw19_RexGroups n p0 p1 p2) (M_boulterlaw19_RexGroups p0 p1 p2) := by
  intro p0 p1 p2
  unfold C_boulterlaw19_RexGroups M_boulterlaw19_RexGroups
  repeat' (first | with_reducible (first | exact Le.refl _ | apply le_C_boulterlaw19_RexGroups_L0 n hn | apply le_C_boulterlaw19_RexGroups_L1 n hn | apply le_C_boulterlaw19_RexGroups_L2 n hn | apply le_C_rex_Parse n hn | apply le_C_tree_Tree_Groups n hn | exact Le.none _ | refine Le.bind ?_ (fun _ => ?_) | refine Le.iteB ?_ ?_ | refine Le.need ?_) | refine Le.loop (fun _ => ?_) | split | dsimp only)
def C0_okB : Option Bool → Bool
  | some b => b
  | none => false
theorem C0_okB_true : ∀ {x : Option Bool}, C0_okB x = true → x = some true
  | some true, _ => rfl
end Go.Av.L
