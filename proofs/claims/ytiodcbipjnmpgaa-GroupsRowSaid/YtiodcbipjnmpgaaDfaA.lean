/-
  Dfa: what sets have, which nodes may be, which trees are right.
-/
import Derived.Test.YtiodcbipjnmpgaaK0
import Derived.Test.YtiodcbipjnmpgaaK1
import Derived.Test.YtiodcbipjnmpgaaK2
import Derived.Test.YtiodcbipjnmpgaaK3
import Derived.Test.YtiodcbipjnmpgaaK4
import Derived.Test.YtiodcbipjnmpgaaK5
import Derived.Test.YtiodcbipjnmpgaaAvSm
namespace Go.Av.L
open Go.Av Go.Lib
set_option linter.unusedVariables false
set_option linter.unusedSimpArgs false
theorem shr6_val : ∀ n : Fin 256, 0 ≤ bShr .u8 (n.1 : Int) 6 ∧ bShr .u8 (n.1 : Int) 6 < 4 ∧ 0 ≤ bAnd .u8 (n.1 : Int) 63 := by decide +kernel
noncomputable def hasV (s : A4_uint64) (b : Int) : Bool := (M_class_Set_Has s b).getD false
theorem has_eq (s : A4_uint64) {b : Int} (h0 : 0 ≤ b) (h1 : b ≤ 255) : M_class_Set_Has s b = some (hasV s b) := by
 have hw : ∃ v, M_class_Set_Has s b = some v := by
  obtain ⟨n, rfl⟩ := Int.eq_ofNat_of_zero_le h0
  obtain ⟨e1, e2, e3⟩ := shr6_val ⟨n, by omega⟩
  simp only at e1 e2 e3
  unfold M_class_Set_Has
  obtain ⟨k, hk⟩ := Int.eq_ofNat_of_zero_le e1
  rw [hk] at e2 ⊢
  have hk4 : k < ([s.w0, s.w1, s.w2, s.w3] : List Int).length := by simp; omega
  rw [ixV_get hk4, Option.bind_some, decide_eq_true e3, need_true]
  exact ⟨_, rfl⟩
 obtain ⟨v, hv⟩ := hw
 unfold hasV
 rw [hv]; rfl
def nodeR (n : S_tree_Node) (i : Int) : Prop :=
 ((n.Kind = 2 ∨ n.Kind = 3) → 0 ≤ n.A ∧ n.A < i ∧ 0 ≤ n.B ∧ n.B < i) ∧
 (n.Kind = 4 → 0 ≤ n.A ∧ n.A < i ∧ 0 ≤ n.Min ∧ n.Min ≤ 255 ∧ (n.Max = -1 ∨ n.Min ≤ n.Max ∧ n.Max ≤ 255)) ∧
 (n.Kind = 5 → 0 ≤ n.A ∧ n.A < i)
theorem eqG_ok (a b : S_tree_Node) : W (eqG cfg.P 68 [.int .i64 a.Kind, .int .i64 a.A, .int .i64 a.B, .int .i64 a.Min, .int .i64 a.Max, .int .i64 a.Group, .int .u64 a.Set.w0, .int .u64 a.Set.w1, .int .u64 a.Set.w2, .int .u64 a.Set.w3] [.int .i64 b.Kind, .int .i64 b.A, .int .i64 b.B, .int .i64 b.Min, .int .i64 b.Max, .int .i64 b.Group, .int .u64 b.Set.w0, .int .u64 b.Set.w1, .int .u64 b.Set.w2, .int .u64 b.Set.w3]) fun _ => True := by
 exact eqG_sm (by kernel_rfl) (by kernel_rfl)
theorem may_ok (n : S_tree_Node) (i : Int) : W (M_tree_may n i) fun b => b = true → nodeR n i := by
 have m1 : ∀ a, M_tree_may_1_sIP a i = some (decide (0 ≤ a) && decide (a < i)) := fun a => rfl
 unfold M_tree_may
 refine W.bind (W.mono (Q := fun _ => True) ?_ fun x _ => ?_)
 ·unfold M_tree_bare
  refine W.bind (W.mono (Q := fun _ => True) (W.ite (fun _ => W.ret trivial) fun _ => W.ite (fun _ => W.ret trivial) fun _ => W.ret trivial) fun _ _ => W.ite (fun _ => W.ret trivial) fun _ => W.ite (fun _ => W.ret trivial) fun _ => ?_)
  refine W.bind (W.mono (Q := fun _ => True) (W.ite (fun _ => W.ret trivial) fun _ => W.ret trivial) fun _ _ => W.ite (fun _ => W.ret trivial) fun _ => W.ite (fun _ => W.ret trivial) fun _ => W.ite (fun _ => W.ret trivial) fun _ => W.ret trivial)
 obtain ⟨x1, x2⟩ := x
 refine W.bind (W.mono (Q := fun _ => True) (W.ite (fun _ => W.ret trivial) fun _ => ?_) fun x3 _ => ?_)
 ·exact W.bind ((eqG_ok x1 n).mono fun _ _ => W.ret trivial)
 refine W.ite (fun _ => W.ret fun h => by cases h) fun _ => ?_
 rw [iteB_beq]
 refine W.bind (W.mono (Q := fun b => b = decide (n.Kind = 2 ∨ n.Kind = 3)) ?_ fun x5 h5 => ?_)
 ·split <;> rename_i hk
  ·exact W.ret (by simp [hk])
  ·exact W.ret (by by_cases h3 : n.Kind = 3 <;> simp [hk, h3])
 subst h5
 refine W.iteP (fun h => ?_) fun h => ?_
 ·rw [m1]
  refine W.bind (W.ret (W.bind (W.mono (Q := fun b => b = true → nodeR n i) ?_ fun b hb => W.ret hb)))
  refine W.ite (fun ha => ?_) fun _ => W.ret fun h => by cases h
  rw [m1]
  refine W.bind (W.ret (W.ret fun hb => ?_))
  simp only [Bool.and_eq_true, decide_eq_true_eq] at ha hb
  exact ⟨fun _ => ⟨ha.1, ha.2, hb.1, hb.2⟩, fun h4 => by omega, fun h5 => by omega⟩
 ·rw [iteB_beq, iteB_beq]
  split
  ·rename_i h4
   rw [m1]
   refine W.bind (W.ret (W.ret fun hb => ?_))
   simp only [Bool.and_eq_true, Bool.or_eq_true, decide_eq_true_eq, beq_iff_eq] at hb
   exact ⟨fun h => by omega, fun _ => by omega, fun h => by omega⟩
  ·split
   ·rename_i h5
    rw [m1]
    refine W.bind (W.ret (W.ret fun hb => ?_))
    simp only [Bool.and_eq_true, decide_eq_true_eq] at hb
    exact ⟨fun h => by omega, fun _ => by omega, fun h => by omega⟩
   ·exact W.ret fun _ => ⟨fun h => by omega, fun h => by omega, fun h => by omega⟩
structure TreeR (t : S_tree_Tree) : Prop where
 len : t.Nodes.length ≤ 1024
 root : 0 ≤ t.Root ∧ t.Root < t.Nodes.length
 nodes : ∀ (i : Nat) n, t.Nodes[i]? = some n → nodeR n i
theorem right_ok (t : S_tree_Tree) : W (M_tree_Tree_Right t) fun b => b = true → TreeR t := by
 unfold M_tree_Tree_Right
 refine W.ite (fun _ => W.ret fun h => by cases h) fun hb => ?_
 simp only [Bool.or_eq_false_iff, decide_eq_false_iff_not] at hb
 refine W.bind (W.mono (W.loop (fun s => ∃ i : Nat, s = (i : Int) ∧ i ≤ t.Nodes.length ∧ ∀ (j : Nat) n, j < i → t.Nodes[j]? = some n → nodeR n j) (fun s => (t.Nodes.length - s).toNat) ⟨0, rfl, by omega, fun j n hj => by omega⟩ ?_ (Q := fun o => match o with | .inl _ => TreeR t | .inr b => b = false)) fun o ho => ?_)
 ·rintro _ ⟨i, rfl, h1, h2⟩
  unfold M_tree_Tree_Right_L0
  refine W.iteP (fun hl => ?_) fun hl => W.ret ?_
  ·have hi : i < t.Nodes.length := by omega
   rw [ixV_get hi]
   refine W.bind (W.ret (W.bind ((may_ok _ _).mono fun b hbn => W.ite (fun _ => W.ret rfl) fun hb2 => W.ret ?_)))
   rw [show IntKind.i64.wrap ((i : Int) + 1) = ((i + 1 : Nat) : Int) from ek64 (by omega)]
   refine ⟨⟨i + 1, rfl, by omega, fun j n hj hn => ?_⟩, by omega⟩
   by_cases hj2 : j < i
   ·exact h2 j n hj2 hn
   ·obtain rfl : j = i := by omega
    rw [List.getElem?_eq_getElem hi] at hn
    cases hn
    exact hbn (by simpa using hb2)
  ·exact ⟨by omega, by omega, fun j n hn => h2 j n (by have := (List.getElem?_eq_some_iff.1 hn).1; omega) hn⟩
 ·cases o with
  | inl u => exact W.ret fun _ => ho
  | inr b => exact W.ret fun h => by rw [ho] at h; cases h
end Go.Av.L
