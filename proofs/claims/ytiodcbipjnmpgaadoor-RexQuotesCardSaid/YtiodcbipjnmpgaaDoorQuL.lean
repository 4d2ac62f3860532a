/-
  RexQuotes: the law.
-/
import Derived.Test.YtiodcbipjnmpgaaDoorQuP
namespace Go.Av.L
open Go.Av Go.Lib
set_option linter.unusedVariables false
set_option linter.unusedSimpArgs false
set_option maxRecDepth 100000 in
theorem awake_eq : M_boulterlaw19_awake = some true := by kernel_rfl
theorem aw {Q : Bool → Prop} (h : Q true) : W ((M_boulterlaw19_awake).bind fun x => some x) Q := W.bind (W.of awake_eq (W.ret h))
theorem used_q {nodes : List S_tree_Node} {n : Nat} (hn : n < nodes.length) (hl : nodes.length ≤ 1024) (hN : NS nodes) (hch : ∀ (i : Nat) x, nodes[i]? = some x → (x.Kind = 2 ∨ x.Kind = 3 ∨ x.Kind = 4 ∨ x.Kind = 5) → x.Kind = 2 ∧ 0 ≤ x.A ∧ x.A < i ∧ 0 ≤ x.B ∧ x.B < i) : W (M_tree_Tree_used ⟨nodes, (n : Int)⟩) fun l => l.length = nodes.length := by
 unfold M_tree_Tree_used
 simp only []
 refine W.need (by unfold mkN; exact decide_eq_true ⟨by omega, by omega, by omega⟩) ?_
 rw [ixV_get (by rw [List.length_replicate]; omega), Option.bind_some]
 refine W.bind (W.mono (W.loop (fun s => s.1.length = nodes.length ∧ -1 ≤ s.2 ∧ s.2 < nodes.length) (fun s => (s.2 + 1).toNat) ⟨by simp, by omega, by simp only; omega⟩ ?_) fun r hr => W.ret hr)
 rintro ⟨x2, x3⟩ ⟨h1, h2, h3⟩
 simp only at h1 h2 h3
 unfold M_tree_Tree_used_L0
 refine W.iteP (fun hge => ?_) fun _ => W.ret h1
 obtain ⟨i, rfl⟩ := Int.eq_ofNat_of_zero_le hge
 have hi : i < nodes.length := by omega
 refine W.bind (W.mono (Q := fun l : List Bool => l.length = nodes.length) ?_ fun l hl2 => W.ret ⟨⟨hl2, ?_, ?_⟩, ?_⟩)
 rotate_left
 ·simp only; rw [w64 (by omega) (by omega)]; omega
 ·simp only; rw [w64 (by omega) (by omega)]; omega
 ·simp only; rw [w64 (by omega) (by omega)]; omega
 rw [ixV_get (show i < x2.length by omega), Option.bind_some]
 refine W.ite (fun _ => W.ret h1) fun _ => ?_
 rw [ixV_get hi, Option.bind_some]
 have hn := hch i _ (List.getElem?_eq_getElem hi)
 generalize nodes[i] = x at hn ⊢
 have ix : ∀ (l : List Bool) (a : Int), l.length = nodes.length → 0 ≤ a → a < (i : Int) → ∃ v, ixV l a = some v := by
  intro l a h0 h1 h2
  obtain ⟨q, rfl⟩ := Int.eq_ofNat_of_zero_le h1
  exact ⟨_, ixV_get (by omega)⟩
 rw [iteB_or, Option.bind_some]
 refine W.ite (fun hk => ?_) fun _ => ?_
 ·simp only [Bool.or_eq_true, beq_iff_eq] at hk
  obtain ⟨_, a1, a2, b1, b2⟩ := hn (by omega)
  obtain ⟨v, hv⟩ := ix x2 x.A h1 a1 a2
  obtain ⟨v2, hv2⟩ := ix (x2.set x.A.toNat true) x.B (by simpa using h1) b1 b2
  rw [hv, Option.bind_some, hv2, Option.bind_some]
  exact W.ret (by simpa using h1)
 ·rw [iteB_or, Option.bind_some]
  refine W.ite (fun hk => ?_) fun _ => W.ret h1
  simp only [Bool.or_eq_true, beq_iff_eq] at hk
  obtain ⟨h2, _⟩ := hn (by omega)
  omega
theorem groups_q {nodes : List S_tree_Node} {n : Nat} (hr : M_tree_Tree_Right ⟨nodes, (n : Int)⟩ = some true) (hn : n < nodes.length) (hl : nodes.length ≤ 1024) (hN : NS nodes) (hch : ∀ (i : Nat) x, nodes[i]? = some x → (x.Kind = 2 ∨ x.Kind = 3 ∨ x.Kind = 4 ∨ x.Kind = 5) → x.Kind = 2 ∧ 0 ≤ x.A ∧ x.A < i ∧ 0 ≤ x.B ∧ x.B < i) : M_tree_Tree_Groups ⟨nodes, (n : Int)⟩ = some 0 := by
 refine W.eq ?_
 unfold M_tree_Tree_Groups
 rw [hr, Option.bind_some, Bool.not_true, iteB_false]
 refine W.bind ((used_q hn hl hN hch).mono fun l hl2 => ?_)
 refine W.bind (W.mono (W.loop (fun s => s.1 = 0 ∧ 0 ≤ s.2 ∧ s.2 ≤ nodes.length) (fun s => (nodes.length - s.2).toNat) ⟨rfl, Int.le_refl _, by simp⟩ ?_) fun r hr => W.ret hr)
 rintro ⟨x3, x4⟩ ⟨h1, h2, h3⟩
 simp only at h1 h2 h3
 subst h1
 unfold M_tree_Tree_Groups_L0
 refine W.iteP (fun hlt => ?_) fun _ => W.ret rfl
 obtain ⟨i, rfl⟩ := Int.eq_ofNat_of_zero_le h2
 have hi : i < nodes.length := by omega
 refine W.bind (W.mono (Q := fun v => v = 0) ?_ fun v hv => W.ret ⟨⟨hv, ?_, ?_⟩, ?_⟩)
 ·rw [ixV_get (show i < l.length by omega), Option.bind_some]
  refine W.ite (fun _ => ?_) fun _ => W.ret rfl
  simp only []
  rw [ixV_get hi, Option.bind_some, hN.grp _ (List.getElem_mem hi)]
  exact W.ret rfl
 all_goals simp only; rw [ek64 (by omega)]; omega
theorem lawRexQuotes (p0 : List UInt8) {Q0 : Prop} (k0 : Q0) (p1 : List UInt8) {Q1 : Prop} (k1 : Q1) (p2 : Bool) {Q2 : Prop} (k2 : Q2) : M_boulterlaw19_RexQuotes p0 p1 p2 = some true := by
 refine W.eq ?_
 unfold M_boulterlaw19_RexQuotes
 refine W.ite (fun _ => aw rfl) fun hs => ?_
 simp only [Bool.or_eq_false_iff, decide_eq_false_iff_not] at hs
 have h0 : p0.length ≤ 12 := by have := hs.1; omega
 have h1 : p1.length ≤ 12 := by have := hs.2; omega
 rw [quote_ok p0 p2 (by omega), Option.bind_some]
 refine W.bind ((parse_q p2 p0 (by omega)).mono ?_)
 rintro _ ⟨nodes, n, rfl, a1, a2, a3, a4, a5⟩
 simp only []
 rw [show (((0 : Int) == 0) && ((0 : Int) == 0)) = true from rfl, iteB_true, matches_ok a5 a1 a3 p0 (by omega), beq_self_eq_true, Option.bind_some, Option.bind_some, iteB_true, matches_ok a5 a1 a3 p1 (by omega), Option.bind_some, beq_self_eq_true, Option.bind_some, iteB_true, groups_q a5 a2 a3 a4 a4.kin, Option.bind_some, show ((0 : Int) == 0) = true from rfl, Option.bind_some, iteB_true]
 exact W.bind (aw (W.ret rfl))
end Go.Av.L
