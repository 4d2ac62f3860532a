/-
  RexFull: a tree of as many nodes as may be is told, one of more isn't.
-/
import Derived.Test.YtiodcbipjnmpgaaDoorKAll
import Derived.Test.YtiodcbipjnmpgaaDoorAvNum
import Derived.Test.YtiodcbipjnmpgaaDoorAvSm
import Derived.Test.YtiodcbipjnmpgaaDoorRexAwake
namespace Go.Av.L
open Go.Av Go.Lib
set_option linter.unusedVariables false
set_option linter.unusedSimpArgs false

/-- letters -/
def aa (k : Nat) : List UInt8 := List.replicate k 97
theorem aa_len (k : Nat) : (aa k).length = k := List.length_replicate
theorem hp_no (m : Nat) (c : UInt8) (t : List UInt8) (hc : c ≠ 97) : M_strings_HasPrefix (aa m) (c :: t) = some false := by
  refine W.eq ?_
  unfold M_strings_HasPrefix M_stringslite_HasPrefix
  refine W.bind (W.bind (W.mono (Q := fun b => b = false) (W.iteP (fun h => ?_) fun h => W.ret rfl) fun b hb => by subst hb; exact W.ret (W.ret rfl)))
  rw [aa_len] at h
  rw [subS_hi (by rw [aa_len]; omega), Option.bind_some]
  refine W.ret ?_
  obtain ⟨m', rfl⟩ : ∃ m', m = m' + 1 := ⟨m - 1, by simp only [List.length_cons] at h; omega⟩
  unfold aa
  rw [List.replicate_succ, List.length_cons, List.take_succ_cons, List.cons_beq_cons, beq_eq_false_iff_ne.2 (Ne.symm hc)]
  rfl
theorem aa_drop (k i : Nat) : (aa k).drop i = aa (k - i) := List.drop_replicate
theorem sign_no (k i : Nat) (hi : i ≤ k) (e : Bool) (t : S_tree_Tree) (g d wr : Int) (f : Bool) (c : UInt8) (hc : c ≠ 97) : M_rex_walk_sign_sPOS ⟨aa k, i, e, t, g, d, wr, f⟩ [c] = some false := by
  refine W.eq ?_
  unfold M_rex_walk_sign_sPOS
  refine W.bind (W.mono (Q := fun p => ∃ c' t', p = c' :: t' ∧ c' ≠ 97) (W.ite (fun _ => W.need (decide_eq_true (by simp)) (W.ret ⟨92, [c], rfl, by decide⟩)) fun _ => W.ret ⟨c, [], rfl, hc⟩) ?_)
  rintro _ ⟨c', t', rfl, h⟩
  rw [subS_lo (by rw [aa_len]; exact hi), Option.bind_some, aa_drop, hp_no _ _ _ h]
  exact W.ret rfl
theorem next_no (k i : Nat) (hi : i ≤ k) (e : Bool) (t : S_tree_Tree) (g d wr : Int) (f : Bool) (c : UInt8) (hc : c ≠ 97) : M_rex_walk_next_sPOS ⟨aa k, i, e, t, g, d, wr, f⟩ [c] = some (false, ⟨aa k, i, e, t, g, d, wr, f⟩) := by
  unfold M_rex_walk_next_sPOS
  rw [sign_no k i hi e t g d wr f c hc]
  rfl
theorem ok_yes (s : List UInt8) (i : Int) (e : Bool) (t : S_tree_Tree) (g d : Int) (f : Bool) : M_rex_walk_ok_sPO ⟨s, i, e, t, g, d, -1, f⟩ = some true := rfl
theorem closes_no (k i : Nat) (hi : i < k) (e : Bool) (t : S_tree_Tree) (g d wr : Int) (f : Bool) : M_rex_walk_closes_sPO ⟨aa k, i, e, t, g, d, wr, f⟩ = some false := by
  unfold M_rex_walk_closes_sPO
  simp only [aa_len]
  rw [beqN, decide_eq_false (by omega), sign_no k i (by omega) e t g d wr f 124 (by decide), sign_no k i (by omega) e t g d wr f 41 (by decide)]
  rfl
theorem closes_yes (k : Nat) (e : Bool) (t : S_tree_Tree) (g d wr : Int) (f : Bool) : M_rex_walk_closes_sPO ⟨aa k, k, e, t, g, d, wr, f⟩ = some true := by
  unfold M_rex_walk_closes_sPO
  simp only [aa_len]
  rw [beqN, decide_eq_true rfl]
  rfl
theorem repeats_no (k i : Nat) (hi : i ≤ k) (e : Bool) (root : Int) (nodes : List S_tree_Node) (g d : Int) (f : Bool) (n : Int) : M_rex_walk_repeats_sPOI ⟨aa k, i, e, ⟨nodes, root⟩, g, d, -1, f⟩ n = some (n, ⟨aa k, i, e, ⟨nodes, root⟩, g, d, -1, f⟩, nodes) := by
  unfold M_rex_walk_repeats_sPOI
  have hs : M_rex_walk_repeats_sPOI_L0 (aa k, (i : Int), e, root, g, d, -1, f, nodes, n) = some (.inr (.inr (aa k, (i : Int), e, root, g, d, -1, f, nodes, n))) := by
    rw [M_rex_walk_repeats_sPOI_L0]
    simp only []
    rw [ok_yes, Option.bind_some, iteB_true, subS_lo (by rw [aa_len]; exact hi), Option.bind_some, aa_drop, hp_no _ _ _ (by decide), Option.bind_some, iteB_false,
      next_no k i hi e ⟨nodes, root⟩ g d (-1) f 43 (by decide), Option.bind_some]
    simp only [iteB_false]
    rw [next_no k i hi e ⟨nodes, root⟩ g d (-1) f 63 (by decide), Option.bind_some]
    simp only [iteB_false]
    rw [next_no k i hi e ⟨nodes, root⟩ g d (-1) f 123 (by decide), Option.bind_some]
    rfl
  rw [loop_end hs]
  rfl

theorem may_one (st : A4_uint64) (i : Int) : M_tree_may ⟨1, 0, 0, 0, 0, 0, st⟩ i = some true := by
  have hb : M_tree_bare ⟨1, 0, 0, 0, 0, 0, st⟩ = some (⟨1, 0, 0, 0, 0, 0, st⟩, true) := rfl
  unfold M_tree_may
  rw [hb, Option.bind_some]
  simp only []
  rw [eqG_self (by kernel_rfl) (by kernel_rfl)]
  rfl
theorem may_cat {a b i : Int} (ha : 0 ≤ a ∧ a < i) (hb : 0 ≤ b ∧ b < i) : M_tree_may ⟨2, a, b, 0, 0, 0, ⟨0, 0, 0, 0⟩⟩ i = some true := by
  have hbr : M_tree_bare ⟨2, a, b, 0, 0, 0, ⟨0, 0, 0, 0⟩⟩ = some (⟨2, a, b, 0, 0, 0, ⟨0, 0, 0, 0⟩⟩, true) := rfl
  have m1 : M_tree_may_1_sIP a i = some true := by unfold M_tree_may_1_sIP; rw [decide_eq_true ha.1, decide_eq_true ha.2]; rfl
  have m2 : M_tree_may_1_sIP b i = some true := by unfold M_tree_may_1_sIP; rw [decide_eq_true hb.1, decide_eq_true hb.2]; rfl
  unfold M_tree_may
  rw [hbr, Option.bind_some]
  simp only []
  rw [eqG_self (by kernel_rfl) (by kernel_rfl), m1, m2]
  rfl

/-- nodes that may stand where they stand -/
def NOk (l : List S_tree_Node) : Prop := ∀ (i : Nat) n, l[i]? = some n → M_tree_may n i = some true
theorem NOk.snoc {l : List S_tree_Node} {n : S_tree_Node} (h : NOk l) (hn : M_tree_may n l.length = some true) : NOk (l ++ [n]) := by
  intro i x hx
  by_cases hi : i < l.length
  · rw [List.getElem?_append_left hi] at hx; exact h i x hx
  · have hi2 : i = l.length := by have := (List.getElem?_eq_some_iff.1 hx).1; simp at this; omega
    subst hi2
    rw [List.getElem?_append_right (Nat.le_refl _), Nat.sub_self] at hx
    cases hx
    exact hn
theorem add_new {s : List UInt8} {i : Int} {e : Bool} {nodes : List S_tree_Node} {root g d wr : Int} {n : S_tree_Node} (hl : nodes.length < 1024) (hn : M_tree_may n nodes.length = some true) :
    M_rex_walk_add_sPOR ⟨s, i, e, ⟨nodes, root⟩, g, d, wr, false⟩ n = some ((nodes.length : Int), ⟨s, i, e, ⟨nodes ++ [n], nodes.length⟩, g, d, wr, false⟩, nodes ++ [n]) := by
  have el : IntKind.i64.wrap (((nodes ++ [n]).length : Int) - 1) = (nodes.length : Int) := by rw [List.length_append, List.length_singleton, w64 (by omega) (by omega)]; omega
  unfold M_rex_walk_add_sPOR M_tree_Tree_Add_sQ3OR
  simp only [iteB_false]
  rw [iteB_dec, if_neg (by omega), hn, Option.bind_some, Bool.not_true, iteB_false, okN_of (by simp; omega) (by simp; omega), need_true, el, Option.bind_some]
  rfl
theorem add_over {s : List UInt8} {i : Int} {e : Bool} {nodes : List S_tree_Node} {root g d wr : Int} {n : S_tree_Node} (hl : 1024 ≤ nodes.length) :
    M_rex_walk_add_sPOR ⟨s, i, e, ⟨nodes, root⟩, g, d, wr, false⟩ n = some (0, ⟨s, i, e, ⟨nodes, root⟩, g, d, wr, true⟩, nodes) := by
  unfold M_rex_walk_add_sPOR M_tree_Tree_Add_sQ3OR
  simp only [iteB_false]
  rw [iteB_dec, if_pos (by omega), Option.bind_some]
  rfl
theorem add_full {s : List UInt8} {i : Int} {e : Bool} {nodes : List S_tree_Node} {root g d wr : Int} {n : S_tree_Node} :
    M_rex_walk_add_sPOR ⟨s, i, e, ⟨nodes, root⟩, g, d, wr, true⟩ n = some (0, ⟨s, i, e, ⟨nodes, root⟩, g, d, wr, true⟩, nodes) := rfl

theorem range_a : ∃ st, M_class_Range 97 97 = some st := by
  have h : (C_class_Range 5 97 97).isSome = true := by kernel_rfl
  obtain ⟨st, hst⟩ := Option.isSome_iff_exists.1 h
  exact ⟨st, le_C_class_Range 5 (by rw [bigF_eq]; decide) _ _ st hst⟩

theorem atom_a {st : A4_uint64} (hst : M_class_Range 97 97 = some st) (S : SC_rex_walk_group_sPO) (k i : Nat) (hi : i < k) (hk : k ≤ 1000) (e : Bool) (root : Int) (nodes : List S_tree_Node) (g d : Int) (hl : nodes.length < 1024) :
    B_rex_walk_atom_sPO S ⟨aa k, i, e, ⟨nodes, root⟩, g, d, -1, false⟩ = some ((nodes.length : Int), ⟨aa k, ((i + 1 : Nat) : Int), e, ⟨nodes ++ [⟨1, 0, 0, 0, 0, 0, st⟩], nodes.length⟩, g, d, -1, false⟩, nodes ++ [⟨1, 0, 0, 0, 0, 0, st⟩]) := by
  have h97 : ixS (aa k) (i : Int) = some 97 := by
    rw [ixS_get (by rw [aa_len]; exact hi)]
    simp [aa]
  have one : M_rex_walk_one_sPOI ⟨aa k, ((i + 1 : Nat) : Int), e, ⟨nodes, root⟩, g, d, -1, false⟩ 97 = some ((nodes.length : Int), ⟨aa k, ((i + 1 : Nat) : Int), e, ⟨nodes ++ [⟨1, 0, 0, 0, 0, 0, st⟩], nodes.length⟩, g, d, -1, false⟩, nodes ++ [⟨1, 0, 0, 0, 0, 0, st⟩]) := by
    unfold M_rex_walk_one_sPOI
    rw [hst, Option.bind_some, add_new hl (may_one _ _)]
    rfl
  unfold B_rex_walk_atom_sPO
  simp only []
  rw [h97, Option.bind_some]
  simp only [show ((97 : Int) == 91) = false from rfl, show ((97 : Int) == 46) = false from rfl, show ((97 : Int) == 36) = false from rfl, show ((97 : Int) == 94) = false from rfl, show ((97 : Int) == 92) = false from rfl, iteB_false, Option.bind_some, Bool.false_and]
  rw [next_no k i (by omega) e ⟨nodes, root⟩ g d (-1) false 40 (by decide), Option.bind_some]
  simp only [iteB_false]
  rw [show IntKind.i64.wrap ((i : Int) + 1) = ((i + 1 : Nat) : Int) from ek64 (by omega)]
  cases e
  · simp only [iteB_false, Option.bind_some]
    rw [one]
    rfl
  · simp only [iteB_true, show ((97 : Int) == 42) = false from rfl, show ((97 : Int) == 43) = false from rfl, show ((97 : Int) == 63) = false from rfl, show ((97 : Int) == 123) = false from rfl, show ((97 : Int) == 124) = false from rfl, show ((97 : Int) == 41) = false from rfl, iteB_false, Option.bind_some]
    rw [one]
    rfl

/-- what nesting leaves -/
structure Nest (k : Nat) (r : Nat) (nodes : List S_tree_Node) (root n : Int) (full : Bool) : Prop where
  not : full = false → nodes.length = k + (k - 1 - r) ∧ 0 ≤ n ∧ n < nodes.length ∧ root = (nodes.length : Int) - 1 ∧ NOk nodes ∧ nodes.length ≤ 1024
  is : full = true → 1024 < k + (k - 1 - r)
theorem nest_cat (k : Nat) (hk : 1 ≤ k) (hk2 : k ≤ 1000) (s : List UInt8) (i : Int) (e : Bool) (nodes : List S_tree_Node) (g d : Int) (l : List Int) (hl : l = (List.range k).map fun j : Nat => (j : Int)) (hn : nodes.length = k) (ho : NOk nodes) :
    W (M_rex_walk_nest_sPOIO ⟨s, i, e, ⟨nodes, (k : Int) - 1⟩, g, d, -1, false⟩ 2 l) fun r => ∃ nodes' root n full, r = (n, ⟨s, i, e, ⟨nodes', root⟩, g, d, -1, full⟩, nodes') ∧ Nest k 0 nodes' root n full := by
  have ll : l.length = k := by rw [hl]; simp
  have lg : ∀ j : Nat, j < k → ixV l (j : Int) = some (j : Int) := by
    intro j hj
    refine ixV_nat ?_
    rw [hl, List.getElem?_map, List.getElem?_range hj]; rfl
  unfold M_rex_walk_nest_sPOIO
  rw [ll, show ((k : Int) == 0) = decide (k = 0) from beqN k 0, decide_eq_false (by omega), iteB_false]
  rw [show IntKind.i64.wrap ((k : Int) - 1) = ((k - 1 : Nat) : Int) from by rw [w64 (by omega) (by omega)]; omega, lg _ (by omega), Option.bind_some, show IntKind.i64.wrap ((k : Int) - 2) = ((k - 1 : Nat) : Int) - 1 from by rw [w64 (by omega) (by omega)]; omega]
  refine W.bind (W.mono (W.loop (fun st => ∃ (r : Nat) (nodes' : List S_tree_Node) (root n : Int) (full : Bool), r ≤ k - 1 ∧ st = (s, i, e, root, g, d, -1, full, nodes', n, (r : Int) - 1) ∧ Nest k r nodes' root n full) (fun st => (st.2.2.2.2.2.2.2.2.2.2 + 1).toNat) ⟨k - 1, nodes, (k : Int) - 1, ((k - 1 : Nat) : Int), false, Nat.le_refl _, rfl, ⟨fun _ => ⟨by omega, by omega, by omega, by omega, ho, by omega⟩, fun h => Bool.noConfusion h⟩⟩ ?_ (Q := fun o => ∃ nodes' root n full, o = (s, i, e, root, g, d, -1, full, nodes', n) ∧ Nest k 0 nodes' root n full)) ?_)
  · rintro _ ⟨r, nodes', root, n, full, hr, rfl, hN⟩
    unfold M_rex_walk_nest_sPOIO_L0
    refine W.iteP (fun hp => ?_) fun hp => W.ret ?_
    · have hr1 : 1 ≤ r := by omega
      have e1 : (r : Int) - 1 = ((r - 1 : Nat) : Int) := by omega
      have e2 : IntKind.i64.wrap (((r - 1 : Nat) : Int) - 1) = ((r - 1 : Nat) : Int) - 1 := w64 (by omega) (by omega)
      simp only [e1]
      rw [lg (r - 1) (by omega), Option.bind_some, e2]
      cases hf : full with
      | true =>
        have := hN.is hf
        rw [add_full, Option.bind_some]
        exact W.ret ⟨⟨r - 1, nodes', root, 0, true, by omega, rfl, ⟨fun h => Bool.noConfusion h, fun _ => by omega⟩⟩, by simp only; omega⟩
      | false =>
        obtain ⟨h1, h2, h3, h4, h5, h6⟩ := hN.not hf
        by_cases hlen : nodes'.length < 1024
        · have hm := may_cat (a := ((r - 1 : Nat) : Int)) (b := n) (i := nodes'.length) ⟨by omega, by omega⟩ ⟨h2, h3⟩
          rw [add_new hlen hm, Option.bind_some]
          refine W.ret ⟨⟨r - 1, _, _, _, false, by omega, rfl, ⟨fun _ => ⟨?_, Int.natCast_nonneg _, ?_, ?_, h5.snoc hm, ?_⟩, fun h => Bool.noConfusion h⟩⟩, by simp only; omega⟩
          · rw [List.length_append, List.length_singleton]; omega
          · show (nodes'.length : Int) < _
            rw [List.length_append, List.length_singleton]; omega
          · show (nodes'.length : Int) = _
            rw [List.length_append, List.length_singleton]; omega
          · rw [List.length_append, List.length_singleton]; omega
        · rw [add_over (by omega), Option.bind_some]
          exact W.ret ⟨⟨r - 1, nodes', root, 0, true, by omega, rfl, ⟨fun h => Bool.noConfusion h, fun _ => by omega⟩⟩, by simp only; omega⟩
    · obtain rfl : r = 0 := by omega
      exact ⟨nodes', root, n, full, rfl, hN⟩
  · rintro _ ⟨nodes', root, n, full, rfl, hN⟩
    exact W.ret ⟨nodes', root, n, full, rfl, hN⟩
theorem nest_alt (s : List UInt8) (i : Int) (e : Bool) (nodes : List S_tree_Node) (root g d : Int) (f : Bool) (n : Int) : M_rex_walk_nest_sPOIO ⟨s, i, e, ⟨nodes, root⟩, g, d, -1, f⟩ 3 [n] = some (n, ⟨s, i, e, ⟨nodes, root⟩, g, d, -1, f⟩, nodes) := by
  have hs : M_rex_walk_nest_sPOIO_L0 3 [n] (s, i, e, root, g, d, -1, f, nodes, n, IntKind.i64.wrap ((([n] : List Int).length : Int) - 2)) = some (.inr (s, i, e, root, g, d, -1, f, nodes, n)) := by
    have e1 : IntKind.i64.wrap ((([n] : List Int).length : Int) - 2) = -1 := by rw [w64 (by simp) (by simp)]; simp
    rw [e1]; rfl
  have h0 : ixV [n] (IntKind.i64.wrap ((([n] : List Int).length : Int) - 1)) = some n := by
    have e1 : IntKind.i64.wrap ((([n] : List Int).length : Int) - 1) = ((0 : Nat) : Int) := by rw [w64 (by simp) (by simp)]; simp
    rw [e1]; exact ixV_nat rfl
  unfold M_rex_walk_nest_sPOIO
  rw [show ((([n] : List Int).length : Int) == 0) = false from rfl, iteB_false, h0, Option.bind_some, loop_end hs]
  rfl

theorem branch_a {st : A4_uint64} (hst : M_class_Range 97 97 = some st) (S : SC_rex_walk_group_sPO) (hS : ∃ S', ∀ w, S.M_rex_walk_atom_sPO w = B_rex_walk_atom_sPO S' w) (k : Nat) (hk : 1 ≤ k) (hk2 : k ≤ 1000) (e : Bool) :
    W (B_rex_walk_branch_sPO S ⟨aa k, 0, e, ⟨[], 0⟩, 0, 0, -1, false⟩) fun r => ∃ nodes' root n full, r = (n, ⟨aa k, k, e, ⟨nodes', root⟩, 0, 0, -1, full⟩, nodes') ∧ Nest k 0 nodes' root n full := by
  obtain ⟨S', hS⟩ := hS
  unfold B_rex_walk_branch_sPO
  let o : S_tree_Node := ⟨1, 0, 0, 0, 0, 0, st⟩
  let rt : Nat → Int := fun j => if j = 0 then 0 else (j : Int) - 1
  refine W.bind (W.mono (W.loop (fun x => ∃ j : Nat, j ≤ k ∧ x = ((List.range j).map fun q : Nat => (q : Int), aa k, (j : Int), e, rt j, 0, 0, -1, false, List.replicate j o, false)) (fun x => ((k : Int) - x.2.2.1).toNat) ⟨0, Nat.zero_le _, rfl⟩ ?_ (Q := fun r => r = ((List.range k).map fun q : Nat => (q : Int), aa k, (k : Int), e, rt k, 0, 0, -1, false, List.replicate k o))) ?_)
  · rintro _ ⟨j, hj, rfl⟩
    unfold M_rex_walk_branch_sPO_L0
    simp only []
    rw [ok_yes, Option.bind_some, iteB_true]
    by_cases hlt : j < k
    · have h97 : ixS (aa k) (j : Int) = some 97 := by
        rw [ixS_get (by rw [aa_len]; exact hlt)]
        simp [aa]
      have hx : ∀ c : Int, c ≠ 97 → (iteB (!e) ((ixS (aa k) (j : Int)).bind fun x26 => some (x26 == c)) (some false) : Option Bool) = some false := by
        intro c hc
        cases e
        · rw [h97]
          show some ((97 : Int) == c) = some false
          rw [beq_eq_false_iff_ne.2 (Ne.symm hc)]
        · rfl
      rw [closes_no k j hlt, Option.bind_some, Option.bind_some, Bool.not_false, iteB_true, hx 42 (by decide), Option.bind_some, Bool.false_and, iteB_false, hx 94 (by decide), Option.bind_some, Bool.false_and, iteB_false, hS]
      rw [atom_a hst S' k j hlt hk2 e (rt j) (List.replicate j o) 0 0 (by simp; omega), Option.bind_some]
      simp only []
      rw [ok_yes, Option.bind_some, Bool.not_true, iteB_false, beqN, decide_eq_false (by omega), iteB_false, repeats_no k (j + 1) (by omega), Option.bind_some]
      simp only []
      refine W.need (okN_of (by simp; omega) (by simp; omega)) (W.ret ⟨⟨j + 1, by omega, ?_⟩, by simp only; omega⟩)
      have e1 : rt (j + 1) = ((List.replicate j o).length : Int) := by simp [rt]
      rw [List.range_succ, List.map_append, e1]
      have e2 : List.replicate (j + 1) o = List.replicate j o ++ [o] := List.replicate_succ'
      rw [e2]
      simp
      rfl
    · obtain rfl : j = k := by omega
      rw [closes_yes, Option.bind_some, Option.bind_some, Bool.not_true, iteB_false]
      exact W.ret rfl
  · rintro _ rfl
    simp only []
    have er : rt k = (k : Int) - 1 := by simp [rt]; omega
    rw [er]
    refine W.bind ((nest_cat k hk hk2 (aa k) k e (List.replicate k o) 0 0 _ rfl (by simp) ?_).mono ?_)
    · intro i n hn
      have : n = o := List.eq_of_mem_replicate (List.mem_of_getElem? hn)
      rw [this]; exact may_one _ _
    · rintro _ ⟨nodes', root, n, full, rfl, hN⟩
      exact W.ret ⟨nodes', root, n, full, rfl, hN⟩
theorem expr_a {st : A4_uint64} (hst : M_class_Range 97 97 = some st) (k : Nat) (hk : 1 ≤ k) (hk2 : k ≤ 1000) (e : Bool) :
    W (M_rex_walk_expression_sPO ⟨aa k, 0, e, ⟨[], 0⟩, 0, 0, -1, false⟩) fun r => ∃ nodes' root n full, r = (n, ⟨aa k, k, e, ⟨nodes', root⟩, 0, 0, -1, full⟩, nodes') ∧ Nest k 0 nodes' root n full := by
  obtain ⟨b, hb⟩ : ∃ b, bigF = b + 3 := ⟨4611686018427387901, by rw [bigF_eq]⟩
  unfold M_rex_walk_expression_sPO
  rw [hb]
  show W (B_rex_walk_expression_sPO (rSC_rex_walk_group_sPO (b + 2)) _) _
  unfold B_rex_walk_expression_sPO
  have hbr := branch_a hst (rSC_rex_walk_group_sPO (b + 1)) ⟨rSC_rex_walk_group_sPO b, fun w => rfl⟩ k hk hk2 e
  obtain ⟨r, er, nodes', root, n, full, rfl, hN⟩ := hbr
  have hs : M_rex_walk_expression_sPO_L0 (rSC_rex_walk_group_sPO (b + 2)) (([] : List Int), aa k, (0 : Int), e, (0 : Int), (0 : Int), (0 : Int), (-1 : Int), false, ([] : List S_tree_Node)) = some (.inr ([n], aa k, (k : Int), e, root, 0, 0, -1, full, nodes')) := by
    rw [M_rex_walk_expression_sPO_L0]
    simp only []
    have e1 : (rSC_rex_walk_group_sPO (b + 2)).M_rex_walk_branch_sPO ⟨aa k, 0, e, ⟨[], 0⟩, 0, 0, -1, false⟩ = some (n, ⟨aa k, k, e, ⟨nodes', root⟩, 0, 0, -1, full⟩, nodes') := er
    rw [e1, Option.bind_some]
    simp only []
    rw [okN_of (by simp) (by simp), need_true, ok_yes, Option.bind_some, Bool.not_true, iteB_false, next_no k k (Nat.le_refl _) e ⟨nodes', root⟩ 0 0 (-1) full 124 (by decide)]
    rfl
  refine W.bind (W.of (loop_end hs) ?_)
  simp only []
  rw [nest_alt, Option.bind_some]
  exact W.ret ⟨nodes', root, n, full, rfl, hN⟩

theorem right_of {nodes : List S_tree_Node} {root : Int} (hl : nodes.length ≤ 1024) (hr : 0 ≤ root ∧ root < nodes.length) (h : NOk nodes) : M_tree_Tree_Right ⟨nodes, root⟩ = some true := by
  refine W.eq ?_
  unfold M_tree_Tree_Right
  refine W.ite (fun hb => ?_) fun _ => ?_
  · simp only [Bool.or_eq_true, decide_eq_true_eq] at hb; omega
  refine W.bind (W.mono (W.list (l := nodes) (fun (_ : Unit) (i : Nat) => (i : Int)) (fun _ _ => True) ?_ ?_ () trivial (Q := fun o => o = .inl ())) fun o ho => by subst ho; exact W.ret rfl)
  · intro _ _
    unfold M_tree_Tree_Right_L0
    exact W.iteP (fun h => by simp only at h; omega) fun _ => W.ret rfl
  · intro _ i hi _
    unfold M_tree_Tree_Right_L0
    refine W.iteP (fun _ => ?_) fun h => by simp only at h; omega
    simp only []
    rw [ixV_get hi, Option.bind_some, h i _ (List.getElem?_eq_getElem hi), Option.bind_some]
    exact W.ret ⟨(), ek64 (by omega), trivial⟩

theorem parse_a (k : Nat) (hk : 1 ≤ k) (hk2 : k ≤ 1000) (e : Bool) : W (M_rex_Parse (aa k) e) fun r => (1024 < 2 * k - 1 ∧ r = (⟨[], 0⟩, 0, 8)) ∨ (2 * k - 1 ≤ 1024 ∧ ∃ nodes root, r = (⟨nodes, root⟩, 0, 0) ∧ M_tree_Tree_Right ⟨nodes, root⟩ = some true) := by
  obtain ⟨st, hst⟩ := range_a
  unfold M_rex_Parse
  rw [aa_len]
  refine W.iteP (fun h => by omega) fun _ => W.bind ((expr_a hst k hk hk2 e).mono ?_)
  rintro _ ⟨nodes', root, n, full, rfl, hN⟩
  simp only []
  rw [ok_yes, Option.bind_some, show decide ((k : Int) < (k : Int)) = false from decide_eq_false (by omega), Bool.and_false, iteB_false, Option.bind_some]
  simp only []
  rw [ok_yes, Option.bind_some, Bool.not_true, iteB_false]
  cases hf : full with
  | true => exact W.ret (.inl ⟨by have := hN.is hf; omega, rfl⟩)
  | false =>
    obtain ⟨h1, h2, h3, h4, h5, h6⟩ := hN.not hf
    exact W.ret (.inr ⟨by omega, nodes', root, rfl, right_of h6 ⟨by omega, by omega⟩ h5⟩)

theorem lawRexFull (p0 : Int) (k0 : okI .u8 p0) (p1 : Bool) (k1 : True) : M_boulterlaw19_RexFull p0 p1 = some true := by
  have h0 : (0 : Int) ≤ p0 ∧ p0 ≤ 255 := k0
  obtain ⟨k, hk⟩ : ∃ k : Nat, IntKind.i64.wrap ((500 : Int) + (Int.tmod (IntKind.i64.wrap p0) (30 : Int))) = (k : Int) ∧ 500 ≤ k ∧ k ≤ 529 := by
    have h1 : Int.tmod p0 30 = p0 % 30 := Int.tmod_eq_emod_of_nonneg h0.1
    rw [w64 (x := p0) (by omega) (by omega), h1, w64 (by omega) (by omega)]
    exact ⟨(500 + p0 % 30).toNat, by omega, by omega, by omega⟩
  obtain ⟨hk, hk1, hk2⟩ := hk
  refine W.eq ?_
  unfold M_boulterlaw19_RexFull
  have hL : ∀ x, M_boulterlaw19_RexFull_L0 p0 x = (match x with | (x1, x2) => iteB (decide (x2 < (k : Int))) ((ixV x1 x2).bind fun x4 => some (.inl ((x1.set x2.toNat (97 : UInt8)), IntKind.i64.wrap (x2 + (1 : Int))))) (some (.inr x1))) := by
    rintro ⟨x1, x2⟩
    unfold M_boulterlaw19_RexFull_L0
    rw [hk, Int.toNat_natCast, List.length_replicate]
  rw [hk, Int.toNat_natCast]
  refine W.need (by unfold mkN; exact decide_eq_true ⟨by omega, by omega, by omega⟩) (W.bind (W.mono (Q := fun r => r = aa k) (W.loop (fun s => ∃ i : Nat, i ≤ k ∧ s = (List.replicate i 97 ++ List.replicate (k - i) 0, (i : Int))) (fun s => ((k : Int) - s.2).toNat) ⟨0, Nat.zero_le _, by simp⟩ ?_) ?_))
  · rintro _ ⟨i, hi, rfl⟩
    rw [hL]
    refine W.iteP (fun hl => ?_) fun hl => W.ret ?_
    · have hi : i < k := by omega
      rw [ixV_get (i := i) (by simp; omega), Option.bind_some, ek64 (by omega), Int.toNat_natCast]
      refine W.ret ⟨⟨i + 1, hi, ?_⟩, by simp only; omega⟩
      obtain ⟨q, hq⟩ : ∃ q, k - i = q + 1 := ⟨k - i - 1, by omega⟩
      rw [hq, List.replicate_succ, List.set_append_right _ _ (by simp), List.length_replicate, Nat.sub_self, List.set_cons_zero, show k - (i + 1) = q by omega, List.replicate_succ', List.append_assoc]
      rfl
    · obtain rfl : i = k := by omega
      simp [aa]
  · rintro _ rfl
    refine W.bind ((parse_a k (by omega) (by omega) p1).mono ?_)
    rintro ⟨x5, x6, x7⟩ hx
    simp only []
    refine W.need (by unfold mkN; exact decide_eq_true ⟨by omega, by omega, by omega⟩) ?_
    have hz : M_rex_Parse (List.replicate (8193 : Int).toNat (0 : UInt8)) p1 = some (⟨[], 0⟩, 0, 12) := by
      unfold M_rex_Parse
      rw [List.length_replicate, show decide ((((8193 : Int).toNat : Nat) : Int) > 8192) = true from rfl, iteB_true]
    rw [hz, Option.bind_some]
    simp only []
    rw [iteB_bne, if_pos rfl]
    have e1 : IntKind.i64.wrap ((IntKind.i64.wrap ((2 : Int) * (k : Int))) - (1 : Int)) = 2 * (k : Int) - 1 := by rw [w64 (x := 2 * (k : Int)) (by omega) (by omega), w64 (by omega) (by omega)]
    rw [e1]
    have aw : ∀ {Q : Bool → Prop}, Q true → W ((M_boulterlaw19_awake).bind fun x12 => some x12) Q := fun h => W.bind (W.of comp_boulterlaw19_awake (W.ret h))
    rcases hx with ⟨h1, h2⟩ | ⟨h1, nodes, root, h2, h3⟩
    · obtain ⟨rfl, rfl, rfl⟩ : x5 = ⟨[], 0⟩ ∧ x6 = 0 ∧ x7 = 8 := by simpa using h2
      refine W.iteP (fun _ => ?_) fun h => by omega
      exact W.bind (aw (W.ret rfl))
    · obtain ⟨rfl, rfl, rfl⟩ : x5 = ⟨nodes, root⟩ ∧ x6 = 0 ∧ x7 = 0 := by simpa using h2
      refine W.iteP (fun h => by omega) fun _ => ?_
      rw [show ((0 : Int) == 0) = true from rfl, iteB_true, h3, Option.bind_some, Option.bind_some, iteB_true]
      exact W.bind (aw (W.ret rfl))
end Go.Av.L
