/-
  GroupsRow: what the expressions of up to six groups are parsed to.
-/
import Derived.Test.YtiodcbipjnmpgaaGrR
namespace Go.Av.L
open Go.Av Go.Lib
set_option linter.unusedVariables false
set_option linter.unusedSimpArgs false
def letter (b : Bool) : UInt8 := if b then 98 else 97
def typed (l : List Bool) : List UInt8 := l.flatMap fun b => [40, 91, letter b, 99, 93, 42, 41]
def setL (b : Bool) (c : UInt8) : Bool := (c == letter b) || c == 99
def word1 (b : Bool) : Int := if b then 51539607552 else 42949672960
theorem set_all : ∀ (b : Bool) (n : Fin 256), hasV ⟨0, word1 b, 0, 0⟩ (n.1 : Int) = setL b (UInt8.ofNat n.1) := by decide +kernel
theorem set_ok (b : Bool) (c : UInt8) : hasV ⟨0, word1 b, 0, 0⟩ (c.toNat : Int) = setL b c := by
 have h := set_all b ⟨c.toNat, by have := c.toNat_lt; omega⟩
 simp only [UInt8.ofNat_toNat] at h
 exact h
def rowB (ns : List S_tree_Node) (l : List Bool) : Bool := (List.range l.length).all fun i =>
 (match ns[3 * i]? with | some n => n.Kind == 1 && n.Set.w0 == 0 && n.Set.w1 == word1 (l.getD i false) && n.Set.w2 == 0 && n.Set.w3 == 0 | none => false) &&
 (match ns[3 * i + 1]? with | some n => n.Kind == 4 && n.A == ((3 * i : Nat) : Int) && n.Min == 0 && n.Max == -1 | none => false) &&
 (match ns[3 * i + 2]? with | some n => n.Kind == 5 && n.A == ((3 * i + 1 : Nat) : Int) && n.Group == (i : Int) + 1 | none => false) &&
 (!decide (i + 1 < l.length) || match ns[rowN l.length i]? with | some n => n.Kind == 2 && n.A == ((3 * i + 2 : Nat) : Int) && n.B == (rowN l.length (i + 1) : Int) | none => false)
theorem rowB_ok {ns : List S_tree_Node} {l : List Bool} (h : rowB ns l = true) : RowT ns l.length fun i c => setL (l.getD i false) c := by
 have h' := fun i hi => List.all_eq_true.1 h i (List.mem_range.2 hi)
 simp only [Bool.and_eq_true] at h'
 refine ⟨fun i hi => ?_, fun i hi => ?_, fun i hi => ?_, fun i hi => ?_⟩
 ·have g := (h' i hi).1.1.1
  cases hn : ns[3 * i]? with
  | none => rw [hn] at g; cases g
  | some n =>
   rw [hn] at g
   simp only [Bool.and_eq_true, beq_iff_eq] at g
   obtain ⟨⟨⟨⟨g1, g2⟩, g3⟩, g4⟩, g5⟩ := g
   refine ⟨n, rfl, g1, fun b => ?_⟩
   have e : n.Set = ⟨0, word1 (l.getD i false), 0, 0⟩ := by
    cases hs : n.Set
    simp only [hs] at g2 g3 g4 g5
    rw [g2, g3, g4, g5]
   rw [e]
   exact set_ok _ _
 ·have g := (h' i hi).1.1.2
  cases hn : ns[3 * i + 1]? with
  | none => rw [hn] at g; cases g
  | some n =>
   rw [hn] at g
   simp only [Bool.and_eq_true, beq_iff_eq] at g
   exact ⟨n, rfl, g.1.1.1, g.1.1.2, g.1.2, g.2⟩
 ·have g := (h' i hi).1.2
  cases hn : ns[3 * i + 2]? with
  | none => rw [hn] at g; cases g
  | some n =>
   rw [hn] at g
   simp only [Bool.and_eq_true, beq_iff_eq] at g
   exact ⟨n, rfl, g.1.1, g.1.2, g.2⟩
 ·have g := (h' i (by omega)).2
  rw [decide_eq_true hi, Bool.not_true, Bool.false_or] at g
  cases hn : ns[rowN l.length i]? with
  | none => rw [hn] at g; cases g
  | some n =>
   rw [hn] at g
   simp only [Bool.and_eq_true, beq_iff_eq] at g
   exact ⟨n, rfl, g.1.1, g.1.2, g.2⟩
def RowOk (t : S_tree_Tree) (l : List Bool) : Prop := M_tree_Tree_Right t = some true ∧ M_tree_Tree_Groups t = some (l.length : Int) ∧ ∃ a : Nat, t.Root = (a : Int) ∧
 ((l.length = 0 ∧ ∃ n, t.Nodes[a]? = some n ∧ n.Kind = 0) ∨ (0 < l.length ∧ a = rowN l.length 0 ∧ RowT t.Nodes l.length fun i c => setL (l.getD i false) c))
noncomputable def okB (l : List Bool) : Bool := match M_rex_Parse (typed l) true with
 | some (t, x, e) => x == 0 && e == 0 && (match M_tree_Tree_Right t with | some b => b | none => false) && (match M_tree_Tree_Groups t with | some g => g == (l.length : Int) | none => false) &&
  (if l.length = 0 then t.Root == 0 && (match t.Nodes[0]? with | some n => n.Kind == 0 | none => false) else t.Root == (rowN l.length 0 : Int) && rowB t.Nodes l)
 | none => false
theorem okB_ok {l : List Bool} (h : okB l = true) : ∃ t, M_rex_Parse (typed l) true = some (t, 0, 0) ∧ RowOk t l := by
 unfold okB at h
 cases hp : M_rex_Parse (typed l) true with
 | none => rw [hp] at h; cases h
 | some r =>
  obtain ⟨t, x, e⟩ := r
  rw [hp] at h
  simp only [Bool.and_eq_true, beq_iff_eq] at h
  obtain ⟨⟨⟨⟨rfl, rfl⟩, hr⟩, hg⟩, h⟩ := h
  refine ⟨t, rfl, ?_, ?_, ?_⟩
  ·cases e : M_tree_Tree_Right t with
   | none => rw [e] at hr; cases hr
   | some b => rw [e] at hr; simp only at hr; rw [hr]
  ·cases e : M_tree_Tree_Groups t with
   | none => rw [e] at hg; cases hg
   | some b => rw [e] at hg; simp only [beq_iff_eq] at hg; rw [hg]
  ·split at h
   ·rename_i h0
    simp only [Bool.and_eq_true, beq_iff_eq] at h
    refine ⟨0, h.1, .inl ⟨h0, ?_⟩⟩
    cases e : t.Nodes[0]? with
    | none => rw [e] at h; cases h.2
    | some n => rw [e] at h; simp only [beq_iff_eq] at h; exact ⟨n, rfl, h.2⟩
   ·rename_i h0
    simp only [Bool.and_eq_true, beq_iff_eq] at h
    exact ⟨_, h.1, .inr ⟨by omega, rfl, rowB_ok h.2⟩⟩
def allL : Nat → List (List Bool)
 | 0 => [[]]
 | n + 1 => (allL n).map (false :: ·) ++ (allL n).map (true :: ·)
theorem mem_allL : ∀ (l : List Bool), l ∈ allL l.length
 | [] => by simp [allL]
 | b :: l => by
  have := mem_allL l
  rw [List.length_cons]
  unfold allL
  cases b
  ·exact List.mem_append_left _ (List.mem_map.2 ⟨l, this, rfl⟩)
  ·exact List.mem_append_right _ (List.mem_map.2 ⟨l, this, rfl⟩)
set_option maxRecDepth 100000
theorem all0 : (allL 0).all okB = true := by kernel_rfl
theorem all1 : (allL 1).all okB = true := by kernel_rfl
theorem all2 : (allL 2).all okB = true := by kernel_rfl
theorem all3 : (allL 3).all okB = true := by kernel_rfl
theorem all4 : (allL 4).all okB = true := by kernel_rfl
theorem all5 : (allL 5).all okB = true := by kernel_rfl
theorem all6 : (allL 6).all okB = true := by kernel_rfl
theorem typed_ok (l : List Bool) (h : l.length ≤ 6) : ∃ t, M_rex_Parse (typed l) true = some (t, 0, 0) ∧ RowOk t l := by
 have hm := mem_allL l
 refine okB_ok ?_
 have hc : l.length = 0 ∨ l.length = 1 ∨ l.length = 2 ∨ l.length = 3 ∨ l.length = 4 ∨ l.length = 5 ∨ l.length = 6 := by omega
 rcases hc with e | e | e | e | e | e | e <;> rw [e] at hm
 ·exact List.all_eq_true.1 all0 l hm
 ·exact List.all_eq_true.1 all1 l hm
 ·exact List.all_eq_true.1 all2 l hm
 ·exact List.all_eq_true.1 all3 l hm
 ·exact List.all_eq_true.1 all4 l hm
 ·exact List.all_eq_true.1 all5 l hm
 ·exact List.all_eq_true.1 all6 l hm
end Go.Av.L
