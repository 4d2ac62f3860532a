/-
  GroupsRow: a tree of groups in a row, each of any number of bytes of a set: what it matches; what a run over it takes.
-/
import Derived.Test.YtiodcbipjnmpgaaGrM
namespace Go.Av.L
open Go.Av Go.Lib
set_option linter.unusedVariables false
set_option linter.unusedSimpArgs false
structure Cut (ns : List S_tree_Node) (s : List UInt8) (f : Nat) (a : Nat) (t : Int) (i j k : Nat) : Prop where
 lo : i ≤ k
 hi : k ≤ j
 is : i < k → Mt ns s f 0 i k ∧ Mt ns s a t k j
 top : ∀ q, k < q → q ≤ j → ¬ (Mt ns s f 0 i q ∧ Mt ns s a t q j)
inductive Lg (ns : List S_tree_Node) (s : List UInt8) : Nat → Int → Nat → Nat → List (Int × Nat × Nat) → Prop where
 | leaf {a : Nat} {n : S_tree_Node} {t : Int} {i j : Nat} : ns[a]? = some n → n.Kind ≠ 2 → n.Kind ≠ 3 → n.Kind ≠ 4 → n.Kind ≠ 5 → Lg ns s a t i j []
 | group {a x : Nat} {n : S_tree_Node} {t : Int} {i j : Nat} {l} : ns[a]? = some n → n.Kind = 5 → n.A = x → Lg ns s x 0 i j l → Lg ns s a t i j ((n.Group, i, j) :: l)
 | altL {a x : Nat} {n : S_tree_Node} {t : Int} {i j : Nat} {l} : ns[a]? = some n → n.Kind = 3 → n.A = x → Mt ns s x 0 i j → Lg ns s x 0 i j l → Lg ns s a t i j l
 | altR {a x y : Nat} {n : S_tree_Node} {t : Int} {i j : Nat} {l} : ns[a]? = some n → n.Kind = 3 → n.A = x → n.B = y → ¬ Mt ns s x 0 i j → Lg ns s y 0 i j l → Lg ns s a t i j l
 | cat {a x y : Nat} {n : S_tree_Node} {t : Int} {i j k : Nat} {l1 l2} : ns[a]? = some n → n.Kind = 2 → n.A = x → n.B = y → Cut ns s x y 0 i j k → Lg ns s x 0 i k l1 → Lg ns s y 0 k j l2 → Lg ns s a t i j (l1 ++ l2)
 | repEnd {a : Nat} {n : S_tree_Node} {t : Int} {i : Nat} : ns[a]? = some n → n.Kind = 4 → n.Min ≤ t → Lg ns s a t i i []
 | repStep {a x : Nat} {n : S_tree_Node} {t : Int} {i j k : Nat} {l1 l2} : ns[a]? = some n → n.Kind = 4 → n.A = x → t ≠ n.Max → (i = j → t < n.Min) → Cut ns s x a (nextT n t) i j k → Lg ns s x 0 i k l1 → Lg ns s a (nextT n t) k j l2 → Lg ns s a t i j (l1 ++ l2)
def far (S : UInt8 → Bool) (x : List UInt8) (p : Nat) : Nat := p + ((x.drop p).takeWhile S).length
theorem far_ge (S : UInt8 → Bool) (x : List UInt8) (p : Nat) : p ≤ far S x p := Nat.le_add_right _ _
theorem far_in {S : UInt8 → Bool} {x : List UInt8} {p k : Nat} (h1 : p ≤ k) (h2 : k < far S x p) : ∃ b, x[k]? = some b ∧ S b = true := by
 unfold far at h2
 have hk : k - p < ((x.drop p).takeWhile S).length := by omega
 have h := List.getElem_mem hk
 have h3 := List.all_eq_true.1 List.all_takeWhile _ h
 refine ⟨_, ?_, h3⟩
 have e : ((x.drop p).takeWhile S) <+: x.drop p := List.takeWhile_prefix S
 have e2 := e.getElem hk
 rw [e2, List.getElem_drop]
 have hl := e.length_le
 rw [List.length_drop] at hl
 rw [List.getElem?_eq_getElem (by omega)]
 congr 2
 omega
theorem takeWhile_stop {S : UInt8 → Bool} : ∀ (l : List UInt8) (b : UInt8), l[(l.takeWhile S).length]? = some b → S b = false
 | [], b, h => by simp at h
 | c :: l, b, h => by
  by_cases hc : S c = true
  ·rw [List.takeWhile_cons_of_pos hc, List.length_cons, List.getElem?_cons_succ] at h
   exact takeWhile_stop l b h
  ·rw [List.takeWhile_cons_of_neg hc] at h
   simp at h
   rw [← h]; simpa using hc
theorem far_stop {S : UInt8 → Bool} {x : List UInt8} {p : Nat} {b : UInt8} (h : x[far S x p]? = some b) : S b = false := by
 refine takeWhile_stop (x.drop p) b ?_
 rw [List.getElem?_drop]
 exact h
theorem far_le {S : UInt8 → Bool} {x : List UInt8} {p : Nat} (h : p ≤ x.length) : far S x p ≤ x.length := by
 unfold far
 have := (List.takeWhile_prefix S (l := x.drop p)).length_le
 rw [List.length_drop] at this
 omega
def rowN (m i : Nat) : Nat := if i + 1 = m then 3 * i + 2 else 3 * m + (m - 2 - i)
structure RowT (ns : List S_tree_Node) (m : Nat) (S : Nat → UInt8 → Bool) : Prop where
 one : ∀ i, i < m → ∃ n, ns[3 * i]? = some n ∧ n.Kind = 1 ∧ ∀ b : UInt8, hasV n.Set (b.toNat : Int) = S i b
 rep : ∀ i, i < m → ∃ n, ns[3 * i + 1]? = some n ∧ n.Kind = 4 ∧ n.A = (3 * i : Nat) ∧ n.Min = 0 ∧ n.Max = -1
 grp : ∀ i, i < m → ∃ n, ns[3 * i + 2]? = some n ∧ n.Kind = 5 ∧ n.A = (3 * i + 1 : Nat) ∧ n.Group = (i : Int) + 1
 cat : ∀ i, i + 1 < m → ∃ n, ns[rowN m i]? = some n ∧ n.Kind = 2 ∧ n.A = (3 * i + 2 : Nat) ∧ n.B = (rowN m (i + 1) : Nat)
section
variable {ns : List S_tree_Node} {m : Nat} {S : Nat → UInt8 → Bool} {x : List UInt8}
theorem row_one (h : RowT ns m S) {i : Nat} (hi : i < m) {t : Int} {p q : Nat} : Mt ns x (3 * i) t p q ↔ q = p + 1 ∧ ∃ b, x[p]? = some b ∧ S i b = true := by
 obtain ⟨n, h1, h2, h3⟩ := h.one i hi
 rw [inv1 h1 h2]
 simp only [h3]
theorem nextT_0 {n : S_tree_Node} (h1 : n.Min = 0) (h2 : n.Max = -1) : nextT n 0 = 0 := by unfold nextT; rw [h1, h2]; rfl
theorem row_rep (h : RowT ns m S) {i : Nat} (hi : i < m) : ∀ (d p q : Nat), q - p = d → (Mt ns x (3 * i + 1) 0 p q ↔ p ≤ q ∧ ∀ k, p ≤ k → k < q → ∃ b, x[k]? = some b ∧ S i b = true) := by
 obtain ⟨n, h1, h2, h3, h4, h5⟩ := h.rep i hi
 intro d
 induction d with
 | zero =>
  intro p q hd
  rw [inv4 h1 h2 h3, h4]
  constructor
  ·rintro (⟨_, rfl⟩ | ⟨_, k, hk, m1, m2⟩)
   ·exact ⟨Nat.le_refl _, fun k h1 h2 => by omega⟩
   ·have := m1.le
    have := m2.le
    have := hk (by omega)
    omega
  ·rintro ⟨hpq, _⟩
   exact .inl ⟨by omega, by omega⟩
 | succ d ih =>
  intro p q hd
  rw [inv4 h1 h2 h3, h4, nextT_0 h4 h5]
  constructor
  ·rintro (⟨_, rfl⟩ | ⟨_, k, hk, m1, m2⟩)
   ·omega
   ·rw [row_one h hi] at m1
    obtain ⟨rfl, hb⟩ := m1
    rw [ih (p + 1) q (by omega)] at m2
    refine ⟨by omega, fun k h6 h7 => ?_⟩
    by_cases e : k = p
    ·subst e; exact hb
    ·exact m2.2 k (by omega) h7
  ·rintro ⟨hpq, ha⟩
   refine .inr ⟨by omega, p + 1, fun h => by omega, (row_one h hi).2 ⟨rfl, ha p (Nat.le_refl _) (by omega)⟩, ?_⟩
   rw [ih (p + 1) q (by omega)]
   exact ⟨by omega, fun k h6 h7 => ha k (by omega) h7⟩
theorem row_grp (h : RowT ns m S) {i : Nat} (hi : i < m) {t : Int} {p q : Nat} : Mt ns x (3 * i + 2) t p q ↔ p ≤ q ∧ q ≤ far (S i) x p := by
 obtain ⟨n, h1, h2, h3, h4⟩ := h.grp i hi
 rw [inv5 h1 h2 h3, row_rep h hi (q - p) p q rfl]
 constructor
 ·rintro ⟨hpq, ha⟩
  refine ⟨hpq, ?_⟩
  by_cases e : q ≤ far (S i) x p
  ·exact e
  ·obtain ⟨b, hb1, hb2⟩ := ha (far (S i) x p) (far_ge _ _ _) (by omega)
   rw [far_stop hb1] at hb2
   cases hb2
 ·rintro ⟨hpq, hq⟩
  exact ⟨hpq, fun k h6 h7 => far_in h6 (by omega)⟩
def plc (S : Nat → UInt8 → Bool) (x : List UInt8) : Nat → Nat
 | 0 => 0
 | i + 1 => far (S i) x (plc S x i)
theorem plc_le : ∀ (i : Nat), plc S x i ≤ x.length
 | 0 => Nat.zero_le _
 | i + 1 => far_le (plc_le i)
theorem plc_step (i : Nat) : plc S x i ≤ plc S x (i + 1) := far_ge _ _ _
theorem row_mt (h : RowT ns m S) (he : plc S x m = x.length) : ∀ (d i : Nat), i + 1 + d = m → ∀ t : Int, Mt ns x (rowN m i) t (plc S x i) x.length := by
 intro d
 induction d with
 | zero =>
  intro i hd t
  have e : rowN m i = 3 * i + 2 := if_pos (by omega)
  rw [e, row_grp h (by omega)]
  refine ⟨plc_le i, ?_⟩
  show x.length ≤ plc S x (i + 1)
  rw [show i + 1 = m from by omega, he]
  exact Nat.le_refl _
 | succ d ih =>
  intro i hd t
  obtain ⟨n, h1, h2, h3, h4⟩ := h.cat i (by omega)
  rw [inv2 h1 h2 h3 h4]
  exact ⟨plc S x (i + 1), (row_grp h (by omega)).2 ⟨plc_step i, Nat.le_refl _⟩, ih (i + 1) (by omega) 0⟩
theorem lg_rep (h : RowT ns m S) {i : Nat} (hi : i < m) : ∀ (d p q : Nat), q - p = d → Mt ns x (3 * i + 1) 0 p q → Lg ns x (3 * i + 1) 0 p q [] := by
 obtain ⟨n, h1, h2, h3, h4, h5⟩ := h.rep i hi
 obtain ⟨o, g1, g2, g3⟩ := h.one i hi
 intro d
 induction d with
 | zero =>
  intro p q hd hm
  obtain rfl : p = q := by have := hm.le; omega
  exact .repEnd h1 h2 (by omega)
 | succ d ih =>
  intro p q hd hm
  have hm' := (row_rep h hi (q - p) p q rfl).1 hm
  have hr : Mt ns x (3 * i + 1) 0 (p + 1) q := (row_rep h hi (q - (p + 1)) (p + 1) q rfl).2 ⟨by omega, fun k h6 h7 => hm'.2 k (by omega) h7⟩
  have h7 := ih (p + 1) q (by omega) hr
  refine Lg.repStep (k := p + 1) (l1 := []) (l2 := []) h1 h2 h3 (by omega) (fun e => by omega) ⟨by omega, by omega, fun _ => ⟨(row_one h hi).2 ⟨rfl, hm'.2 p (Nat.le_refl _) (by omega)⟩, ?_⟩, ?_⟩ (.leaf g1 (by omega) (by omega) (by omega) (by omega)) ?_
  ·rw [nextT_0 h4 h5]; exact hr
  ·rintro k' hk1 hk2 ⟨m1, _⟩
   have := ((row_one h hi).1 m1).1
   omega
  ·rw [nextT_0 h4 h5]; exact h7
theorem lg_grp (h : RowT ns m S) {i : Nat} (hi : i < m) {t : Int} {p q : Nat} (hm : Mt ns x (3 * i + 2) 0 p q) : Lg ns x (3 * i + 2) t p q [((i : Int) + 1, p, q)] := by
 obtain ⟨n, h1, h2, h3, h4⟩ := h.grp i hi
 rw [← h4]
 exact .group h1 h2 h3 (lg_rep h hi (q - p) p q rfl ((inv5 h1 h2 h3).1 hm))
def tk (S : Nat → UInt8 → Bool) (x : List UInt8) : Nat → Nat → List (Int × Nat × Nat)
 | 0, i => []
 | d + 1, i => ((i : Int) + 1, plc S x i, plc S x (i + 1)) :: tk S x d (i + 1)
theorem row_lg (h : RowT ns m S) (he : plc S x m = x.length) : ∀ (d i : Nat), i + 1 + d = m → ∀ t : Int, Lg ns x (rowN m i) t (plc S x i) x.length (tk S x (d + 1) i) := by
 intro d
 induction d with
 | zero =>
  intro i hd t
  have e : rowN m i = 3 * i + 2 := if_pos (by omega)
  have e2 : plc S x (i + 1) = x.length := by rw [show i + 1 = m from by omega, he]
  show Lg _ _ _ _ _ _ [((i : Int) + 1, plc S x i, plc S x (i + 1))]
  have hm := row_mt h he 0 i hd 0
  rw [e] at hm ⊢
  rw [e2]
  exact lg_grp h (by omega) hm
 | succ d ih =>
  intro i hd t
  obtain ⟨n, h1, h2, h3, h4⟩ := h.cat i (by omega)
  have hg : Mt ns x (3 * i + 2) 0 (plc S x i) (plc S x (i + 1)) := (row_grp h (by omega)).2 ⟨plc_step i, Nat.le_refl _⟩
  refine Lg.cat (k := plc S x (i + 1)) (l1 := [((i : Int) + 1, plc S x i, plc S x (i + 1))]) h1 h2 h3 h4 ⟨plc_step i, plc_le _, fun _ => ⟨hg, row_mt h he d (i + 1) (by omega) 0⟩, ?_⟩ (lg_grp h (by omega) hg) (ih (i + 1) (by omega) 0)
  rintro q hq1 hq2 ⟨m1, _⟩
  have := ((row_grp h (by omega)).1 m1).2
  have e : far (S i) x (plc S x i) = plc S x (i + 1) := rfl
  omega
end
end Go.Av.L
