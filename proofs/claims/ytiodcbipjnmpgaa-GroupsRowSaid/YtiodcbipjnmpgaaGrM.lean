/-
  Groups: what a tree matches, as a rule; of each kind what it says.
-/
import Derived.Test.YtiodcbipjnmpgaaDfaA
import Derived.Test.YtiodcbipjnmpgaaAvNum
namespace Go.Av.L
open Go.Av Go.Lib
set_option linter.unusedVariables false
set_option linter.unusedSimpArgs false
def nextT (n : S_tree_Node) (t : Int) : Int := if n.Max < 0 then mn (t + 1) n.Min else t + 1
inductive Mt (ns : List S_tree_Node) (s : List UInt8) : Nat → Int → Nat → Nat → Prop where
 | empty {a : Nat} {n : S_tree_Node} {t : Int} {i : Nat} : ns[a]? = some n → n.Kind = 0 → Mt ns s a t i i
 | one {a : Nat} {n : S_tree_Node} {t : Int} {i : Nat} {b : UInt8} : ns[a]? = some n → n.Kind = 1 → s[i]? = some b → hasV n.Set (b.toNat : Int) = true → Mt ns s a t i (i + 1)
 | front {a : Nat} {n : S_tree_Node} {t : Int} : ns[a]? = some n → n.Kind = 6 → Mt ns s a t 0 0
 | back {a : Nat} {n : S_tree_Node} {t : Int} : ns[a]? = some n → n.Kind = 7 → Mt ns s a t s.length s.length
 | altL {a x : Nat} {n : S_tree_Node} {t : Int} {i j : Nat} : ns[a]? = some n → n.Kind = 3 → n.A = x → Mt ns s x 0 i j → Mt ns s a t i j
 | altR {a x : Nat} {n : S_tree_Node} {t : Int} {i j : Nat} : ns[a]? = some n → n.Kind = 3 → n.B = x → Mt ns s x 0 i j → Mt ns s a t i j
 | group {a x : Nat} {n : S_tree_Node} {t : Int} {i j : Nat} : ns[a]? = some n → n.Kind = 5 → n.A = x → Mt ns s x 0 i j → Mt ns s a t i j
 | cat {a x y : Nat} {n : S_tree_Node} {t : Int} {i k j : Nat} : ns[a]? = some n → n.Kind = 2 → n.A = x → n.B = y → Mt ns s x 0 i k → Mt ns s y 0 k j → Mt ns s a t i j
 | repEnd {a : Nat} {n : S_tree_Node} {t : Int} {i : Nat} : ns[a]? = some n → n.Kind = 4 → n.Min ≤ t → Mt ns s a t i i
 | repStep {a x : Nat} {n : S_tree_Node} {t : Int} {i k j : Nat} : ns[a]? = some n → n.Kind = 4 → n.A = x → t ≠ n.Max → (k = i → t < n.Min) → Mt ns s x 0 i k → Mt ns s a (nextT n t) k j → Mt ns s a t i j
theorem Mt.le {ns : List S_tree_Node} {s : List UInt8} {a : Nat} {t : Int} {i j : Nat} (m : Mt ns s a t i j) : i ≤ j := by
 induction m <;> omega
section
variable {ns : List S_tree_Node} {s : List UInt8} {a : Nat} {nd : S_tree_Node} {t : Int} {i j : Nat}
theorem inv0 (hx : ns[a]? = some nd) (hk : nd.Kind = 0) : Mt ns s a t i j ↔ j = i := by
 constructor
 ·intro m
  cases m <;> simp_all
 ·rintro rfl; exact .empty hx hk
theorem inv6 (hx : ns[a]? = some nd) (hk : nd.Kind = 6) : Mt ns s a t i j ↔ i = 0 ∧ j = 0 := by
 constructor
 ·intro m
  cases m <;> simp_all
 ·rintro ⟨rfl, rfl⟩; exact .front hx hk
theorem inv7 (hx : ns[a]? = some nd) (hk : nd.Kind = 7) : Mt ns s a t i j ↔ i = s.length ∧ j = s.length := by
 constructor
 ·intro m
  cases m <;> simp_all
 ·rintro ⟨rfl, rfl⟩; exact .back hx hk
theorem inv1 (hx : ns[a]? = some nd) (hk : nd.Kind = 1) : Mt ns s a t i j ↔ j = i + 1 ∧ ∃ b, s[i]? = some b ∧ hasV nd.Set (b.toNat : Int) = true := by
 constructor
 ·intro m
  cases m <;> simp_all
 ·rintro ⟨rfl, b, h1, h2⟩; exact .one hx hk h1 h2
theorem inv3 {x y : Nat} (hx : ns[a]? = some nd) (hk : nd.Kind = 3) (ha : nd.A = x) (hb : nd.B = y) : Mt ns s a t i j ↔ Mt ns s x 0 i j ∨ Mt ns s y 0 i j := by
 constructor
 ·intro m
  cases m with
  | altL h k e m => rw [hx] at h; cases h; rw [ha] at e; cases Int.ofNat.inj e; exact .inl m
  | altR h k e m => rw [hx] at h; cases h; rw [hb] at e; cases Int.ofNat.inj e; exact .inr m
  | _ => simp_all
 ·rintro (m | m)
  ·exact .altL hx hk ha m
  ·exact .altR hx hk hb m
theorem inv5 {x : Nat} (hx : ns[a]? = some nd) (hk : nd.Kind = 5) (ha : nd.A = x) : Mt ns s a t i j ↔ Mt ns s x 0 i j := by
 constructor
 ·intro m
  cases m with
  | group h k e m => rw [hx] at h; cases h; rw [ha] at e; cases Int.ofNat.inj e; exact m
  | _ => simp_all
 ·exact fun m => .group hx hk ha m
theorem inv2 {x y : Nat} (hx : ns[a]? = some nd) (hk : nd.Kind = 2) (ha : nd.A = x) (hb : nd.B = y) : Mt ns s a t i j ↔ ∃ k, Mt ns s x 0 i k ∧ Mt ns s y 0 k j := by
 constructor
 ·intro m
  cases m with
  | cat h k e1 e2 m1 m2 => rw [hx] at h; cases h; rw [ha] at e1; rw [hb] at e2; cases Int.ofNat.inj e1; cases Int.ofNat.inj e2; exact ⟨_, m1, m2⟩
  | _ => simp_all
 ·rintro ⟨k, m1, m2⟩; exact .cat hx hk ha hb m1 m2
theorem inv4 {x : Nat} (hx : ns[a]? = some nd) (hk : nd.Kind = 4) (ha : nd.A = x) : Mt ns s a t i j ↔ (nd.Min ≤ t ∧ j = i) ∨ (t ≠ nd.Max ∧ ∃ k, (k = i → t < nd.Min) ∧ Mt ns s x 0 i k ∧ Mt ns s a (nextT nd t) k j) := by
 constructor
 ·intro m
  cases m with
  | repEnd h k e => rw [hx] at h; cases h; exact .inl ⟨e, rfl⟩
  | repStep h k e1 e2 e3 m1 m2 => rw [hx] at h; cases h; rw [ha] at e1; cases Int.ofNat.inj e1; exact .inr ⟨e2, _, e3, m1, m2⟩
  | _ => simp_all
 ·rintro (⟨h, rfl⟩ | ⟨h1, k, h2, m1, m2⟩)
  ·exact .repEnd hx hk h
  ·exact .repStep hx hk ha h1 h2 m1 m2
end
end Go.Av.L
