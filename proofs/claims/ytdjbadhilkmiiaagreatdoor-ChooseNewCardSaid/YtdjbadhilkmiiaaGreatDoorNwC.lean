/-
 A part.
-/
import Derived.Test.YtdjbadhilkmiiaaGreatDoorNwB
import Derived.Test.YtdjbadhilkmiiaaGreatDoorAvSm
namespace Go.Av.L
open Go.Av Go.Lib
set_option linter.unusedVariables false
set_option linter.unusedSimpArgs false
theorem S6 {s p : List UInt8} (hs : s.length ≤ 8192) (hp : p.length = 2) {i : Nat} (hi : i ≤ s.length) (gl : Bool) (z : Ad) : Co ⟨s, (i : Int), gl, z⟩ p = bif occAt s p (i + 1) then some (((s[i]?.getD 0).toNat : Int), true, ⟨s, ((i + 3 : Nat) : Int), gl, z⟩) else some (0, false, ⟨s, (i : Int), gl, z⟩) := by
 have hw : p ≠ [] := by intro e; rw [e] at hp; cases hp
 unfold Co
 simp only
 rw [J4 (x := (i : Int) + 3) (by omega) (by omega), J4 (x := (i : Int) + 1) (by omega) (by omega)]
 have e : Ac (decide ((i : Int) + 3 > (s.length : Int))) (some true) ((HX s (some ((i : Int) + 1)) (some ((i : Int) + 3))).bind fun x2 => some (!(x2 == p))) = some (!(occAt s p (i + 1))) := by
  rw [BH, K0 hw, hp]
  split
  ·rw [decide_eq_false (by omega)]; rfl
  ·rw [decide_eq_true (by omega), show (i : Int) + 1 = ((i + 1 : Nat) : Int) by omega, show (i : Int) + 3 = ((i + 3 : Nat) : Int) by omega, II (by omega) (by omega), Option.bind_some, Bool.true_and, show i + 3 - (i + 1) = 2 by omega]
 rw [e, Option.bind_some]
 cases h2 : occAt s p (i + 1) with
 | false => rfl
 | true =>
  have := Fe hw h2
  rw [Bool.not_true, AX, CP (by omega), Option.bind_some, cond_true, List.getElem?_eq_getElem (by omega)]
  rfl
def Mb (s : List UInt8) (j : Nat) : Option Nat :=
 bif (Lib.cut (s.drop j) [58, 93]).2.2 then (bif KQ (Lib.cut (s.drop j) [58, 93]).1 then some (j + (Lib.cut (s.drop j) [58, 93]).1.length + 2) else none) else none
theorem NA (s : List UInt8) (j : Nat) : ((Lib.cut (s.drop j) [58, 93]).2.2 = false ∧ ∀ k, occAt s [58, 93] (j + k) = false) ∨ (∃ n, (Lib.cut (s.drop j) [58, 93]).2.2 = true ∧ (Lib.cut (s.drop j) [58, 93]).1 = (s.drop j).take n ∧ occAt s [58, 93] (j + n) = true ∧ ∀ k, k < n → occAt s [58, 93] (j + k) = false) := by
 have occ : ∀ k, occAt (s.drop j) [58, 93] k = occAt s [58, 93] (j + k) := fun k => by unfold occAt; rw [List.drop_drop]
 rcases Lib.index_spec (s.drop j) [58, 93] with ⟨h1, h2⟩ | ⟨n, h1, h2, h3, h4⟩
 ·refine .inl ⟨?_, fun k => ?_⟩
  ·unfold Lib.cut; rw [if_neg (by omega)]
  ·by_cases hk : k ≤ (s.drop j).length
   ·rw [← occ]; exact h2 k hk
   ·cases e : occAt s [58, 93] (j + k)
    ·rfl
    ·have := Fe (by simp) e
     rw [List.length_drop] at hk
     simp only [List.length_cons, List.length_nil] at this
     omega
 ·refine .inr ⟨n, ?_, ?_, by rw [← occ]; exact h3, fun k hk => by rw [← occ]; exact h4 k hk⟩
  ·unfold Lib.cut; rw [if_pos (by omega)]
  ·unfold Lib.cut; rw [if_pos (by omega), h1, Int.toNat_natCast]
theorem Sz {s : List UInt8} {j m : Nat} (h : Mb s j = some m) : j < m ∧ m ≤ s.length := by
 unfold Mb at h
 rcases NA s j with ⟨h1, _⟩ | ⟨n, h1, h2, h3, _⟩
 ·rw [h1] at h; cases h
 ·rw [h1, cond_true, h2] at h
  have := Fe (by simp) h3
  simp only [List.length_cons, List.length_nil] at this
  cases ho : KQ ((s.drop j).take n) <;> rw [ho] at h
  ·cases h
  ·rw [cond_true, Option.some.injEq, List.length_take, List.length_drop] at h
   omega
theorem Rw {s : List UInt8} (hs : s.length ≤ 8192) {j : Nat} (hj : j ≤ s.length) (gl : Bool) (z : Ad) : W (D4 ⟨s, (j : Int), gl, z⟩) fun r => match Mb s j with | some m => r.1 = true ∧ ∃ z', r.2 = ⟨s, (m : Int), gl, z'⟩ | none => r.1 = false := by
 unfold D4 Mb
 dsimp only
 rw [L4 hj, Option.bind_some]
 refine W.Ca (decide_eq_true (by rw [List.length_drop]; omega)) ?_
 cases hc : (Lib.cut (s.drop j) [58, 93]).2.2 with
 | false => exact W.ret rfl
 | true =>
  have hl : j + (Lib.cut (s.drop j) [58, 93]).1.length ≤ s.length := by
   unfold Lib.cut
   split
   ·rw [List.length_take, List.length_drop]; omega
   ·rw [List.length_drop]; omega
  rw [Bool.not_true, AX, cond_true]
  refine W.bind ((WE _).mono ?_)
  rintro ⟨x2, x3⟩ e
  dsimp only at e
  subst e
  refine W.any (J8 _ _) fun x4 => W.ret ?_
  cases ho : KQ (Lib.cut (s.drop j) [58, 93]).1 with
  | false => rfl
  | true =>
   refine ⟨rfl, x4, ?_⟩
   rw [J4 (x := (((Lib.cut (s.drop j) [58, 93]).1).length : Int) + 2) (by omega) (by omega), J4 (by omega) (by omega)]
   congr 1
theorem Rz {s : List UInt8} (hs : s.length ≤ 8192) {j : Nat} (hj : j ≤ s.length) : W (Av.loop (Cu s) (j : Int)) fun k => match (Lib.cut (s.drop j) [58, 93]).2.2 with | true => k = ((j + (Lib.cut (s.drop j) [58, 93]).1.length : Nat) : Int) ∧ j + (Lib.cut (s.drop j) [58, 93]).1.length + 2 ≤ s.length | false => (s.length : Int) ≤ k := by
 have key : ∀ (n i : Nat), i + n = s.length → (∀ k, j ≤ k → k < i → occAt s [58, 93] k = false) → j ≤ i → W (Av.loop (Cu s) (i : Int)) fun k => ∃ m : Nat, k = (m : Int) ∧ m ≤ s.length ∧ (∀ k, j ≤ k → k < m → occAt s [58, 93] k = false) ∧ j ≤ m ∧ (m < s.length → occAt s [58, 93] m = true) := by
  intro n
  induction n with
  | zero =>
   intro i hi h hji
   refine W.MH ?_
   rw [Cu, BH, if_neg (by omega), Option.bind_some]
   exact W.ret ⟨i, rfl, by omega, h, hji, fun h => by omega⟩
  | succ n ih =>
   intro i hi h hji
   refine W.MH ?_
   rw [Cu, BH, if_pos (by omega), ER (by simp) (by omega) (by simp), Option.bind_some, Option.bind_some]
   cases ho : occAt s [58, 93] i with
   | true => exact W.ret ⟨i, rfl, by omega, h, hji, fun _ => ho⟩
   | false =>
    rw [Bool.not_false, BT, Ff (by omega)]
    exact W.ret (ih (i + 1) (by omega) (fun k h1 h2 => by
     by_cases e : k = i
     ·subst e; exact ho
     ·exact h k h1 (by omega)) (by omega))
 refine (key (s.length - j) j (by omega) (fun k h1 h2 => by omega) (Nat.le_refl j)).mono ?_
 rintro k ⟨m, rfl, hm, h1, h2, h3⟩
 rcases NA s j with ⟨g1, g2⟩ | ⟨n, g1, g2, g3, g4⟩
 ·rw [g1]
  by_cases hl : m < s.length
  ·have := h3 hl
   rw [show m = j + (m - j) by omega, g2] at this
   cases this
  ·dsimp only; omega
 ·rw [g1, g2]
  have hle := Fe (by simp) g3
  simp only [List.length_cons, List.length_nil] at hle
  have e : m = j + n := by
   rcases Nat.lt_trichotomy m (j + n) with h | h | h
   ·have := h3 (by omega)
    rw [show m = j + (m - j) by omega, g4 _ (by omega)] at this
    cases this
   ·exact h
   ·have := h1 (j + n) (by omega) h
    rw [g3] at this
    cases this
  dsimp only
  rw [List.length_take, List.length_drop, Nat.min_eq_left (by omega)]
  exact ⟨by rw [e], by omega⟩
def OQ (s : List UInt8) (i : Nat) : Option Nat :=
 bif occAt s [91, 58] i then Mb s (i + 2)
 else bif occAt s [91, 61] i then (bif occAt s [61, 93] (i + 3) then some (i + 5) else none)
 else match MP s i with
  | none => none
  | some (a, k) => bif occAt s [45] k && !occAt s [45, 93] k then
    (bif occAt s [91, 58] (k + 1) || occAt s [91, 61] (k + 1) then none else match MP s (k + 1) with
     | none => none
     | some (b, m) => if (b.toNat : Int) < (a.toNat : Int) then none else some m)
   else some k
theorem Tc {s : List UInt8} {i m : Nat} (h : OQ s i = some m) : i < m ∧ m ≤ s.length := by
 unfold OQ at h
 cases h1 : occAt s [91, 58] i with
 | true =>
  rw [h1, cond_true] at h
  have := Sz h
  omega
 | false =>
  rw [h1, cond_false] at h
  cases h2 : occAt s [91, 61] i with
  | true =>
   rw [h2, cond_true] at h
   cases h3 : occAt s [61, 93] (i + 3) <;> rw [h3] at h
   ·cases h
   ·have := Fe (by simp) h3
    simp only [List.length_cons, List.length_nil] at this
    rw [cond_true, Option.some.injEq] at h
    omega
  | false =>
   rw [h2, cond_false] at h
   cases h3 : MP s i with
   | none => rw [h3] at h; cases h
   | some r =>
    obtain ⟨a, k⟩ := r
    rw [h3] at h
    dsimp only at h
    have hk := MJ h3
    cases h4 : occAt s [45] k && !occAt s [45, 93] k with
    | false =>
     rw [h4, cond_false, Option.some.injEq] at h
     omega
    | true =>
     rw [h4, cond_true] at h
     cases h5 : occAt s [91, 58] (k + 1) || occAt s [91, 61] (k + 1) with
     | true => rw [h5] at h; cases h
     | false =>
      rw [h5, cond_false] at h
      cases h6 : MP s (k + 1) with
      | none => rw [h6] at h; cases h
      | some r =>
       obtain ⟨b, m'⟩ := r
       rw [h6] at h
       dsimp only at h
       have hm := MJ h6
       split at h
       ·cases h
       ·rw [Option.some.injEq] at h
        omega
theorem Uq {s : List UInt8} (hs : s.length ≤ 8192) {i : Nat} (hi : i ≤ s.length) (z : Ad) : W (EE ⟨s, (i : Int), true, z⟩) fun r => match OQ s i with | some m => r.1 = true ∧ ∃ z', r.2 = ⟨s, (m : Int), true, z'⟩ | none => r.1 = false := by
 unfold EE OQ
 rw [LJ (by simp) (by simp) hs hi, Option.bind_some]
 cases h1 : occAt s [91, 58] i with
 | true =>
  have := Fe (by simp) h1
  simp only [List.length_cons, List.length_nil] at this
  simp only [cond_true, BT, List.length_cons, List.length_nil, Nat.zero_add, Nat.reduceAdd]
  exact W.bind ((Rw hs (by omega) true z).mono fun r h => W.ret h)
 | false =>
  simp only [cond_false, AX]
  rw [LJ (by simp) (by simp) hs hi, Option.bind_some]
  cases h2 : occAt s [91, 61] i with
  | true =>
   have := Fe (by simp) h2
   simp only [List.length_cons, List.length_nil] at this
   simp only [cond_true, BT, List.length_cons, List.length_nil, Nat.zero_add, Nat.reduceAdd]
   rw [S6 hs rfl (by omega)]
   cases h3 : occAt s [61, 93] (i + 3) with
   | false =>
    rw [cond_false, Option.bind_some]
    exact W.any (Kn (a := 0) (b := 0) (by decide) (by decide)) fun _ => W.any (J8 _ _) fun _ => W.ret rfl
   | true =>
    rw [cond_true, Option.bind_some]
    have hb := Gy (s[i + 2]?.getD 0)
    exact W.any (Kn hb hb) fun _ => W.any (J8 _ _) fun _ => W.ret ⟨rfl, _, rfl⟩
  | false =>
   simp only [cond_false, AX]
   refine W.bind ((SH hs hi z).mono ?_)
   rintro ⟨x12, x13, x14⟩ hr
   cases h3 : MP s i with
   | none =>
    rw [h3] at hr
    dsimp only at hr
    subst hr
    exact W.ret rfl
   | some r =>
    obtain ⟨a, k⟩ := r
    rw [h3] at hr
    dsimp only at hr
    simp only [Prod.mk.injEq] at hr
    obtain ⟨rfl, rfl, rfl⟩ := hr
    have hk := MJ h3
    have ha := Gy a
    simp only [Bool.not_true, AX]
    rw [L4 hk.2, Option.bind_some, N2 (by simp) hk.2, Option.bind_some]
    have e : Ac (occAt s [45] k) ((B7 (s.drop k) [45, 93]).bind fun x34 => some (!x34)) (some false) = some (occAt s [45] k && !occAt s [45, 93] k) := by
     rw [N2 (by simp) hk.2, Option.bind_some]
     cases occAt s [45] k <;> rfl
    rw [e, Option.bind_some]
    cases h4 : occAt s [45] k && !occAt s [45, 93] k with
    | false =>
     simp only [AX, cond_false, Option.bind_some]
     exact W.any (Kn ha ha) fun _ => W.any (J8 _ _) fun _ => W.ret ⟨rfl, _, rfl⟩
    | true =>
     have h45 : occAt s [45] k = true := by simp only [Bool.and_eq_true] at h4; exact h4.1
     have hk1 := Fe (by simp) h45
     simp only [List.length_cons, List.length_nil] at hk1
     simp only [BT, cond_true]
     rw [show (1 : Int) = ((1 : Nat) : Int) from rfl, L4 (by rw [List.length_drop]; omega), Option.bind_some, List.drop_drop, N2 (by simp) (by omega), Option.bind_some]
     have e2 : Ac (occAt s [91, 58] (k + 1)) (some true) ((B7 (s.drop (k + 1)) [91, 61]).bind fun x38 => some x38) = some (occAt s [91, 58] (k + 1) || occAt s [91, 61] (k + 1)) := by
      rw [N2 (by simp) (by omega), Option.bind_some]
      cases occAt s [91, 58] (k + 1) <;> rfl
     rw [e2, Option.bind_some]
     cases h5 : occAt s [91, 58] (k + 1) || occAt s [91, 61] (k + 1) with
     | true =>
      simp only [BT, cond_true, Option.bind_some]
      exact W.ret rfl
     | false =>
      simp only [AX, cond_false]
      rw [show (((1 : Nat) : Int)) = (1 : Int) from rfl, Ff (by omega)]
      refine W.bind (W.bind ((SH hs (i := k + 1) (by omega) z).mono ?_))
      rintro ⟨x39, x40, x41⟩ hr
      cases h6 : MP s (k + 1) with
      | none =>
       rw [h6] at hr
       dsimp only at hr
       subst hr
       exact W.ret (W.ret rfl)
      | some r =>
       obtain ⟨b, m⟩ := r
       rw [h6] at hr
       dsimp only at hr
       simp only [Prod.mk.injEq] at hr
       obtain ⟨rfl, rfl, rfl⟩ := hr
       have hb := Gy b
       simp only [Bool.not_true, Bool.false_or]
       rw [BH]
       split
       ·rename_i hlt
        exact W.ret (W.ret rfl)
       ·rename_i hlt
        exact W.ret (W.any (Kn ha hb) fun _ => W.any (J8 _ _) fun _ => W.ret ⟨rfl, _, rfl⟩)
theorem UN {s : List UInt8} (hs : s.length ≤ 8192) {i fr : Nat} (hi : i < s.length) {t : List UInt8} (ht : t.length ≤ 1000 * i) (hne : (((s[i].toNat : Int) == 93) && decide ((i : Int) > (fr : Int))) = false) : W (CJ s true (fr : Int) ((i : Int), t)) fun o => match OQ s i with | some m => ∃ t', o = .inl ((m : Int), t') ∧ t'.length ≤ 1000 * m | none => o = .inr (.inr ()) := by
 unfold CJ OQ
 dsimp only
 rw [BH, if_neg (by omega), CP hi, Option.bind_some, hne, AX, ER (by simp) (by omega) (by simp), Option.bind_some]
 cases h1 : occAt s [91, 58] i with
 | true =>
  have := Fe (by simp) h1
  simp only [List.length_cons, List.length_nil] at this
  rw [BT, cond_true, J4 (x := (i : Int) + 2) (by omega) (by omega), show (i : Int) + 2 = ((i + 2 : Nat) : Int) by omega]
  unfold Mb
  refine W.bind ((Rz hs (by omega)).mono fun k hk => ?_)
  cases hc : (Lib.cut (s.drop (i + 2)) [58, 93]).2.2 with
  | false =>
   rw [hc] at hk
   dsimp only at hk
   rw [BH, if_pos (by omega)]
   exact W.ret rfl
  | true =>
   rw [hc] at hk
   dsimp only at hk
   obtain ⟨rfl, hk⟩ := hk
   rw [BH, if_neg (by omega), II (by omega) (by omega), Option.bind_some, cond_true, Nat.add_sub_cancel_left]
   have hx : (s.drop (i + 2)).take (Lib.cut (s.drop (i + 2)) [58, 93]).1.length = (Lib.cut (s.drop (i + 2)) [58, 93]).1 := by
    rcases NA s (i + 2) with ⟨g1, _⟩ | ⟨n, _, g2, _, _⟩
    ·rw [g1] at hc; cases hc
    ·rw [g2, List.length_take, ← List.take_take]
     rw [List.take_length]
   rw [hx]
   refine W.bind ((Vg _).mono ?_)
   rintro ⟨x18, x19⟩ ⟨e, hl⟩
   dsimp only at e hl
   subst e
   cases ho : KQ (Lib.cut (s.drop (i + 2)) [58, 93]).1 with
   | false => exact W.ret rfl
   | true =>
    rw [Bool.not_true, AX]
    dsimp only
    refine W.Ca (decide_eq_true (by omega)) (W.ret ⟨_, by rw [J4 (by omega) (by omega)]; rfl, by rw [List.length_append]; omega⟩)
 | false =>
  rw [AX, cond_false, ER (by simp) (by omega) (by simp), Option.bind_some]
  cases h2 : occAt s [91, 61] i with
  | true =>
   rw [BT, cond_true, J4 (x := (i : Int) + 3) (by omega) (by omega), J4 (x := (i : Int) + 2) (by omega) (by omega), J4 (x := (i : Int) + 5) (by omega) (by omega), show (i : Int) + 3 = ((i + 3 : Nat) : Int) by omega, ER (by simp) (by omega) (by simp), Option.bind_some]
   cases h3 : occAt s [61, 93] (i + 3) with
   | false => exact W.ret rfl
   | true =>
    have := Fe (by simp) h3
    simp only [List.length_cons, List.length_nil] at this
    rw [Bool.not_true, AX, cond_true, show (i : Int) + 2 = ((i + 2 : Nat) : Int) by omega, II (by omega) (by omega), Option.bind_some]
    refine W.Ca (decide_eq_true (by rw [List.length_take]; omega)) (W.ret ⟨_, rfl, by rw [List.length_append, List.length_take]; omega⟩)
  | false =>
   rw [AX, cond_false]
   refine W.bind ((Pb hs (by omega)).mono ?_)
   rintro ⟨x23, x24⟩ hr
   cases h3 : MP s i with
   | none =>
    rw [h3] at hr
    dsimp only at hr
    subst hr
    exact W.ret rfl
   | some r =>
    obtain ⟨a, k⟩ := r
    rw [h3] at hr
    dsimp only at hr
    simp only [Prod.mk.injEq] at hr
    obtain ⟨rfl, rfl⟩ := hr
    have hk := MJ h3
    have ha := Gy a
    dsimp only
    rw [BH, if_neg (by omega), ER (by simp) (by omega) (by simp), Option.bind_some]
    have e : Ac (occAt s [45] k) ((BC s (k : Int) [45, 93]).bind fun x29 => some (!x29)) (some false) = some (occAt s [45] k && !occAt s [45, 93] k) := by
     rw [ER (by simp) (by omega) (by simp), Option.bind_some]
     cases occAt s [45] k <;> rfl
    rw [e, Option.bind_some]
    have fin : ∀ {x : Int} {m : Nat}, 0 ≤ x → x ≤ 255 → k ≤ m → W ((BJ (a.toNat : Int) x).bind fun x35 => Ca (decide (t.length + x35.length ≤ 9223372036854775807)) (some (Sum.inl ((m : Int), t ++ x35) : (Int × List UInt8) ⊕ ((Int × List UInt8) ⊕ Unit)))) fun o => ∃ t', o = .inl ((m : Int), t') ∧ t'.length ≤ 1000 * m := by
     intro x m h0 h1 h2
     refine W.bind ((Pj (by omega) (by omega) h1).mono fun y hy => W.Ca (decide_eq_true (by omega)) (W.ret ⟨_, rfl, by rw [List.length_append]; omega⟩))
    cases h4 : occAt s [45] k && !occAt s [45, 93] k with
    | false =>
     rw [AX, cond_false, Option.bind_some]
     exact fin ha.1 ha.2 (Nat.le_refl k)
    | true =>
     have h45 : occAt s [45] k = true := by simp only [Bool.and_eq_true] at h4; exact h4.1
     have hk1 := Fe (by simp) h45
     simp only [List.length_cons, List.length_nil] at hk1
     rw [BT, cond_true, Ff (by omega), ER (by simp) (by omega) (by simp), Option.bind_some]
     have e2 : Ac (occAt s [91, 58] (k + 1)) (some true) ((BC s ((k + 1 : Nat) : Int) [91, 61]).bind fun x32 => some x32) = some (occAt s [91, 58] (k + 1) || occAt s [91, 61] (k + 1)) := by
      rw [ER (by simp) (by omega) (by simp), Option.bind_some]
      cases occAt s [91, 58] (k + 1) <;> rfl
     rw [e2, Option.bind_some]
     cases h5 : occAt s [91, 58] (k + 1) || occAt s [91, 61] (k + 1) with
     | true => exact W.ret rfl
     | false =>
      rw [AX, cond_false]
      refine W.bind (W.bind ((Pb hs (i := k + 1) (by omega)).mono ?_))
      rintro ⟨x33, x34⟩ hr
      cases h6 : MP s (k + 1) with
      | none =>
       rw [h6] at hr
       dsimp only at hr
       subst hr
       dsimp only
       rw [BH, if_pos (by omega)]
       exact W.ret (W.ret rfl)
      | some r =>
       obtain ⟨b, m⟩ := r
       rw [h6] at hr
       dsimp only at hr
       simp only [Prod.mk.injEq] at hr
       obtain ⟨rfl, rfl⟩ := hr
       have hb := Gy b
       have hm := MJ h6
       dsimp only
       rw [BH]
       split
       ·exact W.ret (W.ret rfl)
       ·exact W.ret (fin hb.1 hb.2 (by omega))
theorem Rc {s : List UInt8} (hs : s.length ≤ 8192) (fr : Nat) : ∀ (n i : Nat) (t : List UInt8) (z : Ad), s.length - i < n → fr ≤ i → t.length ≤ 1000 * i → i ≤ s.length →
  ∃ res : Option Nat, (∀ m, res = some m → i ≤ m ∧ m < s.length) ∧
   (W (Av.loop (Cv s) (s, (i : Int), true, z.w0, z.w1, z.w2, z.w3, !decide ((i : Int) > (fr : Int)))) fun o => match res with | some m => ∃ a b c d, o = .inl (s, (m : Int), true, a, b, c, d) | none => ∃ a b c d e f g, o = .inr (a, b, c, d, e, f, g, 0, 11)) ∧
   (W (Av.loop (CJ s true (fr : Int)) ((i : Int), t)) fun o => match res with | some m => ∃ t', o = .inl ((m : Int), t') ∧ t'.length ≤ 1000 * 8192 | none => o = .inr ()) := by
 intro n
 induction n with
 | zero => intro i t z h1 h2 h3 h4; omega
 | succ n ih =>
  intro i t z h1 h2 h3 h4
  by_cases hl : i < s.length
  ·cases hb : ((s[i].toNat : Int) == 93) && decide ((i : Int) > (fr : Int)) with
   | true =>
    refine ⟨some i, fun m hm => by cases hm; omega, W.MH ?_, W.MH ?_⟩
    ·rw [Cv, BH, if_neg (by omega), CP hl, Option.bind_some, Bool.not_not, hb, BT]
     exact W.ret ⟨_, _, _, _, rfl⟩
    ·rw [CJ, BH, if_neg (by omega), CP hl, Option.bind_some, hb, BT]
     exact W.ret ⟨_, rfl, by omega⟩
   | false =>
    have hp := Uq hs h4 z
    have hr := UN hs hl h3 hb
    cases hi : OQ s i with
    | none =>
     rw [hi] at hp hr
     refine ⟨none, fun m hm => (by cases hm), W.MH ?_, W.MH ?_⟩
     ·rw [Cv, BH, if_neg (by omega), CP hl, Option.bind_some, Bool.not_not, hb, AX]
      refine W.bind (hp.mono ?_)
      rintro ⟨x48, x49⟩ e
      dsimp only at e
      subst e
      exact W.ret ⟨_, _, _, _, _, _, _, rfl⟩
     ·exact hr.mono fun o ho => by dsimp only at ho; subst ho; rfl
    | some m =>
     rw [hi] at hp hr
     have hm := Tc hi
     obtain ⟨⟨x48, x49⟩, ep, hp⟩ := hp
     obtain ⟨o, er, hr⟩ := hr
     dsimp only at hp hr
     obtain ⟨rfl, z', rfl⟩ := hp
     obtain ⟨t', rfl, ht'⟩ := hr
     obtain ⟨res, g1, g2, g3⟩ := ih m t' z' (by omega) (by omega) ht' hm.2
     refine ⟨res, fun m' hm' => by have := g1 m' hm'; omega, W.MH ?_, W.MH ?_⟩
     ·rw [Cv, BH, if_neg (by omega), CP hl, Option.bind_some, Bool.not_not, hb, AX]
      have hf : (!decide ((m : Int) > (fr : Int))) = false := by rw [decide_eq_true (by omega)]; rfl
      rw [hf] at g2
      refine W.bind ⟨_, ep, ?_⟩
      exact W.ret g2
     ·exact ⟨_, er, g3⟩
  ·refine ⟨none, fun m hm => (by cases hm), W.MH ?_, W.MH ?_⟩
   ·rw [Cv, BH, if_pos (by omega)]
    exact W.ret ⟨_, _, _, _, _, _, _, rfl⟩
   ·rw [CJ, BH, if_pos (by omega)]
    exact W.ret rfl
theorem R1 {s : List UInt8} (hs : s.length ≤ 8192) {i : Nat} (hi : i < s.length) (h91 : (s[i].toNat : Int) = 91) : ∃ z n e, ∃ g : Ce, Eo s (i : Int) true = some (z, n, e) ∧ DL s (i : Int) true = some g ∧ ((g.Ok = true ∧ e = 0 ∧ n = g.At ∧ ∃ m : Nat, g.At = (m : Int) ∧ i < m ∧ m ≤ s.length) ∨ (g.Ok = false ∧ e = 11)) := by
 obtain ⟨T, hT⟩ : ∃ T, (occAt s [94] (i + 1) || occAt s [33] (i + 1)) = T := ⟨_, rfl⟩
 obtain ⟨fr, hfr⟩ : ∃ fr : Nat, (bif T then i + 2 else i + 1) = fr := ⟨_, rfl⟩
 have hb : fr ≤ s.length ∧ i < fr := by
  cases T
  ·simp only [cond_false] at hfr; omega
  ·simp only [cond_true] at hfr
   rw [Bool.or_eq_true] at hT
   rcases hT with h | h
   ·have := Fe (by simp) h; simp only [List.length_cons, List.length_nil] at this; omega
   ·have := Fe (by simp) h; simp only [List.length_cons, List.length_nil] at this; omega
 obtain ⟨res, h1, h2, h3⟩ := Rc hs fr (s.length + 1 - fr) fr [] ⟨0, 0, 0, 0⟩ (by omega) (Nat.le_refl _) (by simp) hb.1
 have hd : (!decide ((fr : Int) > (fr : Int))) = true := by rw [decide_eq_false (by omega)]; rfl
 rw [hd] at h2
 have eP : Eo s (i : Int) true = (Av.loop (Cv s) (s, (fr : Int), true, 0, 0, 0, 0, true)).bind fun o1 => (match o1 with | .inl (x31, x32, x33, x34, x35, x36, x37) => (Ac T ((EC (⟨x34, x35, x36, x37⟩ : Ad)).bind fun x54 => some (x54.w0, x54.w1, x54.w2, x54.w3)) (some (x34, x35, x36, x37)) : Option ((Int × Int × Int × Int))).bind fun (x50, x51, x52, x53) => some ((⟨x50, x51, x52, x53⟩ : Ad), IntKind.i64.wrap (x32 + 1), (0 : Int)) | .inr (x38, x39, x40, x41, x42, x43, x44, x45, x46) => some ((⟨(0 : Int), (0 : Int), (0 : Int), (0 : Int)⟩ : Ad), x45, x46)) := by
  unfold Eo
  rw [decide_eq_false (by omega), decide_eq_false (by omega), Bool.or_false, AX, CP hi, Option.bind_some, h91, bne_self_eq_false, Option.bind_some, AX, Ff (by omega), LJ (by simp) (by simp) hs (by omega), Option.bind_some]
  cases g1 : occAt s [94] (i + 1) with
  | true =>
   rw [g1, Bool.true_or] at hT
   subst hT
   simp only [cond_true] at hfr
   subst hfr
   rfl
  | false =>
   rw [g1, Bool.false_or] at hT
   simp only [cond_false, AX, BT]
   rw [LJ (by simp) (by simp) hs (by omega), hT]
   cases T
   ·simp only [cond_false] at hfr; subst hfr; rfl
   ·simp only [cond_true] at hfr; subst hfr; rfl
 have eR : DL s (i : Int) true = (Av.loop (CJ s true (fr : Int)) ((fr : Int), ([] : List UInt8))).bind fun o2 => (match o2 with | .inl (x9, x10) => Ac T ((BJ (0 : Int) (255 : Int)).bind fun x36 => (Cd x36 x10).bind fun x37 => some (⟨x37, IntKind.i64.wrap (x9 + 1), true⟩ : Ce)) ((C8 x10).bind fun x38 => some (⟨x38, IntKind.i64.wrap (x9 + 1), true⟩ : Ce)) | .inr _ => some (⟨([] : List UInt8), (0 : Int), false⟩ : Ce)) := by
  unfold DL
  rw [Ff (by omega), ER (by simp) (by omega) (by simp), Option.bind_some, Ff (by omega)]
  cases g1 : occAt s [94] (i + 1) with
  | true =>
   rw [g1, Bool.true_or] at hT
   subst hT
   simp only [cond_true] at hfr
   subst hfr
   rfl
  | false =>
   rw [g1, Bool.false_or] at hT
   simp only [AX, BT]
   rw [ER (by simp) (by omega) (by simp), hT]
   cases T
   ·simp only [cond_false] at hfr; subst hfr; rfl
   ·simp only [cond_true] at hfr; subst hfr; rfl
 cases res with
 | none =>
  obtain ⟨o, eo, a, b, c, d, e, f, g, rfl⟩ := h2
  obtain ⟨o', eo', rfl⟩ := h3
  rw [eo] at eP
  rw [eo'] at eR
  exact ⟨_, _, _, _, eP, eR, .inr ⟨rfl, rfl⟩⟩
 | some m =>
  obtain ⟨hm1, hm2⟩ := h1 m rfl
  obtain ⟨o, eo, a, b, c, d, rfl⟩ := h2
  obtain ⟨o', eo', t', rfl, ht'⟩ := h3
  rw [eo] at eP
  rw [eo'] at eR
  simp only [Option.bind_some] at eP eR
  rw [Ff (by omega)] at eP eR
  cases T with
  | true =>
   simp only [BT] at eP eR
   obtain ⟨z, hz, _⟩ := Tt ⟨a, b, c, d⟩
   obtain ⟨y, hy, ly⟩ := Pj (a := 0) (b := 255) (by decide) (by decide) (by decide)
   obtain ⟨w, hw, _⟩ := N1 (a := y) (s := t') (by omega) (by omega)
   rw [hz] at eP
   rw [hy, Option.bind_some, hw, Option.bind_some] at eR
   exact ⟨_, _, _, _, eP, eR, .inl ⟨rfl, rfl, rfl, m + 1, rfl, by omega, by omega⟩⟩
  | false =>
   simp only [AX] at eP eR
   obtain ⟨w, hw, _⟩ := S9 (s := t') (by omega)
   rw [hw, Option.bind_some] at eR
   exact ⟨_, _, _, _, eP, eR, .inl ⟨rfl, rfl, rfl, m + 1, rfl, by omega, by omega⟩⟩
end Go.Av.L
