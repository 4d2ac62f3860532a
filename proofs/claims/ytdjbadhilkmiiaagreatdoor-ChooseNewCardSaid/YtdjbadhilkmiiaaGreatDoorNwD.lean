/-
 A part.
-/
import Derived.Test.YtdjbadhilkmiiaaGreatDoorNwC
namespace Go.Av.L
open Go.Av Go.Lib
set_option linter.unusedVariables false
set_option linter.unusedSimpArgs false
theorem RZ {s : List UInt8} (hs : s.length ≤ 1000) : ∀ (n i : Nat) (a : List AM) (b : List AI), s.length - i < n → a.length = b.length → a.length ≤ i → i ≤ s.length →
  (∃ a' b', Av.loop (Bm s) (a, (i : Int)) = some (.inl a') ∧ Av.loop (Ax s) (b, (i : Int)) = some (.inl b') ∧ a'.length ≤ s.length) ∨
  (∃ p p' e, e ≠ 0 ∧ Av.loop (Bm s) (a, (i : Int)) = some (.inr (p, e)) ∧ Av.loop (Ax s) (b, (i : Int)) = some (.inr (p', e))) := by
 intro n
 induction n with
 | zero => intro i a b h; omega
 | succ n ih =>
  intro i a b h hab hai hi
  by_cases hl : i < s.length
  ·have ha0 : ((a.length : Int) == 1024) = false := by rw [beq_eq_false_iff_ne]; omega
   have hb0 : decide ((b.length : Int) ≥ 1024) = false := decide_eq_false (by omega)
   have hc := Gy s[i]
   have step : ∀ (x : AM) (y : AI) (m : Nat), i < m → m ≤ s.length → Bm s (a, (i : Int)) = some (.inl (a ++ [x], (m : Int))) → Ax s (b, (i : Int)) = some (.inl (b ++ [y], (m : Int))) →
     (∃ a' b', Av.loop (Bm s) (a, (i : Int)) = some (.inl a') ∧ Av.loop (Ax s) (b, (i : Int)) = some (.inl b') ∧ a'.length ≤ s.length) ∨
     (∃ p p' e, e ≠ 0 ∧ Av.loop (Bm s) (a, (i : Int)) = some (.inr (p, e)) ∧ Av.loop (Ax s) (b, (i : Int)) = some (.inr (p', e))) := by
    intro x y m h1 h2 e1 e2
    rw [Jg e1, Jg e2]
    exact ih m (a ++ [x]) (b ++ [y]) (by omega) (by simp [hab]) (by simp; omega) h2
   have stop : ∀ (p p' e : Int), e ≠ 0 → Bm s (a, (i : Int)) = some (.inr (.inr (p, e))) → Ax s (b, (i : Int)) = some (.inr (.inr (p', e))) →
     (∃ a' b', Av.loop (Bm s) (a, (i : Int)) = some (.inl a') ∧ Av.loop (Ax s) (b, (i : Int)) = some (.inl b') ∧ a'.length ≤ s.length) ∨
     (∃ p p' e, e ≠ 0 ∧ Av.loop (Bm s) (a, (i : Int)) = some (.inr (p, e)) ∧ Av.loop (Ax s) (b, (i : Int)) = some (.inr (p', e))) :=
    fun p p' e h0 e1 e2 => .inr ⟨p, p', e, h0, El e1, El e2⟩
   have oa : ∀ x : AM, Lw 48 (a.length + ([x] : List AM).length) = true := fun x => Im (by simp only [List.length_cons, List.length_nil]; omega) (by simp only [List.length_cons, List.length_nil]; omega)
   have ob : ∀ x : AI, Lw 32 (b.length + ([x] : List AI).length) = true := fun x => Im (by simp only [List.length_cons, List.length_nil]; omega) (by simp only [List.length_cons, List.length_nil]; omega)
   by_cases c1 : (s[i].toNat : Int) = 42
   ·refine step ⟨4, 0, ⟨0, 0, 0, 0⟩⟩ ⟨4, 0, []⟩ (i + 1) (by omega) (by omega) ?_ ?_
    ·rw [Bm, BH, if_pos (by omega), ha0, AX, CP hl, Option.bind_some, c1, oa, Ff (by omega)]; rfl
    ·rw [Ax, BH, if_pos (by omega), hb0, AX, CP hl, Option.bind_some, c1, ob]
     simp only [beq_self_eq_true, BT, DZ, Option.bind_some]
     rw [Ff (by omega)]
   by_cases c2 : (s[i].toNat : Int) = 63
   ·refine step ⟨2, 0, ⟨0, 0, 0, 0⟩⟩ ⟨2, 0, []⟩ (i + 1) (by omega) (by omega) ?_ ?_
    ·rw [Bm, BH, if_pos (by omega), ha0, AX, CP hl, Option.bind_some, c2, oa, oa, Ff (by omega)]; rfl
    ·rw [Ax, BH, if_pos (by omega), hb0, AX, CP hl, Option.bind_some, c2, ob, ob]
     rw [show ((63 : Int) == 42) = false from rfl, AX]
     simp only [beq_self_eq_true, BT, DZ, Option.bind_some]
     rw [Ff (by omega)]
   by_cases c3 : (s[i].toNat : Int) = 91
   ·obtain ⟨z, n', e, g, e1, e2, h3⟩ := R1 (s := s) (by omega) hl c3
    rcases h3 with ⟨ho, rfl, rfl, m, hm, hm1, hm2⟩ | ⟨ho, rfl⟩
    ·refine step ⟨3, 0, z⟩ ⟨3, 0, g.S⟩ m hm1 hm2 ?_ ?_
     ·rw [Bm, BH, if_pos (by omega), ha0, AX, CP hl, Option.bind_some, c3]
      rw [show ((91 : Int) == 42) = false from rfl, AX, show ((91 : Int) == 63) = false from rfl, AX, beq_self_eq_true, BT, e1, Option.bind_some]
      dsimp only
      rw [bne_self_eq_false, AX, oa, DZ, hm]
     ·rw [Ax, BH, if_pos (by omega), hb0, AX, CP hl, Option.bind_some, c3]
      rw [show ((91 : Int) == 42) = false from rfl, AX, show ((91 : Int) == 63) = false from rfl, AX, beq_self_eq_true, BT, e2, Option.bind_some, ho, Bool.not_true, AX, ob, DZ]
      simp only [Option.bind_some]
      rw [hm, J4 (x := (m : Int) - 1) (by omega) (by omega), J4 (by omega) (by omega), show (m : Int) - 1 + 1 = (m : Int) by omega]
    ·refine stop (i : Int) (i : Int) 11 (by decide) ?_ ?_
     ·rw [Bm, BH, if_pos (by omega), ha0, AX, CP hl, Option.bind_some, c3]
      rw [show ((91 : Int) == 42) = false from rfl, AX, show ((91 : Int) == 63) = false from rfl, AX, beq_self_eq_true, BT, e1, Option.bind_some]
      rfl
     ·rw [Ax, BH, if_pos (by omega), hb0, AX, CP hl, Option.bind_some, c3]
      rw [show ((91 : Int) == 42) = false from rfl, AX, show ((91 : Int) == 63) = false from rfl, AX, beq_self_eq_true, BT, e2, Option.bind_some, ho]
      rfl
   have d1 : ((s[i].toNat : Int) == 42) = false := beq_eq_false_iff_ne.2 c1
   have d2 : ((s[i].toNat : Int) == 63) = false := beq_eq_false_iff_ne.2 c2
   have d3 : ((s[i].toNat : Int) == 91) = false := beq_eq_false_iff_ne.2 c3
   by_cases c4 : (s[i].toNat : Int) = 92
   ·by_cases hlast : i + 1 = s.length
    ·refine stop (i : Int) (i : Int) 11 (by decide) ?_ ?_
     ·rw [Bm, BH, if_pos (by omega), ha0, AX, CP hl, Option.bind_some, d1, d2, d3, c4, AX, AX, AX, beq_self_eq_true, BT, J4 (x := (s.length : Int) - 1) (by omega) (by omega), Np, if_pos (by omega)]
     ·rw [Ax, BH, if_pos (by omega), hb0, AX, CP hl, Option.bind_some, d1, d2, d3, c4, AX, AX, AX, beq_self_eq_true, BT, Ff (by omega), BH, if_pos (by omega)]
      rfl
    ·refine step ⟨1, (s[i + 1].toNat : Int), ⟨0, 0, 0, 0⟩⟩ ⟨1, (s[i + 1].toNat : Int), []⟩ (i + 2) (by omega) (by omega) ?_ ?_
     ·rw [Bm, BH, if_pos (by omega), ha0, AX, CP hl, Option.bind_some, d1, d2, d3, c4, AX, AX, AX, beq_self_eq_true, BT, J4 (x := (s.length : Int) - 1) (by omega) (by omega), Np, if_neg (by omega), Ff (by omega), CP (by omega), Option.bind_some, oa, DZ, J4 (by omega) (by omega)]
      rfl
     ·rw [Ax, BH, if_pos (by omega), hb0, AX, CP hl, Option.bind_some, d1, d2, d3, c4, AX, AX, AX, beq_self_eq_true, BT, Ff (by omega), BH, if_neg (by omega), Option.bind_some]
      dsimp only
      rw [CP (by omega), Option.bind_some, ob, DZ, Option.bind_some]
      dsimp only
      rw [Ff (by omega)]
   ·have d4 : ((s[i].toNat : Int) == 92) = false := beq_eq_false_iff_ne.2 c4
    refine step ⟨1, (s[i].toNat : Int), ⟨0, 0, 0, 0⟩⟩ ⟨1, (s[i].toNat : Int), []⟩ (i + 1) (by omega) (by omega) ?_ ?_
    ·rw [Bm, BH, if_pos (by omega), ha0, AX, CP hl, Option.bind_some, d1, d2, d3, d4, AX, AX, AX, AX, oa, DZ, Ff (by omega)]
    ·rw [Ax, BH, if_pos (by omega), hb0, AX, CP hl, Option.bind_some, d1, d2, d3, d4, AX, AX, AX, AX, Option.bind_some]
     dsimp only
     rw [CP hl, Option.bind_some, ob, DZ, Option.bind_some]
     dsimp only
     rw [Ff (by omega)]
  ·refine .inl ⟨a, b, El ?_, El ?_, by omega⟩
   ·rw [Bm, BH, if_neg (by omega)]
   ·rw [Ax, BH, if_neg (by omega)]
theorem TA {s : List UInt8} (hs : s.length ≤ 1000) : ∃ a p e b p', Fy s = some (a, p, e) ∧ CB s = some (b, p', e) ∧ (e = 0 → a.length ≤ s.length) := by
 unfold Fy CB
 rcases RZ hs (s.length + 1) 0 [] [] (by omega) rfl (Nat.le_refl _) (Nat.zero_le _) with ⟨a', b', e1, e2, hl⟩ | ⟨p, p', e, h0, e1, e2⟩
 ·rw [show (0 : Int) = ((0 : Nat) : Int) from rfl, e1, e2]
  exact ⟨_, _, _, _, _, rfl, rfl, fun _ => hl⟩
 ·rw [show (0 : Int) = ((0 : Nat) : Int) from rfl, e1, e2]
  exact ⟨_, _, _, _, _, rfl, rfl, fun h => absurd h h0⟩
end Go.Av.L
